/-
 A book's calls: Counts,Differ.
 A book's calls: Differ.
 A new book;plays and calls as values;far;the beginning of a play.
 far,alone.
 The example.
 A play: the books behind its calls.
 SnapshotBytes: what spaces have;empty.
-/
import Derived.Test.YtphggldkligldaaGreatQat
set_option linter.unusedSimpArgs false
set_option linter.unusedVariables false
set_option maxHeartbeats 3200000
namespace Go.Pol
open Go.Am
theorem eqL_map {f g:Nat→Int}:∀ l:List Nat,eqL (l.map fun _=>0) (l.map fun j=>.int .u8 (f j)) (l.map fun j=>.int .u8 (g j))=some (decide (∀ j ∈ l,f j=g j))
 | []=>by simp [eqL]
 | x::l=>by
  simp only [List.map_cons,eqL,eq1,if_true,eqL_map l,Option.map_some,Option.bind_some,Option.some.injEq]
  rw [Bool.eq_iff_iff]
  simp
theorem eqL_bc {f g:Nat→Int}:eqL (List.replicate 64 0) (bcA f) (bcA g)=some (decide (eqB f g)):=by
 have h:=eqL_map (f:=f) (g:=g) (List.range 64)
 have h0:(List.range 64).map (fun _=>0)=List.replicate 64 0:=by rw [List.map_const',List.length_range]
 unfold bcA memA
 rw [← h0,h]
 congr 1
 refine decide_eq_decide.2 ?_
 unfold eqB
 simp only [List.mem_range]
theorem BI1 {a b:Nat} {p:Prop} [Decidable p] (h:a=b+if p then 1 else 0):(p→a=b+1)∧(¬ p→a=b):=⟨fun hp=>by rw [if_pos hp] at h;exact h,fun hp=>by rw [if_neg hp] at h;exact h⟩
def Bk.difN (b:Bk) (x y k:Nat):List Int:=((List.range k).filter fun k=>b.dif x y k).map fun k=>((k:Nat):Int)
theorem dif_0 {b:Bk} {x y:Nat}:b.difN x y 0=[]:=rfl
theorem dif_s {b:Bk} {x y k:Nat}:b.difN x y (k+1)=if b.dif x y k=true then b.difN x y k++[((k:Nat):Int)] else b.difN x y k:=by
 unfold Bk.difN
 rw [List.range_succ,List.filter_append,List.map_append]
 by_cases h:b.dif x y k=true<;>simp [h]
theorem dif_le {b:Bk} {x y k:Nat}:(b.difN x y k).length≤k:=by
 unfold Bk.difN;rw [List.length_map];exact Nat.le_trans (List.length_filter_le ..) (by rw [List.length_range];exact Nat.le_refl _)
end Go.Pol
namespace Go.Proofs.YtphggldkligldaaGreat.Sh
open Go Go.Am Go.Pol
theorem ppx_Jg {p:Prop} (h:p:=by ((first|with_reducible assumption|(with_reducible first|apply F5|apply F8|apply P9|apply P5 _ _|apply Y0|apply AU9|apply G8|apply Aj1|apply AU3|apply AW5|apply K9 AE5|fail)|exact ppw|fail);first|done|fail)):p:=h
open Go.Proofs.YtphggldkligldaaGreat.Sh renaming plx_Je → plx
open Go.Proofs.YtphggldkligldaaGreat.Sh renaming ppx_Jg → ppx
theorem wx_Jg {p q:Prop} (hq:q) (h:X5 q→p:=by (intro hQz;((repeat' ((try (conv=>whnf));first|refine sxA ?_|refine sxF ?_|refine Z0 (by assumption) rfl rfl rfl rfl rfl (by decide) rfl ?_|refine X6 hck rfl (by decide) ?_|refine AS7 E9 rfl hF hA hB rfl ?_|(refine X4 E9 b75 rfl ?_;unfold c75)|refine AI2 his rfl rfl rfl rfl rfl rfl rfl rfl (by decide) rfl ?_|refine sxH ?_|((with_reducible first|apply N9 hQz|apply O1 hQz)<;>(try intro hsp hQz))|exact hQz.out))<;>(try (conv=>whnf))))):p:=h ⟨hq⟩
section
variable {q:Bk} {t:TS}
theorem BN5 {a b c d:Int}:Plain (.tup [.int .i64 a,.int .i64 b,.int .i64 c,.int .i64 d]):=G7 fun x hx=>by
 simp only [List.mem_cons,List.not_mem_nil,or_false] at hx
 rcases hx with rfl|rfl|rfl|rfl<;>exact A8
theorem b_Counts (hg:H6 q) (h:TOk q.L t):AG4 34 0 [] q t (.tup [.int .i64 (q.used:Nat),.int .i64 (q.idle:Nat),.int .i64 (q.many:Nat),.int .i64 0]) q t:=by
 refine AG4.mk (D9 E9 b34 rfl ?_) (fun x hx=>by cases hx) BN5
 have hrng:=hg.rng
 have his:=b_is (q:=q) (t:=t)
 rw [used_R,idle_R,many_R]
 unfold c34
 unfold bkN rdN
 generalize hpu:(fun f=>decide (0 < cntF q.L f))=pu
 generalize hpi:(fun f=>decide (cntF q.L f=0∧q.s.K f=2))=pi
 generalize hpm:(fun f=>decide (1 < cntF q.L f))=pm
 (refine wx_Jg ?_;repeat' (first|with_reducible refine And.intro ?_ ?_|intro hsp))
 refine AR8 E9 b137 rfl trivial ?_
 intro frl asl bdl hF hA hB
 unfold c137
 (refine wx_Jg ?_;repeat' (first|with_reducible refine And.intro ?_ ?_|intro hsp))
 (refine F6 [0,1] (fun (i:Nat)=>[(3,.int .i64 ((q.a+i:Nat):Int))]) (fun (i:Nat)=>⟨bkN q t 0 1 2 3 4 5 6 7++[(8,.cells [.int .i64 (BD6 pu q.a i:Nat)]),(9,.cells [.int .i64 (BD6 pi q.a i:Nat)]),(10,.cells [.int .i64 (BD6 pm q.a i:Nat)]),(11,.cells [.ptr 1 0]),(12,.cells [.ptr 1 0]),(13,.loop .ready none frl [21,22] asl bdl)],14⟩) (fun (i:Nat)=>i≤q.n) (fun (i:Nat)=>q.n - i) (0) [] rfl (fun _=>by first|exact Nat.zero_le _|(dsimp only;omega)) ?_ (by ((try (conv=>whnf));exact F9)) ?_)
 ·exact Nat.zero_le _
 intro i hi
 have u1:=BJ8 (p:=pu) (a:=q.a) (i:=i)
 have u2:=BJ8 (p:=pi) (a:=q.a) (i:=i)
 have u3:=BJ8 (p:=pm) (a:=q.a) (i:=i)
 by_cases hil:i < q.n
 ·have hkd:=hg.kind (q.a+i) (by omega) (by omega)
  have hcn:=BE1 h (f:=q.a+i) (by omega)
  have hck:=p_kind (s:=q.s) (a:=((q.a+i:Nat):Int))
  rw [kind_at (by omega) hkd.2] at hck
  have s1:=cntR_s (p:=pu) (a:=q.a) (i:=i)
  have s2:=cntR_s (p:=pi) (a:=q.a) (i:=i)
  have s3:=cntR_s (p:=pm) (a:=q.a) (i:=i)
  have e1:pu (q.a+i)=decide (0 < cntF q.L (q.a+i)):=by rw [← hpu]
  have e2:pi (q.a+i)=decide (cntF q.L (q.a+i)=0∧q.s.K (q.a+i)=2):=by rw [← hpi]
  have e3:pm (q.a+i)=decide (1 < cntF q.L (q.a+i)):=by rw [← hpm]
  rw [e1] at s1
  rw [e2] at s2
  rw [e3] at s3
  simp only [decide_eq_true_eq] at s1 s2 s3
  have hkk:=hkd.1
  generalize cntF q.L (q.a+i)=n at *
  generalize q.s.K (q.a+i)=kk at *
  generalize BD6 pu q.a i=w1 at *
  generalize BD6 pi q.a i=w2 at *
  generalize BD6 pm q.a i=w3 at *
  clear e1 e2 e3 hpu hpi hpm
  have s1:=BI1 s1
  have s2:=BI1 s2
  have s3:=BI1 s3
  unfold bkN rdN
  (refine wx_Jg ?_;repeat' (first|with_reducible refine And.intro ?_ ?_|intro hsp))
  all_goals exact F3 (i+1) [] (by (try dsimp only);omega) (by first|omega|(dsimp only;omega)) rfl (by exact F9)
 ·obtain rfl:i=q.n:=by omega
  unfold bkN rdN
  generalize BD6 pu q.a q.n=w1 at *
  generalize BD6 pi q.a q.n=w2 at *
  generalize BD6 pm q.a q.n=w3 at *
  (refine wx_Jg ?_;repeat' (first|with_reducible refine And.intro ?_ ?_|intro hsp))
  all_goals exact O4 rfl BN5 rfl rfl rfl rfl rfl rfl rfl rfl
end
end Go.Proofs.YtphggldkligldaaGreat.Sh
namespace Go.Proofs.YtphggldkligldaaGreat.Sh
open Go Go.Am Go.Pol
theorem plx_Jh {p:Prop} (h:p:=by ((first|exact plw|(with_reducible first|apply O7|apply M8|apply Y1|apply plain_stA|apply AK1|apply AH1|apply M0|apply Ad1|fail)|fail);first|done|fail)):p:=h
open Go.Proofs.YtphggldkligldaaGreat.Sh renaming plx_Jh → plx
open Go.Proofs.YtphggldkligldaaGreat.Sh renaming ppx_Jg → ppx
theorem wx_Jh {p q:Prop} (hq:q) (h:X5 q→p:=by (intro hQz;((repeat' ((try (conv=>whnf));first|refine sxA ?_|refine sxF ?_|refine AI2 hi rfl rfl rfl rfl rfl rfl rfl rfl (by decide) rfl ?_|refine O5 (by assumption) ?_|refine Ae4 (f:=An0) (l2:=[((k:Nat):Int)]) AV4 (AT6 rfl (by first|rfl|(simp;done)|(simp [*];done))) (fun hz=>by first|(simp [lk,Am7,Ar2 hz,Q7 hz];done)|rfl) (fun hz=>by first|(simp [lk,Am7,lk_ownO,lk_tN hz,AZ1 hz];done)|rfl) (by first|rfl|(simp [flat,An0];done)|(simp [flat,An0, *];done)) (by decide) ⟨by omega,by omega⟩ rfl ?_|((with_reducible apply appx_q hQz);intro hQa hQb;refine Ae3 (f:=An0) (l2:=[((k:Nat):Int)]) AV4 (AT6 rfl (by first|rfl|(simp;done)|(simp [*];done))) (fun hz=>by first|(simp [lk,Am7,Ar2 hz,Q7 hz];done)|rfl) (by first|rfl|(simp [flat,An0];done)|(simp [flat,An0, *];done)) (by decide) ⟨by omega,by omega⟩ ?_ ?_<;>intro hzz<;>first|(have hQz:=X5.mk (hQa.out hzz))|(have hQz:=X5.mk (hQb.out hzz)))|refine As2 rfl ?_|refine Z0 f1 rfl rfl rfl rfl rfl (by decide) rfl ?_|refine Z0 f2 rfl rfl rfl rfl rfl (by decide) rfl ?_|refine sxH ?_|((with_reducible first|apply N9 hQz|apply O1 hQz)<;>(try intro hsp hQz))|exact hQz.out))<;>(try (conv=>whnf))))):p:=h ⟨hq⟩
theorem wx_Jhn {p q:Prop} (hq:q) (h:X5 q→p:=by (intro hQz;((repeat' ((try (conv=>whnf));first|refine sxA ?_|refine sxN ?_|refine Ae4 (f:=An0) (l2:=[((k:Nat):Int)]) AV4 (AT6 rfl (by first|rfl|(simp;done)|(simp [*];done))) (fun hz=>by first|(simp [lk,Am7,Ar2 hz,Q7 hz];done)|rfl) (fun hz=>by first|(simp [lk,Am7,lk_ownO,lk_tN hz,AZ1 hz];done)|rfl) (by first|rfl|(simp [flat,An0];done)|(simp [flat,An0, *];done)) (by decide) ⟨by omega,by omega⟩ rfl ?_|((with_reducible apply appx_q hQz);intro hQa hQb;refine Ae3 (f:=An0) (l2:=[((k:Nat):Int)]) AV4 (AT6 rfl (by first|rfl|(simp;done)|(simp [*];done))) (fun hz=>by first|(simp [lk,Am7,Ar2 hz,Q7 hz];done)|rfl) (by first|rfl|(simp [flat,An0];done)|(simp [flat,An0, *];done)) (by decide) ⟨by omega,by omega⟩ ?_ ?_<;>intro hzz<;>first|(have hQz:=X5.mk (hQa.out hzz))|(have hQz:=X5.mk (hQb.out hzz)))|refine As2 rfl ?_|refine Z0 f1 rfl rfl rfl rfl rfl (by decide) rfl ?_|refine Z0 f2 rfl rfl rfl rfl rfl (by decide) rfl ?_|refine BJ6 (o:=0) y1 rfl rfl rfl rfl rfl rfl rfl rfl (by decide) rfl ?_|refine dcx_b1 (o:=0) y1 rfl rfl rfl rfl rfl rfl rfl rfl rfl rfl ?_|refine BJ6 (o:=0) y2 rfl rfl rfl rfl rfl rfl rfl rfl (by decide) rfl ?_|refine dcx_b1 (o:=0) y2 rfl rfl rfl rfl rfl rfl rfl rfl rfl rfl ?_|refine eqlx_of hq ?_|refine sxH ?_|((with_reducible first|apply N9 hQz|apply O1 hQz)<;>(try intro hsp hQz))|exact hQz.out))<;>(try (conv=>whnf))))):p:=h ⟨hq⟩
theorem dcx_b1 {f:Nat} {avs:List AV} {q q':Bk} {t t':TS} {o i a b c d e g:Nat} {h:Hp} {r:AV} {K:AV→Up→List Nat→Prop} (hc:AG4 f 1 avs q t r q' t')
  (g1:lk h.l i=some (.cells [.ptr a 0,.ptr g 0,.int .i64 (q.a:Nat),.int .i64 (q.n:Nat)])) (g0:lk h.l o=some (.cells [.ptr i 0])) (h0:lk h.l a=some (.cells (tabC b e t.C))) (h1:lk h.l b=some (.cells [.sl c 0 t.n t.n 7,.sl d 0 t.m t.m 3,.int .i64 (t.S.fr:Nat)])) (h2:lk h.l c=some (.cells (C9 t.n t.V t.W t.V3 t.V4 t.S.L t.S.N t.S.P))) (h3:lk h.l d=some (.cells (J5 t.m t.S.A t.S.B t.S.C))) (h4:lk h.l e=some (.maps (t.E.map AG8))) (h5:lk h.l g=some (.cells q.s.a))
  (hd:AY6 [o,i,a,b,c,d,e,g]=true) (hnx':[o,i,a,b,c,d,e,g].contains h.next=false)
  (hk:K r [(o,some (.cells [.ptr i 0])),(i,some (.cells [.ptr a 0,.ptr g 0,.int .i64 (q'.a:Nat),.int .i64 (q'.n:Nat)])),(a,some (.cells (tabC b e t'.C))),(b,some (.cells [.sl c 0 t'.n t'.n 7,.sl d 0 t'.m t'.m 3,.int .i64 (t'.S.fr:Nat)])),(c,some (.cells (C9 t'.n t'.V t'.W t'.V3 t'.V4 t'.S.L t'.S.N t'.S.P))),(d,some (.cells (J5 t'.m t'.S.A t'.S.B t'.S.C))),(e,some (.maps (t'.E.map AG8))),(g,some (.cells q'.s.a))] [o,i,a,b,c,d,e,g]):AR4 Tryz.prog G0 f (.ptr i 0::avs) h K:=by
 have hnx:h.next ∉ [o,i,a,b,c,d,e,g]:=fun hm=>by rw [List.contains_eq_mem,decide_eq_false_iff_not] at hnx';exact hnx' hm
 have e0:enter [o,i,a,b,c,d,e,g] o 0:=rfl
 have e1:enter [o,i,a,b,c,d,e,g] i 1:=rfl
 have e2:enter [o,i,a,b,c,d,e,g] a 2:=rfl
 have e3:enter [o,i,a,b,c,d,e,g] b 3:=rfl
 have e4:enter [o,i,a,b,c,d,e,g] c 4:=rfl
 have e5:enter [o,i,a,b,c,d,e,g] d 5:=rfl
 have e6:enter [o,i,a,b,c,d,e,g] e 6:=rfl
 have e7:enter [o,i,a,b,c,d,e,g] g 7:=rfl
 have k0:U2 [o,i,a,b,c,d,e,g] 0 o:=rfl
 have k1:U2 [o,i,a,b,c,d,e,g] 1 i:=rfl
 have k2:U2 [o,i,a,b,c,d,e,g] 2 a:=rfl
 have k3:U2 [o,i,a,b,c,d,e,g] 3 b:=rfl
 have k4:U2 [o,i,a,b,c,d,e,g] 4 c:=rfl
 have k5:U2 [o,i,a,b,c,d,e,g] 5 d:=rfl
 have k6:U2 [o,i,a,b,c,d,e,g] 6 e:=rfl
 have k7:U2 [o,i,a,b,c,d,e,g] 7 g:=rfl
 refine At3 (l1:=bkN q' t' o i a b c d e g) [o,i,a,b,c,d,e,g] hc.out I7 hd
  (.cons e0 g0 ⟨H8 e1,trivial⟩ (.cons e1 g1 ⟨H8 e2,H8 e7,D6 A8,D6 A8,trivial⟩ (.cons e2 h0 (AF2 e3 e6) (.cons e3 h1 ⟨J7 e4,J7 e5,D6 A8,trivial⟩ (.cons e4 h2 P6 (.cons e5 h3 V8 (.maps e6 h4 H9 (.cons e7 h5 (C8 G8) .nil))))))))
  hnx ?_ ?_ ⟨H8 e1,C8 hc.pa⟩ (D6 hc.pr)
  (.cons k0 ⟨H8 k1,trivial⟩ (.cons k1 ⟨H8 k2,H8 k7,D6 A8,D6 A8,trivial⟩ (.cons k2 (AF2 k3 k6) (.cons k3 ⟨J7 k4,J7 k5,D6 A8,trivial⟩ (.cons k4 P6 (.cons k5 V8 (.maps k6 H9 (.cons k7 (C8 G8) .nil)))))))) hk
 ·intro x hx
  simp only [bkN,rdN,lk]
  repeat' split
  all_goals first|exact ⟨_,rfl⟩|(exfalso;simp only [List.mem_cons,List.not_mem_nil,or_false] at hx;omega)
 ·intro j x hx
  have : j < 8:=(List.getElem?_eq_some_iff.1 hx).1
  simp only [bkN,rdN,lk]
  repeat' split
  all_goals first|exact ⟨_,rfl⟩|(exfalso;omega)
section
variable {q:Bk} {t:TS}
theorem plain_di {l:List Int} {e:Int}:Plain (.tup [.isl (l.map An0),.int .i64 e]):=G7 fun x hx=>by
 simp only [List.mem_cons,List.not_mem_nil,or_false] at hx
 rcases hx with rfl|rfl<;>first|exact A8|exact Ad1
theorem BA4 (L:List Vw) (a k:Nat):Q6 L a k=none∨∃ v,Q6 L a k=some v:=by cases Q6 L a k;exact .inl rfl;exact .inr ⟨_,rfl⟩
theorem b_Differ (hg:H6 q) (h:TOk q.L t) {x y:Nat} (hx:x < 64) (hy:y < 64):AG4 33 0 [.int .i64 (x:Nat),.int .i64 (y:Nat)] q t (.tup [.isl ((q.difN x y 1024).map An0),.int .i64 0]) q t:=by
 have hi:=b_is (q:=q) (t:=t)
 have hs1:=AZ5 (x:Nat)
 have hs2:=AZ5 (y:Nat)
 rw [decide_eq_true (Ac3 hx)] at hs1
 rw [decide_eq_true (Ac3 hy)] at hs2
 refine AG4.mk (D9 E9 b33 rfl ?_) I4 plain_di
 unfold c33
 unfold bkN rdN
 (refine wx_Jh ?_;repeat' (first|with_reducible refine And.intro ?_ ?_|intro hsp))
 (refine F6 [0,1,2,8] (fun (k:Nat)=>[(9,Ag1 8 1 (q.difN x y k).length),(30,.int .i64 (k:Nat))]) (fun (k:Nat)=>⟨bkN q t 0 1 2 3 4 5 6 7++AT2 8 An0 (q.difN x y k),9⟩) (fun (k:Nat)=>k≤1024) (fun (k:Nat)=>1024 - k) (0) [] rfl (fun _=>by first|exact Nat.zero_le _|(dsimp only;omega)) ?_ (by ((try (conv=>whnf));(rw [dif_0]);exact BR9)) ?_)
 ·exact Nat.zero_le _
 intro k hk
 have hln:=dif_le (b:=q) (x:=x) (y:=y) (k:=k)
 by_cases hkl:k < 1024
 ·have htk:=dif_s (b:=q) (x:=x) (y:=y) (k:=k)
  have hin1:inR 64 (x:Nat)∧inR 1024 (k:Nat):=⟨Ac3 hx,Az4 hkl⟩
  have hin2:inR 64 (y:Nat)∧inR 1024 (k:Nat):=⟨Ac3 hy,Az4 hkl⟩
  unfold Bk.dif at htk
  unfold bkN rdN
  rcases BA4 q.L x k with h1 | ⟨u,h1⟩<;>rcases BA4 q.L y k with h2 | ⟨v,h2⟩
  ·have f1:=AB3 h hin1 h1
   have f2:=AB3 h hin2 h2
   rw [h1,h2] at htk
   dsimp only at htk
   rw [if_neg (by decide)] at htk
   generalize q.difN x y k=O at *
   (refine wx_Jh ?_;repeat' (first|with_reducible refine And.intro ?_ ?_|intro hsp))
   all_goals exact F3 (k+1) [] (by (try dsimp only);omega) (by first|omega|(dsimp only;omega)) rfl (by ((try dsimp only);rw [htk]);exact BR9)
  ·have f1:=AB3 h hin1 h1
   have f2:=Al0 h hin2 h2
   rw [h1,h2] at htk
   dsimp only at htk
   rw [if_pos rfl] at htk
   generalize q.difN x y k=O at *
   (refine wx_Jh ?_;repeat' (first|with_reducible refine And.intro ?_ ?_|intro hsp))
   all_goals exact F3 (k+1) [(8,36)] (by (try dsimp only);omega) (by first|omega|(dsimp only;omega)) rfl (by ((try dsimp only);rw [htk]);exact BR9)
  ·have f1:=Al0 h hin1 h1
   have f2:=AB3 h hin2 h2
   rw [h1,h2] at htk
   dsimp only at htk
   rw [if_pos rfl] at htk
   generalize q.difN x y k=O at *
   (refine wx_Jh ?_;repeat' (first|with_reducible refine And.intro ?_ ?_|intro hsp))
   all_goals exact F3 (k+1) [(8,36)] (by (try dsimp only);omega) (by first|omega|(dsimp only;omega)) rfl (by ((try dsimp only);rw [htk]);exact BR9)
  ·have f1:=Al0 h hin1 h1
   have f2:=Al0 h hin2 h2
   have g1:=hg.view (J2 h1).1
   have g2:=hg.view (J2 h2).1
   have y1:=BK2 (q:=q) (t:=t) (f:=u.2.2.1) (by have:=hg.rng.2;omega) g1.2.2
   have y2:=BK2 (q:=q) (t:=t) (f:=v.2.2.1) (by have:=hg.rng.2;omega) g2.2.2
   rw [h1,h2] at htk
   dsimp only at htk
   have hq:=eqL_bc (f:=q.s.B u.2.2.1) (g:=q.s.B v.2.2.1)
   have hqe:u.2.2.1=v.2.2.1→eqB (q.s.B u.2.2.1) (q.s.B v.2.2.1):=fun e=>by rw [e];exact fun _ _=>rfl
   by_cases hE:eqB (q.s.B u.2.2.1) (q.s.B v.2.2.1)
   ·rw [decide_eq_true hE] at hq
    simp only [decide_eq_true hE,Bool.not_true,Bool.false_eq_true,if_false] at htk
    generalize q.difN x y k=O at *
    generalize bcA (q.s.B u.2.2.1)=z1 at *
    generalize bcA (q.s.B v.2.2.1)=z2 at *
    (refine wx_Jhn ?_;repeat' (first|with_reducible refine And.intro ?_ ?_|intro hsp))
    all_goals exact F3 (k+1) [] (by (try dsimp only);omega) (by first|omega|(dsimp only;omega)) rfl (by ((try dsimp only);rw [htk]);exact BR9)
   ·rw [decide_eq_false hE] at hq
    simp only [decide_eq_false hE,Bool.not_false,if_true] at htk
    have hne:u.2.2.1 ≠ v.2.2.1:=fun e=>hE (hqe e)
    generalize q.difN x y k=O at *
    generalize bcA (q.s.B u.2.2.1)=z1 at *
    generalize bcA (q.s.B v.2.2.1)=z2 at *
    (refine wx_Jhn ?_;repeat' (first|with_reducible refine And.intro ?_ ?_|intro hsp))
    all_goals exact F3 (k+1) [(8,36)] (by (try dsimp only);omega) (by first|omega|(dsimp only;omega)) rfl (by ((try dsimp only);rw [htk]);exact BR9)
 ·obtain rfl:k=1024:=by omega
  unfold bkN rdN
  (refine wx_Jh ?_;repeat' (first|with_reducible refine And.intro ?_ ?_|intro hsp))
  exact end_BK (fun hs=>AI5 (D5 (wk_frzI (fun hz=>by simp [lk,Q7 hz]) (bk_not (by decide)) hs) (D5 (L8 rfl) J4))) rfl rfl rfl rfl rfl rfl rfl rfl
end
end Go.Proofs.YtphggldkligldaaGreat.Sh
namespace Go.Pol
open Go.Am
def stat (a n:Int):Prop:=0≤a∧a < 1024∧1≤n∧n≤1024 - a
instance (a n:Int):Decidable (stat a n):=by unfold stat;infer_instance
structure Ax where
 w:Int
 a:Int
 b:Int
 t:Int
 v:Int
 l:List Rl
def acE (x:Ax):List AV:=[.int .u8 x.w,.int .i64 x.a,.int .i64 x.b,.int .i64 x.t,.int .u8 x.v,.isl (x.l.map rlA)]
theorem acE_len (x:Ax):(acE x).length=6:=rfl
def dA:Ax:=⟨0,0,0,0,0,[]⟩
structure Py where
 a:Int
 n:Int
 l:List Rl
 X:List Ax
def pyE (p:Py):List AV:=[.int .i64 p.a,.int .i64 p.n,.isl (p.l.map rlA),.isl (p.X.map acE)]
def Py.b (p:Py):Bk:=⟨p.a.toNat,p.n.toNat,[],((Sy.new p.l).chg p.a p.n 0 1 0).2⟩
end Go.Pol
namespace Go.Proofs.YtphggldkligldaaGreat.Sh
open Go Go.Am Go.Pol
theorem wx_Ji {p q:Prop} (hq:q) (h:X5 q→p:=by (intro hQz;((repeat' ((try (conv=>whnf));first|refine sxA ?_|refine sxF ?_|refine X6 (by assumption) rfl (by decide) ?_|refine O5 (by assumption) ?_|refine X6 hc rfl (by decide) ?_|refine X6 hr rfl (by decide) ?_|refine cx_NT (by assumption) ?_|refine cx_locN (by assumption) ?_|refine cx_BN h1 rfl (by decide) ?_|refine X6 h1 rfl (by decide) ?_|refine sxH ?_|((with_reducible first|apply N9 hQz|apply O1 hQz)<;>(try intro hsp hQz))|exact hQz.out))<;>(try (conv=>whnf))))):p:=h ⟨hq⟩
theorem AW6 (x:Ax):∀ y ∈ acE x,Plain y:=fun y hy=>by
 unfold acE at hy
 simp only [List.mem_cons,List.not_mem_nil,or_false] at hy
 rcases hy with rfl|rfl|rfl|rfl|rfl|rfl<;>first|exact A8|exact X3
theorem Ad2 (x:Ax):Plain (.agg (acE x)):=K8 (AW6 x)
theorem Ax9 {X:List Ax}:Plain (.isl (X.map acE)):=o8 fun e he=>by obtain ⟨x,_,rfl⟩:=List.mem_map.1 he;exact AW6 x
theorem Ac8 (p:Py):∀ y ∈ pyE p,Plain y:=fun y hy=>by
 unfold pyE at hy
 simp only [List.mem_cons,List.not_mem_nil,or_false] at hy
 rcases hy with rfl|rfl|rfl|rfl
 ·exact A8
 ·exact A8
 ·exact X3
 ·exact o8 fun e he=>by obtain ⟨x,_,rfl⟩:=List.mem_map.1 he;exact AW6 x
theorem AK0 (p:Py):Plain (.agg (pyE p)):=K8 (Ac8 p)
theorem end_G {top:Bool} {h:Hp} {N0 n:Nat} {x r:AV} {q:Bk} {t:TS} (ren:List (Nat × Nat)) (o i a b c d e g:Nat) (hkp:AV2 N0 ren=true) (hm:N0≤n) (hone:AY6 [rn ren o,rn ren i,rn ren a,rn ren b,rn ren c,rn ren d,rn ren e,rn ren g]=true)
  (hlt:o < n∧i < n∧a < n∧b < n∧c < n∧d < n∧e < n∧g < n)
  (hr:AI3 (rn ren) h ⟨bkN q t o i a b c d e g,n⟩→WkV Tryz.prog (rn ren) h ⟨bkN q t o i a b c d e g,n⟩ x r) (g0:lk h.l (rn ren o)=some (.cells [.ptr (rn ren i) 0])) (g1:lk h.l (rn ren i)=some (.cells [.ptr (rn ren a) 0,.ptr (rn ren g) 0,.int .i64 (q.a:Nat),.int .i64 (q.n:Nat)])) (h0:lk h.l (rn ren a)=some (.cells (tabC (rn ren b) (rn ren e) t.C))) (h1:lk h.l (rn ren b)=some (.cells [.sl (rn ren c) 0 t.n t.n 7,.sl (rn ren d) 0 t.m t.m 3,.int .i64 (t.S.fr:Nat)])) (h2:lk h.l (rn ren c)=some (.cells (C9 t.n t.V t.W t.V3 t.V4 t.S.L t.S.N t.S.P))) (h3:lk h.l (rn ren d)=some (.cells (J5 t.m t.S.A t.S.B t.S.C))) (h4:lk h.l (rn ren e)=some (.maps (t.E.map AG8))) (h5:lk h.l (rn ren g)=some (.cells q.s.a)) :
  AR3 top Tryz.prog N0 h x (fun r' h'=>r'=r∧h'=⟨bkN q t o i a b c d e g,n⟩):=by
 obtain ⟨l0,l1,l2,l3,l4,l5,l6,l7⟩:=hlt
 have hs:AI3 (rn ren) h ⟨bkN q t o i a b c d e g,n⟩:=fun j x hi=>by
  simp only [bkN,rdN,lk] at hi
  split at hi
  ·rename_i e;subst e;exact ⟨_,g0⟩
  ·split at hi
   ·rename_i e;subst e;exact ⟨_,g1⟩
   ·split at hi
    ·rename_i e;subst e;exact ⟨_,h0⟩
    ·split at hi
     ·rename_i e;subst e;exact ⟨_,h1⟩
     ·split at hi
      ·rename_i e;subst e;exact ⟨_,h2⟩
      ·split at hi
       ·rename_i e;subst e;exact ⟨_,h3⟩
       ·split at hi
        ·rename_i e;subst e;exact ⟨_,h4⟩
        ·split at hi
         ·rename_i e;subst e;exact ⟨_,h5⟩
         ·cases hi
 refine j6 ren hkp hm (L6 (l:=bkN q t o i a b c d e g) hone) (hr hs) ?_ ⟨rfl,rfl⟩
 exact J3 l0 g0 (D5 (X9 (i:=i) rfl l1) J4)
  (J3 l1 g1 (D5 (X9 (i:=a) rfl l2) (D5 (X9 (i:=g) rfl l7) (D5 (L8 rfl) (D5 (L8 rfl) J4))))
  (AH7 hs l2 h0 rfl l3 rfl l6
  (J3 l3 h1 (D5 (j4 rfl l4 rfl (Nat.le_refl _) (Nat.le_refl _)) (D5 (j4 rfl l5 rfl (Nat.le_refl _) (Nat.le_refl _)) (D5 (L8 rfl) J4)))
  (E8 hs l4 h2 rfl F5 (E8 hs l5 h3 rfl F8 (x9 hs l6 h4 rfl H9 (E8 hs l7 h5 rfl G8 J6)))))))
structure LocBN (f:Nat) (avs:List AV) (s:Sy) (q:Bk) (t:TS):Prop where
 out:AQ1 Tryz.prog G0 f (.ptr 0 0::avs) [(0,.cells s.a)] 1 fun x h=>x = .tup [.ptr 1 0,.int .i64 0]∧h=⟨bkN q t 1 2 3 4 5 6 7 0,8⟩
 pa:∀ x ∈ avs,Plain x
theorem cx_BN {f:Nat} {avs:List AV} {s:Sy} {q:Bk} {t:TS} {g nx:Nat} {l:List (Nat × AObj)} {K:AV→Hp→Prop} (hc:LocBN f avs s q t) (h5:lk l g=some (.cells s.a)) (hlt:g < nx)
  (hk:AG1 [g] l fun l2=>K (.tup [.ptr nx 0,.int .i64 0]) ⟨([(nx,.cells [.ptr (nx+1) 0]),(nx+1,.cells [.ptr (nx+2) 0,.ptr g 0,.int .i64 (q.a:Nat),.int .i64 (q.n:Nat)]),(nx+2,.cells (tabC (nx+3) (nx+6) t.C)),(nx+3,.cells [.sl (nx+4) 0 t.n t.n 7,.sl (nx+5) 0 t.m t.m 3,.int .i64 (t.S.fr:Nat)]),(nx+4,.cells (C9 t.n t.V t.W t.V3 t.V4 t.S.L t.S.N t.S.P)),(nx+5,.cells (J5 t.m t.S.A t.S.B t.S.C)),(nx+6,.maps (t.E.map AG8)),(g,.cells q.s.a)]:List (Nat × AObj))++l2,nx+7⟩):AB8 Tryz.prog G0 (.fn f [] []) (.ptr g 0::avs) ⟨l,nx⟩ K:=by
 have e0:enter [g] g 0:=rfl
 have k0:back [g] nx 0 g:=rfl
 have k1:back [g] nx 1 nx:=rfl
 have k2:back [g] nx 2 (nx+1):=rfl
 have k3:back [g] nx 3 (nx+2):=rfl
 have k4:back [g] nx 4 (nx+3):=rfl
 have k5:back [g] nx 5 (nx+4):=rfl
 have k6:back [g] nx 6 (nx+5):=rfl
 have k7:back [g] nx 7 (nx+6):=rfl
 refine AA9 (r':=.tup [.ptr nx 0,.int .i64 0]) (l1:=bkN q t nx (nx+1) (nx+2) (nx+3) (nx+4) (nx+5) (nx+6) g) [g] hc.out I7 rfl (.cons e0 h5 (C8 G8) .nil)
  ?_ (by intro x hx;simp only [List.mem_cons,List.not_mem_nil,or_false] at hx;omega) (Aw5 ⟨H8 k1,D6 A8,trivial⟩)
  (.cons k1 ⟨H8 k2,trivial⟩ (.cons k2 ⟨H8 k3,H8 k0,D6 A8,D6 A8,trivial⟩ (.cons k3 (AF2 k4 k7) (.cons k4 ⟨J7 k5,J7 k6,D6 A8,trivial⟩ (.cons k5 P6 (.cons k6 V8 (.maps k7 H9 (.cons k0 (C8 G8) .nil)))))))) hk
 simp only [List.nil_append,List.append_nil]
 exact ⟨H8 e0,C8 hc.pa⟩
theorem Ar4 (a n:Int):M5 74 [.int .i64 a,.int .i64 n] (.bool (decide (stat a n))):=by
 refine M5.mk (V7 E9 b74 I7 ⟨A8,A8,trivial⟩ A9 rfl ?_)
 unfold c74
 (refine wx_Ji ?_;repeat' (first|with_reducible refine And.intro ?_ ?_|intro hsp))
 all_goals exact Y3 (by first|exact (decide_eq_false fun h:stat a n=>by obtain ⟨h1,h2,h3,h4⟩:=h;omega).symm|exact decide_eq_decide.2 ⟨fun h=>⟨by omega,by omega,by omega,by omega⟩,fun h=>by obtain ⟨h1,h2,h3,h4⟩:=h;omega⟩)
section
variable {s:Sy} {a n:Int}
theorem Ad0 {e:Int}:Plain (.tup [.nilp,.int .i64 e]):=G7 fun x hx=>by
 simp only [List.mem_cons,List.not_mem_nil,or_false] at hx
 rcases hx with rfl|rfl;exact Z5;exact A8
theorem b_New_far (hg:GoodS s) (hn:¬ stat a n):AT1 38 [.int .i64 a,.int .i64 n] s.a (.tup [.nilp,.int .i64 7]) s.a:=by
 have hc:=Aq4 hg
 have hst:=Ar4 a n
 rw [decide_eq_false hn] at hst
 unfold Sy.counts at hc
 refine AT1.mk (D9 E9 b38 rfl ?_) G8 G8 I4 Ad0
 unfold c38
 generalize AL4 s.K 0 1024=n0 at *
 generalize AL4 s.K 1 1024=n1 at *
 generalize AL4 s.K 2 1024=n2 at *
 generalize AL4 s.K 3 1024=n3 at *
 generalize cntG s.G 64=n4 at *
 (refine wx_Ji ?_;repeat' (first|with_reducible refine And.intro ?_ ?_|intro hsp))
 all_goals exact AG9 rfl Ad0 rfl G8
theorem b_New_no (hg:GoodS s) (hn:stat a n) (he:(s.chg a n 0 1 0).1 ≠ 0):AT1 38 [.int .i64 a,.int .i64 n] s.a (.tup [.nilp,.int .i64 (s.chg a n 0 1 0).1]) (s.chg a n 0 1 0).2.a:=by
 have hc:=Aq4 hg
 have hst:=Ar4 a n
 rw [decide_eq_true hn] at hst
 have hr:=Ay2 (a:=a) (n:=n) hg
 unfold Sy.counts at hc
 refine AT1.mk (D9 E9 b38 rfl ?_) G8 G8 I4 Ad0
 unfold c38
 generalize AL4 s.K 0 1024=n0 at *
 generalize AL4 s.K 1 1024=n1 at *
 generalize AL4 s.K 2 1024=n2 at *
 generalize AL4 s.K 3 1024=n3 at *
 generalize cntG s.G 64=n4 at *
 generalize s.chg a n 0 1 0=r at *
 (refine wx_Ji ?_;repeat' (first|with_reducible refine And.intro ?_ ?_|intro hsp))
 all_goals first|exact AG9 rfl Ad0 rfl G8|(exfalso;omega)
theorem b_New (hg:GoodS s) (hn:stat a n) (he:(s.chg a n 0 1 0).1=0):LocBN 38 [.int .i64 a,.int .i64 n] s ⟨a.toNat,n.toNat,[],(s.chg a n 0 1 0).2⟩ T0:=by
 have hc:=Aq4 hg
 have hst:=Ar4 a n
 rw [decide_eq_true hn] at hst
 have hr:=Ay2 (a:=a) (n:=n) hg
 rw [he] at hr
 have hnew:=n_New
 have ha:((a.toNat:Nat):Int)=a:=Int.toNat_of_nonneg hn.1
 have hna:((n.toNat:Nat):Int)=n:=Int.toNat_of_nonneg (by have:=hn.2.2.1;omega)
 unfold Sy.counts at hc
 refine LocBN.mk (D9 E9 b38 rfl ?_) I4
 unfold c38
 generalize AL4 s.K 0 1024=n0 at *
 generalize AL4 s.K 1 1024=n1 at *
 generalize AL4 s.K 2 1024=n2 at *
 generalize AL4 s.K 3 1024=n3 at *
 generalize cntG s.G 64=n4 at *
 generalize s.chg a n 0 1 0=r at *
 generalize T0=t0 at *
 (refine wx_Ji ?_;repeat' (first|with_reducible refine And.intro ?_ ?_|intro hsp))
 all_goals exact end_G [(1,8),(2,7),(3,2),(4,3),(5,4),(6,5),(7,6)] 1 2 3 4 5 6 7 0 rfl (by decide) rfl (by decide) (fun hs=>AI5 (D5 (X9 (i:=1) rfl (show 1 < 8 by decide)) (D5 (L8 rfl) J4))) rfl (by dsimp only;rw [ha,hna];rfl) rfl rfl rfl rfl rfl rfl
structure LocBB (avs:List AV) (q:Bk) (t:TS):Prop where
 out:AQ1 Tryz.prog G0 12 avs [] 0 fun x h=>x = .tup [.ptr 7 0,.ptr 0 0,.int .i64 0]∧h=⟨bkN q t 0 1 2 3 4 5 6 7,8⟩
 pa:∀ x ∈ avs,Plain x
theorem cx_BB {avs:List AV} {q:Bk} {t:TS} {nx:Nat} {l:List (Nat × AObj)} {K:AV→Hp→Prop} (hc:LocBB avs q t)
  (hk:K (.tup [.ptr (nx+7) 0,.ptr nx 0,.int .i64 0]) ⟨([(nx,.cells [.ptr (nx+1) 0]),(nx+1,.cells [.ptr (nx+2) 0,.ptr (nx+7) 0,.int .i64 (q.a:Nat),.int .i64 (q.n:Nat)]),(nx+2,.cells (tabC (nx+3) (nx+6) t.C)),(nx+3,.cells [.sl (nx+4) 0 t.n t.n 7,.sl (nx+5) 0 t.m t.m 3,.int .i64 (t.S.fr:Nat)]),(nx+4,.cells (C9 t.n t.V t.W t.V3 t.V4 t.S.L t.S.N t.S.P)),(nx+5,.cells (J5 t.m t.S.A t.S.B t.S.C)),(nx+6,.maps (t.E.map AG8)),(nx+7,.cells q.s.a)]:List (Nat × AObj))++l,nx+8⟩):AB8 Tryz.prog G0 (.fn 12 [] []) avs ⟨l,nx⟩ K:=by
 have k0:back [] nx 0 nx:=rfl
 have k1:back [] nx 1 (nx+1):=rfl
 have k2:back [] nx 2 (nx+2):=rfl
 have k3:back [] nx 3 (nx+3):=rfl
 have k4:back [] nx 4 (nx+4):=rfl
 have k5:back [] nx 5 (nx+5):=rfl
 have k6:back [] nx 6 (nx+6):=rfl
 have k7:back [] nx 7 (nx+7):=rfl
 exact AA9 (r':=.tup [.ptr (nx+7) 0,.ptr nx 0,.int .i64 0]) (l1:=bkN q t nx (nx+1) (nx+2) (nx+3) (nx+4) (nx+5) (nx+6) (nx+7)) [] hc.out I7 rfl .nil (by simpa using C8 hc.pa) (by simp) (Aw5 ⟨H8 k7,H8 k0,D6 A8,trivial⟩)
  (.cons k0 ⟨H8 k1,trivial⟩ (.cons k1 ⟨H8 k2,H8 k7,D6 A8,D6 A8,trivial⟩ (.cons k2 (AF2 k3 k6) (.cons k3 ⟨J7 k4,J7 k5,D6 A8,trivial⟩ (.cons k4 P6 (.cons k5 V8 (.maps k6 H9 (.cons k7 (C8 G8) .nil)))))))) (AJ4 hk)
structure LocBE (avs:List AV) (e:Int) (ds:List AV):Prop where
 out:AQ1 Tryz.prog G0 12 avs [] 0 fun x h=>x = .tup [.ptr 0 0,.nilp,.int .i64 e]∧h=⟨[(0,.cells ds)],1⟩
 pa:∀ x ∈ avs,Plain x
 pd:∀ x ∈ ds,Plain x
theorem cx_BE {avs:List AV} {e:Int} {ds:List AV} {nx:Nat} {l:List (Nat × AObj)} {K:AV→Hp→Prop} (hc:LocBE avs e ds) (hk:K (.tup [.ptr nx 0,.nilp,.int .i64 e]) ⟨(nx,.cells ds)::l,nx+1⟩):AB8 Tryz.prog G0 (.fn 12 [] []) avs ⟨l,nx⟩ K:=by
 have k0:back [] nx 0 nx:=rfl
 exact AA9 (r':=.tup [.ptr nx 0,.nilp,.int .i64 e]) (l1:=[(nx,.cells ds)]) [] hc.out I7 rfl .nil (by simpa using C8 hc.pa) (by simp) (Aw5 ⟨H8 k0,D6 Z5,D6 A8,trivial⟩)
  (.cons k0 (C8 hc.pd) .nil) (AJ4 hk)
theorem end_BE {top:Bool} {h:Hp} {x:AV} {i:Nat} {ds:List AV} {e:Int} (hx:x = .tup [.ptr i 0,.nilp,.int .i64 e]) (h0:lk h.l i=some (.cells ds)) (pd:∀ x ∈ ds,Plain x):AR3 top Tryz.prog 0 h x (fun r' h'=>r' = .tup [.ptr 0 0,.nilp,.int .i64 e]∧h'=⟨[(0,.cells ds)],1⟩):=by
 subst hx
 have e0:rn [(0,i)] 0=i:=rfl
 have hs:AI3 (rn [(0,i)]) h ⟨[(0,.cells ds)],1⟩:=fun j o hj=>by
  simp only [lk] at hj
  split at hj
  ·rename_i e;subst e;exact ⟨_,h0⟩
  ·cases hj
 exact j6 [(0,i)] rfl (Nat.zero_le _) (L6 rfl) (AI5 (D5 (X9 e0 (show 0 < 1 by decide)) (D5 (K5 hs Z5) (D5 (L8 rfl) J4)))) (E8 hs (show 0 < 1 by decide) (by rw [e0];exact h0) rfl pd J6) ⟨rfl,rfl⟩
theorem pa_py {p:Py}:∀ x ∈ [AV.agg (pyE p)],Plain x:=fun x hx=>by obtain rfl:=List.mem_singleton.1 hx;exact AK0 p
theorem Ax6 {e:Int}:Plain (.tup [.nilp,.nilp,.int .i64 e]):=G7 fun x hx=>by
 simp only [List.mem_cons,List.not_mem_nil,or_false] at hx
 rcases hx with rfl|rfl|rfl;exact Z5;exact Z5;exact A8
theorem l_begun (p:Py):(∃ e,e ≠ 0∧M5 12 [.agg (pyE p)] (.tup [.nilp,.nilp,.int .i64 e]))∨(∃ e ds,e ≠ 0∧LocBE [.agg (pyE p)] e ds)∨((AJ8 p.l).2=0∧stat p.a p.n∧((Sy.new p.l).chg p.a p.n 0 1 0).1=0∧LocBB [.agg (pyE p)] p.b T0):=by
 by_cases hc:(AJ8 p.l).2=0
 ·have hnw:=p_new (l:=p.l) (i:=(AJ8 p.l).1) (Prod.ext rfl hc)
  have hg:=Ar7 hc
  by_cases hst:stat p.a p.n
  ·by_cases he:((Sy.new p.l).chg p.a p.n 0 1 0).1=0
   ·have h1:=b_New hg hst he
    refine .inr (.inr ⟨hc,hst,he,LocBB.mk (D9 E9 b12 rfl ?_) pa_py⟩)
    unfold c12
    unfold Py.b pyE
    generalize Sy.new p.l=s0 at *
    generalize T0=t0 at *
    generalize s0.chg p.a p.n 0 1 0=r at *
    (refine wx_Ji ?_;repeat' (first|with_reducible refine And.intro ?_ ?_|intro hsp))
    all_goals exact end_G [(0,2),(1,3),(2,4),(3,5),(4,6),(5,7),(6,8),(7,1)] 0 1 2 3 4 5 6 7 rfl (by decide) rfl (by decide) (fun hs=>AI5 (D5 (X9 (i:=7) rfl (show 7 < 8 by decide)) (D5 (X9 (i:=0) rfl (show 0 < 8 by decide)) (D5 (L8 rfl) J4)))) rfl rfl rfl rfl rfl rfl rfl rfl
   ·have h1:=b_New_no hg hst he
    refine .inr (.inl ⟨_,((Sy.new p.l).chg p.a p.n 0 1 0).2.a,he,LocBE.mk (D9 E9 b12 rfl ?_) pa_py G8⟩)
    unfold c12
    unfold pyE
    generalize Sy.new p.l=s0 at *
    generalize s0.chg p.a p.n 0 1 0=r at *
    (refine wx_Ji ?_;repeat' (first|with_reducible refine And.intro ?_ ?_|intro hsp))
    all_goals exact end_BE rfl rfl G8
  ·have h1:=b_New_far hg hst
   refine .inr (.inl ⟨7,(Sy.new p.l).a,by decide,LocBE.mk (D9 E9 b12 rfl ?_) pa_py G8⟩)
   unfold c12
   unfold pyE
   generalize Sy.new p.l=s0 at *
   (refine wx_Ji ?_;repeat' (first|with_reducible refine And.intro ?_ ?_|intro hsp))
   all_goals exact end_BE rfl rfl G8
 ·have hnw:=p_new_no (l:=p.l) (i:=(AJ8 p.l).1) (e:=(AJ8 p.l).2) rfl hc
  refine .inl ⟨_,hc,M5.mk (V7 E9 b12 I7 ⟨AK0 p,trivial⟩ Ax6 rfl ?_)⟩
  unfold c12
  unfold pyE
  generalize (AJ8 p.l).2=e at *
  (refine wx_Ji ?_;repeat' (first|with_reducible refine And.intro ?_ ?_|intro hsp))
  all_goals first|exact O8 rfl Ax6|(exfalso;omega)
end
end Go.Proofs.YtphggldkligldaaGreat.Sh
namespace Go.Pol
open Go.Am
def Bk.al (q:Bk) (x:Ax):Int × Bk:=q.call (x.w.toNat % 14) x.a x.b x.t x.v x.l
def Py.ok (p:Py):Prop:=p.X.length≤40∧p.l.length≤60∧(p.n≤100∨1024 < p.n)
instance (p:Py):Decidable p.ok:=by unfold Py.ok;infer_instance
end Go.Pol
namespace Go.Proofs.YtphggldkligldaaGreat.Sh
open Go Go.Am Go.Pol
theorem plx_Jj {p:Prop} (h:p:=by ((first|exact plw|(with_reducible first|apply O7|apply M8|apply Y1|apply plain_stA|apply AK1|apply AH1|apply M0|apply Ad1|apply V9|apply X3|apply Ad2 _|apply AK0 _|apply Ax9|fail)|fail);first|done|fail)):p:=h
theorem ppx_Jj {p:Prop} (h:p:=by ((first|with_reducible assumption|(with_reducible first|apply F5|apply F8|apply P9|apply P5 _ _|apply Y0|apply AU9|apply G8|apply Aj1|apply AU3|apply AW5|apply K9 AE5|apply Ac8 _|apply AW6 _|fail)|exact ppw|fail);first|done|fail)):p:=h
open Go.Proofs.YtphggldkligldaaGreat.Sh renaming plx_Jj → plx
open Go.Proofs.YtphggldkligldaaGreat.Sh renaming ppx_Jj → ppx
theorem wx_Jj {p q:Prop} (hq:q) (h:X5 q→p:=by (intro hQz;((repeat' ((try (conv=>whnf));first|refine sxA ?_|refine sxF ?_|refine AI0 (d:=dA) acE_len (by first|assumption|omega) (by with_reducible assumption) ?_|refine AI2 h2 rfl rfl rfl rfl rfl rfl rfl rfl (by decide) rfl ?_|refine AC7 (by with_reducible assumption) ?_|refine X6 h2 rfl (by decide) ?_|refine sxH ?_|((with_reducible first|apply N9 hQz|apply O1 hQz)<;>(try intro hsp hQz))|exact hQz.out))<;>(try (conv=>whnf))))):p:=h ⟨hq⟩
theorem k_far_yes {p:Py} (hl:p.X.length≤maxLen) (h:∃ x ∈ p.X,60 < x.l.length):M5 10 [.agg (pyE p)] (.bool true):=by
 have hl:p.X.length≤9223372036854775807:=hl
 refine M5.mk (V7 E9 b10 I7 ⟨AK0 p,trivial⟩ A9 rfl ?_)
 unfold c10
 have hp:=Ac8 p
 unfold pyE at hp ⊢
 (refine wx_Jj ?_;repeat' (first|with_reducible refine And.intro ?_ ?_|intro hsp))
 (refine F6 [1] (fun (i:Nat)=>[(3,.int .i64 (i:Nat))]) (fun (i:Nat)=>⟨[(0,.cells [.int .i64 p.a,.int .i64 p.n,.isl (p.l.map rlA),.isl (p.X.map acE)])],1⟩) (fun (i:Nat)=>∃ j,i≤j∧j < p.X.length∧60 < (nth dA p.X j).l.length) (fun (i:Nat)=>p.X.length - i) (0) [] rfl (fun _=>by first|exact Nat.zero_le _|(dsimp only;omega)) ?_ (by ((try (conv=>whnf));exact F9)) ?_)
 ·obtain ⟨x,hx,h6⟩:=h
  obtain ⟨j,hj,rfl⟩:=List.getElem_of_mem hx
  exact ⟨j,Nat.zero_le _,hj,by rw [P7 hj];exact h6⟩
 intro i hi
 obtain ⟨j,h1,h2,h3⟩:=hi
 have hil:i < p.X.length:=by omega
 have hne:¬ 60 < (nth dA p.X i).l.length→∃ j,i+1≤j∧j < p.X.length∧60 < (nth dA p.X j).l.length:=fun hn=>⟨j,by
  by_cases e:i=j
  ·exact absurd (e▸h3) hn
  ·omega,h2,h3⟩
 clear h1 h2 h3
 by_cases hn:60 < (nth dA p.X i).l.length
 ·clear hne
  generalize hx:nth dA p.X i=x at *
  (refine wx_Jj ?_;repeat' (first|with_reducible refine And.intro ?_ ?_|intro hsp))
  all_goals first|exact Y3 rfl|(exfalso;omega)
 ·have hne2:=hne hn
  clear hne
  generalize hx:nth dA p.X i=x at *
  (refine wx_Jj ?_;repeat' (first|with_reducible refine And.intro ?_ ?_|intro hsp))
  all_goals first|(exfalso;omega)|exact F3 (i+1) [] hne2 (by first|omega|(dsimp only;omega)) rfl (by exact F9)
theorem k_far_no {p:Py} (hl:p.X.length≤maxLen) (h:¬ ∃ x ∈ p.X,60 < x.l.length):M5 10 [.agg (pyE p)] (.bool (decide (¬ p.ok))):=by
 have hl:p.X.length≤9223372036854775807:=hl
 refine M5.mk (V7 E9 b10 I7 ⟨AK0 p,trivial⟩ A9 rfl ?_)
 unfold c10
 unfold pyE
 (refine wx_Jj ?_;repeat' (first|with_reducible refine And.intro ?_ ?_|intro hsp))
 (refine F6 [1] (fun (i:Nat)=>[(3,.int .i64 (i:Nat))]) (fun (i:Nat)=>⟨[(0,.cells [.int .i64 p.a,.int .i64 p.n,.isl (p.l.map rlA),.isl (p.X.map acE)])],1⟩) (fun (i:Nat)=>i≤p.X.length) (fun (i:Nat)=>p.X.length - i) (0) [] rfl (fun _=>by first|exact Nat.zero_le _|(dsimp only;omega)) ?_ (by ((try (conv=>whnf));exact F9)) ?_)
 ·exact Nat.zero_le _
 intro i hi
 by_cases hil:i < p.X.length
 ·have hn:¬ 60 < (nth dA p.X i).l.length:=fun h2=>h ⟨_,AD4 (d:=dA) hil,h2⟩
  generalize hx:nth dA p.X i=x at *
  (refine wx_Jj ?_;repeat' (first|with_reducible refine And.intro ?_ ?_|intro hsp))
  all_goals first|(exfalso;omega)|exact F3 (i+1) [] (by (try dsimp only);omega) (by first|omega|(dsimp only;omega)) rfl (by exact F9)
 ·clear h
  (refine wx_Jj ?_;repeat' (first|with_reducible refine And.intro ?_ ?_|intro hsp))
  all_goals exact Y3 (by first|exact (decide_eq_true (show ¬ p.ok from fun ⟨h1,h2,h3⟩=>by omega)).symm|exact (decide_eq_false (show ¬ ¬ p.ok from fun hn=>hn ⟨by omega,by omega,by omega⟩)).symm|exact decide_eq_decide.2 ⟨fun h4 ⟨h1,h2,h3⟩=>(by omega),fun hn=>Classical.byContradiction fun h4=>hn ⟨by omega,by omega,by omega⟩⟩)
theorem k_far (p:Py) (hl:p.X.length≤maxLen):∃ b,M5 10 [.agg (pyE p)] (.bool b)∧(b=false→p.ok):=by
 by_cases h:∃ x ∈ p.X,60 < x.l.length
 ·exact ⟨true,k_far_yes hl h,fun e=>by cases e⟩
 ·refine ⟨_,k_far_no hl h,fun e=>?_⟩
  have:=of_decide_eq_false e
  exact Classical.not_not.1 this
structure LocA (x:Ax) (q:Bk) (t:TS) (e:Int) (q':Bk) (t':TS):Prop where
 out:AQ1 Tryz.prog G0 14 [.ptr 7 0,.ptr 0 0,.agg (acE x)] (bkN q t 0 1 2 3 4 5 6 7) 8 fun y h1=>y = .int .i64 e∧h1=⟨bkN q' t' 0 1 2 3 4 5 6 7,8⟩
theorem cx_A {x:Ax} {q q':Bk} {t t':TS} {v:Int} {o i a b c d e g nx:Nat} {l:List (Nat × AObj)} {K:AV→Hp→Prop} (hc:LocA x q t v q' t')
  (g0:lk l o=some (.cells [.ptr i 0])) (g1:lk l i=some (.cells [.ptr a 0,.ptr g 0,.int .i64 (q.a:Nat),.int .i64 (q.n:Nat)])) (h0:lk l a=some (.cells (tabC b e t.C))) (h1:lk l b=some (.cells [.sl c 0 t.n t.n 7,.sl d 0 t.m t.m 3,.int .i64 (t.S.fr:Nat)])) (h2:lk l c=some (.cells (C9 t.n t.V t.W t.V3 t.V4 t.S.L t.S.N t.S.P))) (h3:lk l d=some (.cells (J5 t.m t.S.A t.S.B t.S.C))) (h4:lk l e=some (.maps (t.E.map AG8))) (h5:lk l g=some (.cells q.s.a))
  (hlt:o < nx∧i < nx∧a < nx∧b < nx∧c < nx∧d < nx∧e < nx∧g < nx) (hd:AY6 [o,i,a,b,c,d,e,g]=true)
  (hk:AG1 [o,i,a,b,c,d,e,g] l fun l2=>K (.int .i64 v) ⟨([(o,.cells [.ptr i 0]),(i,.cells [.ptr a 0,.ptr g 0,.int .i64 (q'.a:Nat),.int .i64 (q'.n:Nat)]),(a,.cells (tabC b e t'.C)),(b,.cells [.sl c 0 t'.n t'.n 7,.sl d 0 t'.m t'.m 3,.int .i64 (t'.S.fr:Nat)]),(c,.cells (C9 t'.n t'.V t'.W t'.V3 t'.V4 t'.S.L t'.S.N t'.S.P)),(d,.cells (J5 t'.m t'.S.A t'.S.B t'.S.C)),(e,.maps (t'.E.map AG8)),(g,.cells q'.s.a)]:List (Nat × AObj))++l2,nx⟩):AB8 Tryz.prog G0 (.fn 14 [] []) [.ptr g 0,.ptr o 0,.agg (acE x)] ⟨l,nx⟩ K:=by
 have e0:enter [o,i,a,b,c,d,e,g] o 0:=rfl
 have e1:enter [o,i,a,b,c,d,e,g] i 1:=rfl
 have e2:enter [o,i,a,b,c,d,e,g] a 2:=rfl
 have e3:enter [o,i,a,b,c,d,e,g] b 3:=rfl
 have e4:enter [o,i,a,b,c,d,e,g] c 4:=rfl
 have e5:enter [o,i,a,b,c,d,e,g] d 5:=rfl
 have e6:enter [o,i,a,b,c,d,e,g] e 6:=rfl
 have e7:enter [o,i,a,b,c,d,e,g] g 7:=rfl
 have k0:back [o,i,a,b,c,d,e,g] nx 0 o:=rfl
 have k1:back [o,i,a,b,c,d,e,g] nx 1 i:=rfl
 have k2:back [o,i,a,b,c,d,e,g] nx 2 a:=rfl
 have k3:back [o,i,a,b,c,d,e,g] nx 3 b:=rfl
 have k4:back [o,i,a,b,c,d,e,g] nx 4 c:=rfl
 have k5:back [o,i,a,b,c,d,e,g] nx 5 d:=rfl
 have k6:back [o,i,a,b,c,d,e,g] nx 6 e:=rfl
 have k7:back [o,i,a,b,c,d,e,g] nx 7 g:=rfl
 refine AA9 (l1:=bkN q' t' o i a b c d e g) [o,i,a,b,c,d,e,g] hc.out I7 hd
  (.cons e0 g0 ⟨H8 e1,trivial⟩ (.cons e1 g1 ⟨H8 e2,H8 e7,D6 A8,D6 A8,trivial⟩ (.cons e2 h0 (AF2 e3 e6) (.cons e3 h1 ⟨J7 e4,J7 e5,D6 A8,trivial⟩ (.cons e4 h2 P6 (.cons e5 h3 V8 (.maps e6 h4 H9 (.cons e7 h5 (C8 G8) .nil))))))))
  ?_ (by intro x hx;simp only [List.mem_cons,List.not_mem_nil,or_false] at hx;omega) (D6 A8)
  (.cons k0 ⟨H8 k1,trivial⟩ (.cons k1 ⟨H8 k2,H8 k7,D6 A8,D6 A8,trivial⟩ (.cons k2 (AF2 k3 k6) (.cons k3 ⟨J7 k4,J7 k5,D6 A8,trivial⟩ (.cons k4 P6 (.cons k5 V8 (.maps k6 H9 (.cons k7 (C8 G8) .nil)))))))) hk
 simp only [List.nil_append,List.append_nil]
 exact ⟨H8 e7,H8 e0,D6 (Ad2 x),trivial⟩
theorem BB2 {top:Bool} {h:Hp} {N0:Nat} {e:Int} {q:Bk} {t:TS} (g0:lk h.l 0=some (.cells [.ptr 1 0])) (g1:lk h.l 1=some (.cells [.ptr 2 0,.ptr 7 0,.int .i64 (q.a:Nat),.int .i64 (q.n:Nat)])) (h0:lk h.l 2=some (.cells (tabC 3 6 t.C))) (h1:lk h.l 3=some (.cells [.sl 4 0 t.n t.n 7,.sl 5 0 t.m t.m 3,.int .i64 (t.S.fr:Nat)])) (h2:lk h.l 4=some (.cells (C9 t.n t.V t.W t.V3 t.V4 t.S.L t.S.N t.S.P))) (h3:lk h.l 5=some (.cells (J5 t.m t.S.A t.S.B t.S.C))) (h4:lk h.l 6=some (.maps (t.E.map AG8))) (h5:lk h.l 7=some (.cells q.s.a)) (hN0:N0≤8:=by decide) :
  AR3 top Tryz.prog N0 h (.int .i64 e) (fun r' h'=>r' = .int .i64 e∧h'=⟨bkN q t 0 1 2 3 4 5 6 7,8⟩):=O4 rfl A8 g0 g1 h0 h1 h2 h3 h4 h5 hN0
section
variable {q:Bk} {t:TS}
theorem l_alone (hg:H6 q) (h:TOk q.L t) (x:Ax) (hw:0≤x.w):∃ t',TOk (q.al x).2.L t'∧LocA x q t (q.al x).1 (q.al x).2 t':=by
 have h0:x.w.tmod 14=x.w % 14:=Int.tmod_eq_emod_of_nonneg hw
 have hm:((x.w.toNat % 14:Nat):Int)=x.w.tmod 14:=by rw [h0];omega
 unfold Bk.al Bk.call
 generalize x.w.toNat % 14=w at *
 have hw14:0≤x.w.tmod 14∧x.w.tmod 14 < 14:=by rw [h0];omega
 by_cases c1:w < 2
 ·rw [if_pos c1]
  obtain ⟨t',h1,h2⟩:=b_Map hg h x.a x.b
  refine ⟨t',h1,⟨D9 E9 b14 rfl ?_⟩⟩
  unfold c14
  unfold bkN rdN acE
  generalize q.map x.a x.b=r at *
  rcases (show x.w.tmod 14=0∨x.w.tmod 14=1 by omega) with hy|hy
  all_goals (refine wx_Jj ?_;repeat' (first|with_reducible refine And.intro ?_ ?_|intro hsp))
  all_goals first|exact BB2 rfl rfl rfl rfl rfl rfl rfl rfl|(exfalso;omega)
 rw [if_neg c1]
 by_cases c2:w=2
 ·rw [if_pos c2]
  obtain ⟨t',h1,h2⟩:=b_Unmap hg h x.a x.b
  refine ⟨t',h1,⟨D9 E9 b14 rfl ?_⟩⟩
  unfold c14
  unfold bkN rdN acE
  have hy:x.w.tmod 14=2:=by omega
  generalize q.unmap x.a x.b=r at *
  (refine wx_Jj ?_;repeat' (first|with_reducible refine And.intro ?_ ?_|intro hsp))
  all_goals first|exact BB2 rfl rfl rfl rfl rfl rfl rfl rfl|(exfalso;omega)
 rw [if_neg c2]
 by_cases c3:w=3
 ·rw [if_pos c3]
  obtain ⟨t',h1,h2⟩:=b_Take h x.a x.b
  refine ⟨t',h1,⟨D9 E9 b14 rfl ?_⟩⟩
  unfold c14
  unfold bkN rdN acE
  have hy:x.w.tmod 14=3:=by omega
  generalize q.take x.a x.b=r at *
  (refine wx_Jj ?_;repeat' (first|with_reducible refine And.intro ?_ ?_|intro hsp))
  all_goals first|exact BB2 rfl rfl rfl rfl rfl rfl rfl rfl|(exfalso;omega)
 rw [if_neg c3]
 by_cases c4:w=4
 ·rw [if_pos c4]
  obtain ⟨t',h1,h2⟩:=b_Drop hg h x.a
  refine ⟨t',h1,⟨D9 E9 b14 rfl ?_⟩⟩
  unfold c14
  unfold bkN rdN acE
  have hy:x.w.tmod 14=4:=by omega
  generalize q.drop x.a=r at *
  (refine wx_Jj ?_;repeat' (first|with_reducible refine And.intro ?_ ?_|intro hsp))
  all_goals first|exact BB2 rfl rfl rfl rfl rfl rfl rfl rfl|(exfalso;omega)
 rw [if_neg c4]
 by_cases c5:w=5
 ·rw [if_pos c5]
  obtain ⟨t',h1,h2⟩:=b_Revert hg h x.a x.b
  refine ⟨t',h1,⟨D9 E9 b14 rfl ?_⟩⟩
  unfold c14
  unfold bkN rdN acE
  have hy:x.w.tmod 14=5:=by omega
  generalize q.revert x.a x.b=r at *
  (refine wx_Jj ?_;repeat' (first|with_reducible refine And.intro ?_ ?_|intro hsp))
  all_goals first|exact BB2 rfl rfl rfl rfl rfl rfl rfl rfl|(exfalso;omega)
 rw [if_neg c5]
 by_cases c6:w < 10
 ·rw [if_pos c6]
  obtain ⟨t',h1,h2⟩:=Aj2 hg h x.a x.t x.v
  refine ⟨t',h1,⟨D9 E9 b14 rfl ?_⟩⟩
  unfold c14
  unfold bkN rdN acE
  generalize q.write x.a x.t x.v=r at *
  rcases (show x.w.tmod 14=6∨x.w.tmod 14=7∨x.w.tmod 14=8∨x.w.tmod 14=9 by omega) with hy|hy|hy|hy
  all_goals (refine wx_Jj ?_;repeat' (first|with_reducible refine And.intro ?_ ?_|intro hsp))
  all_goals first|exact BB2 rfl rfl rfl rfl rfl rfl rfl rfl|(exfalso;omega)
 rw [if_neg c6]
 by_cases c7:w=13
 ·rw [if_pos c7]
  have h2:=p_plan q.s x.l
  refine ⟨t,h,⟨D9 E9 b14 rfl ?_⟩⟩
  unfold c14
  unfold bkN rdN acE
  have hy:x.w.tmod 14=13:=by omega
  generalize q.s.plan x.l=r at *
  (refine wx_Jj ?_;repeat' (first|with_reducible refine And.intro ?_ ?_|intro hsp))
  all_goals first|exact BB2 (q:=⟨q.a,q.n,q.L,r.2⟩) rfl rfl rfl rfl rfl rfl rfl rfl|(exfalso;omega)
 ·rw [if_neg c7]
  refine ⟨t,h,⟨D9 E9 b14 rfl ?_⟩⟩
  unfold c14
  unfold bkN rdN acE
  rcases (show x.w.tmod 14=10∨x.w.tmod 14=11∨x.w.tmod 14=12 by omega) with hy|hy|hy
  all_goals (refine wx_Jj ?_;repeat' (first|with_reducible refine And.intro ?_ ?_|intro hsp))
  all_goals first|exact BB2 rfl rfl rfl rfl rfl rfl rfl rfl|(exfalso;omega)
end
end Go.Proofs.YtphggldkligldaaGreat.Sh
namespace Go.Pol
open Go.Am
theorem differ_N {b:Bk} {x y:Nat} (hx:x < 64) (hy:y < 64):b.differ (x:Nat) (y:Nat)=(b.difN x y 1024,0):=by
 unfold Bk.differ
 rw [if_neg (by rw [Classical.not_not];exact ⟨⟨by omega,by omega⟩,by omega,by omega⟩),Int.toNat_natCast,Int.toNat_natCast]
 rfl
end Go.Pol
namespace Go.Proofs.YtphggldkligldaaGreat.Sh
open Go Go.Am Go.Pol
theorem wx_Jk {p q:Prop} (hq:q) (h:X5 q→p:=by (intro hQz;((repeat' ((try (conv=>whnf));first|refine sxA ?_|refine sxF ?_|refine cx_locN hn ?_|refine cx_BN h0 rfl (by decide) ?_|refine AI2 y1 rfl rfl rfl rfl rfl rfl rfl rfl (by decide) rfl ?_|refine AI2 y2 rfl rfl rfl rfl rfl rfl rfl rfl (by decide) rfl ?_|refine AI2 y3 rfl rfl rfl rfl rfl rfl rfl rfl (by decide) rfl ?_|refine AI2 y4 rfl rfl rfl rfl rfl rfl rfl rfl (by decide) rfl ?_|refine AI2 r4 rfl rfl rfl rfl rfl rfl rfl rfl (by decide) rfl ?_|refine AI2 n4 rfl rfl rfl rfl rfl rfl rfl rfl (by decide) rfl ?_|refine AI2 d4 rfl rfl rfl rfl rfl rfl rfl rfl (by decide) rfl ?_|refine AI2 y5 rfl rfl rfl rfl rfl rfl rfl rfl (by decide) rfl ?_|refine AI2 y6 rfl rfl rfl rfl rfl rfl rfl rfl (by decide) rfl ?_|refine AI2 y7 rfl rfl rfl rfl rfl rfl rfl rfl (by decide) rfl ?_|refine AI2 y8 rfl rfl rfl rfl rfl rfl rfl rfl (by decide) rfl ?_|refine AI2 r8 rfl rfl rfl rfl rfl rfl rfl rfl (by decide) rfl ?_|refine sxH ?_|((with_reducible first|apply N9 hQz|apply O1 hQz)<;>(try intro hsp hQz))|exact hQz.out))<;>(try (conv=>whnf))))):p:=h ⟨hq⟩
theorem k_shown:M5 11 [] (.bool true):=by
 have hn:=n_new
 have hc0:(AJ8 []).2=0:=by decide
 have h0:LocBN 38 [.int .i64 8,.int .i64 2] (Sy.new []) sh0 T0:=b_New (Ar7 hc0) (a:=8) (n:=2) (by decide) sh_0
 have g0:H6 sh0:=(BO3 (l:=[]) (a:=8) (n:=2) hc0 (by decide) sh_0 sh0 rfl).1
 obtain ⟨t1,k1,y1⟩:=b_Map g0 tok_0 0 3
 have g1:H6 sh1:=BP4 g0 0 3
 rw [sh_1,show (sh0.map 0 3).2=sh1 from rfl] at y1
 rw [show (sh0.map 0 3).2=sh1 from rfl] at k1
 obtain ⟨t2,k2,y2⟩:=Aj2 g1 k1 0 192 7
 have g2:H6 sh2:=AK7 g1 0 192 7
 rw [sh_2,show (sh1.write 0 192 7).2=sh2 from rfl] at y2
 rw [show (sh1.write 0 192 7).2=sh2 from rfl] at k2
 obtain ⟨t3,k3,y3⟩:=b_Take k2 0 1
 have g3:H6 sh3:=Ah5 g2 0 1
 rw [sh_3.1,sh_3.2,show (sh2.take 0 1).2.2=sh3 from rfl] at y3
 rw [show (sh2.take 0 1).2.2=sh3 from rfl] at k3
 obtain ⟨t4,k4,y4⟩:=Aj2 g3 k3 0 192 8
 have g4:H6 sh4:=AK7 g3 0 192 8
 rw [sh_4,show (sh3.write 0 192 8).2=sh4 from rfl] at y4
 rw [show (sh3.write 0 192 8).2=sh4 from rfl] at k4
 have r4:=BR1 k4 1 192
 rw [sh_r4] at r4
 have n4:=b_Counts g4 k4
 rw [sh_c4.1,sh_c4.2.1,sh_c4.2.2] at n4
 have d4:=b_Differ g4 k4 (x:=0) (y:=1) (by decide) (by decide)
 have e4:=(differ_N (b:=sh4) (x:=0) (y:=1) (by decide) (by decide)).symm.trans sh_d4
 rw [(Prod.mk.inj e4).1] at d4
 clear e4
 obtain ⟨t5,k5,y5⟩:=b_Take k4 1 2
 have g5:H6 sh5:=Ah5 g4 1 2
 rw [sh_5.1,sh_5.2,show (sh4.take 1 2).2.2=sh5 from rfl] at y5
 rw [show (sh4.take 1 2).2.2=sh5 from rfl] at k5
 obtain ⟨t6,k6,y6⟩:=Aj2 g5 k5 2 192 9
 have g6:H6 sh6:=AK7 g5 2 192 9
 rw [sh_6,show (sh5.write 2 192 9).2=sh6 from rfl] at y6
 rw [show (sh5.write 2 192 9).2=sh6 from rfl] at k6
 obtain ⟨t7,k7,y7⟩:=b_Drop g6 k6 0
 have g7:H6 sh7:=Ah6 g6 0
 rw [sh_7.1,sh_7.2,show (sh6.drop 0).2.2=sh7 from rfl] at y7
 rw [show (sh6.drop 0).2.2=sh7 from rfl] at k7
 obtain ⟨t8,k8,y8⟩:=Aj2 g7 k7 2 192 9
 rw [sh_8,show (sh7.write 2 192 9).2=sh8 from rfl] at y8
 rw [show (sh7.write 2 192 9).2=sh8 from rfl] at k8
 have r8:=BR1 k8 1 192
 rw [sh_r8] at r8
 clear g0 g1 g2 g3 g4 g5 g6 g7 k1 k2 k3 k4 k5 k6 k7 k8 hc0
 generalize T0=t0 at *
 generalize Sy.new []=s0 at *
 generalize sh0=q0 at *
 generalize sh1=q1 at *
 generalize sh2=q2 at *
 generalize sh3=q3 at *
 generalize sh4=q4 at *
 generalize sh5=q5 at *
 generalize sh6=q6 at *
 generalize sh7=q7 at *
 generalize sh8=q8 at *
 refine M5.mk (V7 E9 b11 I7 trivial A9 rfl ?_)
 unfold c11
 (refine wx_Jk ?_;repeat' (first|with_reducible refine And.intro ?_ ?_|intro hsp))
 all_goals first|exact Y3 rfl|(exfalso;omega)|(exfalso;simp at hsp;done)|(exfalso;simp_all;done)
end Go.Proofs.YtphggldkligldaaGreat.Sh
namespace Go.Pol
open Go.Am
def Bk.run (b:Bk) (X:List Ax):Nat→Bk
 | 0=>b
 | k+1=>((b.run X k).al (nth dA X k)).2
end Go.Pol
namespace Go.Proofs.YtphggldkligldaaGreat.Sh
open Go Go.Am Go.Pol
theorem py_good {p:Py} (h1:(AJ8 p.l).2=0) (h2:stat p.a p.n) (h3:((Sy.new p.l).chg p.a p.n 0 1 0).1=0):H6 p.b∧OutB p.b∧AQ5 p.b∧ByS p.b.s∧(p.l=[]→Aj8 p.b) :=
 BO3 h1 ⟨h2.1,h2.2.2.1,by have:=h2.2.2.2;omega⟩ h3 p.b rfl
end Go.Proofs.YtphggldkligldaaGreat.Sh
namespace Go.Pol
open Go.Am
@[irreducible] def hsC (f:Nat→Int):List AV:=memA 65536 fun p=>.int .i16 (f p)
theorem Ah2 {f:Nat→Int}:(hsC f).length=65536:=by unfold hsC;exact R5 ..
theorem W9 {f:Nat→Int} {p:Nat} (h:p < 65536):(hsC f)[p]? = some (.int .i16 (f p)):=by unfold hsC;exact Q5 h
theorem H7 {f:Nat→Int}:∀ x ∈ hsC f,Plain x:=by unfold hsC;exact AB4 fun _ _=>A8
theorem AN1 {f g:Nat→Int} (h:∀ p,p < 65536→f p=g p):hsC f=hsC g:=by unfold hsC;exact U7 fun p hp=>by rw [h p hp]
theorem Ah1 {f:Nat→Int} {p:Nat} {v:Int}:(hsC f).set p (.int .i16 v)=hsC fun j=>if j=p then v else f j:=by
 unfold hsC
 rw [AP4]
 exact U7 fun j _=>by dsimp only;split<;>rfl
theorem hsC_make:(List.replicate 65536 [AV.int .i16 0]).flatten=hsC fun _=>0:=by
 have h:∀ n:Nat,(List.replicate n [AV.int .i16 0]).flatten=memA n fun _=>.int .i16 0:=fun n=>by
  rw [show ([AV.int .i16 0]:List AV)=[AV.int .i16 0] from rfl,List.flatten_replicate_singleton]
  unfold memA
  rw [List.map_const',List.length_range]
 unfold hsC
 exact h 65536
def emF (i:Nat):Nat→Int:=fun j=>if j < i then -1 else 0
theorem emF_0:hsC (emF 0)=hsC fun _=>0:=rfl
theorem emF_s {i:Nat}:(hsC (emF i)).set i (.int .i16 (-1))=hsC (emF (i+1)):=by
 rw [Ah1]
 refine AN1 fun p _=>?_
 unfold emF
 by_cases e:p=i
 ·rw [if_pos e,if_pos (by omega)]
 ·rw [if_neg e]
  by_cases h:p < i
  ·rw [if_pos h,if_pos (by omega)]
  ·rw [if_neg h,if_neg (by omega)]
theorem emF_all:hsC (emF 65536)=hsC fun _=>-1:=AN1 fun p h=>if_pos h
end Go.Pol
namespace Go.Proofs.YtphggldkligldaaGreat.Sh
open Go Go.Am Go.Pol
theorem plx_Id {p:Prop} (h:p:=by ((first|exact plw|(with_reducible first|apply O7|apply M8|apply Y1|apply plain_stA|apply AK1|apply AH1|apply M0|apply Ad1|apply V9|apply X3|apply plain_sna|apply Ax9|apply AK0 _|apply Ad2 _|fail)|fail);first|done|fail)):p:=h
theorem ppx_Id {p:Prop} (h:p:=by ((first|with_reducible assumption|(with_reducible first|apply F5|apply F8|apply P9|apply P5 _ _|apply Y0|apply AU9|apply G8|apply Aj1|apply AU3|apply AW5|apply K9 AE5|apply Ac8 _|apply AW6 _|apply H7|fail)|exact ppw|fail);first|done|fail)):p:=h
open Go.Proofs.YtphggldkligldaaGreat.Sh renaming plx_Id → plx
open Go.Proofs.YtphggldkligldaaGreat.Sh renaming ppx_Id → ppx
theorem wx_Id {p q:Prop} (hq:q) (h:X5 q→p:=by (intro hQz;((repeat' ((try (conv=>whnf));first|(with_reducible first|refine R3 ?_|refine M6 ?_|refine R9 ?_|refine T9 ?_|refine N8 ?_|refine Y6 ?_|refine Q8 ?_|refine Y5 rfl ?_|refine Q9 ?_|refine K4 ?_|refine M9 ?_|refine N7 ?_|refine S9 ?_|refine K3 ?_|refine M7 (by decide +kernel) ?_|refine L9 (by decide +kernel) ?_|refine AL0 ?_|refine AL1 ?_|refine BC4 ?_|refine AC9 ?_|refine AO0 ?_|refine At9 (by assumption) ?_|refine Au0 (by assumption) ?_|refine AC8 (by omega) ?_|refine AN8 ?_)|((with_reducible refine AO1 ?_ ?_);focus omega)|((with_reducible refine AO2 ?_ ?_);focus omega)|((with_reducible apply N9 hQz)<;>(try intro hsp hQz))|((with_reducible refine BC0 ?_ ?_);focus (first|omega|rfl|assumption|decide|(simp only [List.length_map,List.length_cons,List.length_nil];omega)|exact hmk))|refine AC7 (hmk) ?_|(with_reducible first|refine AN5 ?_|refine AC6 ?_|refine AC5 ?_|refine AN7 ?_|refine AN6 ?_|refine AN3 ?_|refine BA7 ?_|refine K6 ?_|refine AC2 ?_|refine R7 ?_|refine R6 ?_|refine K7 ?_|refine AN4 (by omega) ?_|refine AC4 (by omega) ?_)|refine D7 (by rw [Ah2];omega) hset ?_|refine sxF ?_|refine sxH ?_|((with_reducible apply O1 hQz)<;>(try intro hsp hQz))|exact hQz.out))<;>(try (conv=>whnf))))):p:=h ⟨hq⟩
structure LocEm:Prop where
 out:AQ1 Tryz.prog G0 13 [] [] 0 fun x h=>x = .sl 0 0 65536 65536 1∧h=⟨[(0,.cells (hsC fun _=>-1))],1⟩
theorem k_empty:LocEm:=by
 refine LocEm.mk (D9 E9 b13 rfl ?_)
 unfold c13
 have hmk:=hsC_make
 (refine wx_Id ?_;repeat' (first|with_reducible refine And.intro ?_ ?_|intro hsp))
 have hz:=emF_0
 (refine F6 [] (fun (i:Nat)=>[(1,.sl 0 0 65536 65536 1),(2,.int .i64 (i:Nat))]) (fun (i:Nat)=>⟨[(0,.cells (hsC (emF i)))],1⟩) (fun (i:Nat)=>i≤65536) (fun (i:Nat)=>65536 - i) (0) [] rfl (fun _=>by first|exact Nat.zero_le _|(dsimp only;omega)) ?_ (by ((try (conv=>whnf));(rw [hz]);exact F9)) ?_)
 ·exact Nat.zero_le _
 intro i hi
 by_cases hil:i < 65536
 ·have hset:=emF_s (i:=i)
  (refine wx_Id ?_;repeat' (first|with_reducible refine And.intro ?_ ?_|intro hsp))
  all_goals first|(exfalso;omega)|exact F3 (i+1) [] (by (try dsimp only);omega) (by first|omega|(dsimp only;omega)) rfl (by exact F9)
 ·obtain rfl:i=65536:=by omega
  rw [emF_all]
  (refine wx_Id ?_;repeat' (first|with_reducible refine And.intro ?_ ?_|intro hsp))
  have hs:AI3 (rn []) ⟨[(0,.cells (hsC fun _=>-1))],1⟩ ⟨[(0,.cells (hsC fun _=>-1))],1⟩:=fun j o hj=>⟨o,hj⟩
  all_goals exact j6 [] rfl (Nat.zero_le _) (L6 rfl) (j4 rfl (show 0 < 1 by decide) rfl (Nat.le_refl _) (Nat.le_refl _)) (E8 hs (show 0 < 1 by decide) rfl rfl H7 J6) ⟨rfl,rfl⟩
theorem cx_Em {nx:Nat} {l:List (Nat × AObj)} {K:AV→Hp→Prop} (hk:K (.sl nx 0 65536 65536 1) ⟨(nx,.cells (hsC fun _=>-1))::l,nx+1⟩):AB8 Tryz.prog G0 (.fn 13 [] []) [] ⟨l,nx⟩ K:=by
 have k0:back [] nx 0 nx:=rfl
 exact AA9 (r':=.sl nx 0 65536 65536 1) (l1:=[(nx,.cells (hsC fun _=>-1))]) [] k_empty.out I7 rfl .nil trivial (by simp) (J7 k0) (.cons k0 (C8 H7) .nil) (AJ4 hk)
theorem dcx_Em {nx:Nat} {l:List (Nat × AObj)} {K:AV→Up→List Nat→Prop} (hk:K (.sl nx 0 65536 65536 1) [(nx,some (.cells (hsC fun _=>-1)))] []):AR4 Tryz.prog G0 13 [] ⟨l,nx⟩ K :=
 dcx_new (r':=.sl nx 0 65536 65536 1) (cs':=hsC fun _=>-1) [] k_empty.out I7 (fun n hn=>by cases hn) trivial (J7 (.inr ⟨rfl,rfl⟩)) (C8 H7) hk
end Go.Proofs.YtphggldkligldaaGreat.Sh
