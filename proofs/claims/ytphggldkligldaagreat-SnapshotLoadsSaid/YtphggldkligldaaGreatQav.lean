/-
 A book's calls: Counts,Differ.
 A book's calls: Differ.
 A new book;plays and calls as values;far;the beginning of a play.
 far,alone.
 The example.
 Load of a good book.
 The program's Load: states that are not loaded.
 The document's answer: Drop.
 The document's answer: Where.
 What a call does,of both: the same answer,and the same views.
 Read and Write of both,at any place.
-/
import Derived.Test.YtphggldkligldaaGreatQau
set_option linter.unusedSimpArgs false
set_option linter.unusedVariables false
set_option maxHeartbeats 3200000
namespace Go.Pol
open Go.Am
theorem eqL_map {f g:Nat→Int}:∀ l:List Nat,eqL (l.map fun _=>0) (l.map fun j=>.int .u8 (f j)) (l.map fun j=>.int .u8 (g j))=some (decide (∀ j ∈ l,f j=g j))
 | []=>by simp [eqL]
 | x::l=>by
  simp only [List.map_cons,eqL,eq1,if_true,eqL_map l,Option.map_some,Option.bind_some,Option.some.injEq]
  rw [Bool.eq_iff_iff]
  simp
theorem eqL_bc {f g:Nat→Int}:eqL (List.replicate 64 0) (bcA f) (bcA g)=some (decide (eqB f g)):=by
 have h:=eqL_map (f:=f) (g:=g) (List.range 64)
 have h0:(List.range 64).map (fun _=>0)=List.replicate 64 0:=by rw [List.map_const',List.length_range]
 unfold bcA memA
 rw [← h0,h]
 congr 1
 refine decide_eq_decide.2 ?_
 unfold eqB
 simp only [List.mem_range]
theorem BQ7 {a b:Nat} {p:Prop} [Decidable p] (h:a=b+if p then 1 else 0):(p→a=b+1)∧(¬ p→a=b):=⟨fun hp=>by rw [if_pos hp] at h;exact h,fun hp=>by rw [if_neg hp] at h;exact h⟩
def Bk.difN (b:Bk) (x y k:Nat):List Int:=((List.range k).filter fun k=>b.dif x y k).map fun k=>((k:Nat):Int)
theorem dif_0 {b:Bk} {x y:Nat}:b.difN x y 0=[]:=rfl
theorem dif_s {b:Bk} {x y k:Nat}:b.difN x y (k+1)=if b.dif x y k=true then b.difN x y k++[((k:Nat):Int)] else b.difN x y k:=by
 unfold Bk.difN
 rw [List.range_succ,List.filter_append,List.map_append]
 by_cases h:b.dif x y k=true<;>simp [h]
theorem dif_le {b:Bk} {x y k:Nat}:(b.difN x y k).length≤k:=by
 unfold Bk.difN;rw [List.length_map];exact Nat.le_trans (List.length_filter_le ..) (by rw [List.length_range];exact Nat.le_refl _)
end Go.Pol
namespace Go.Proofs.YtphggldkligldaaGreat.Sh
open Go Go.Am Go.Pol
theorem ppx_Jg {p:Prop} (h:p:=by ((first|with_reducible assumption|(with_reducible first|apply F7|apply H6|apply R8|apply R3 _ _|apply V8|apply AH3|apply I5|apply F8|apply AK7|apply AO0|apply I7 AB0|fail)|exact ppw|fail);first|done|fail)):p:=h
open Go.Proofs.YtphggldkligldaaGreat.Sh renaming plx_Je → plx
open Go.Proofs.YtphggldkligldaaGreat.Sh renaming ppx_Jg → ppx
theorem wx_Jg {p q:Prop} (hq:q) (h:X0 q→p:=by (intro hQz;((repeat' ((try (conv=>whnf));first|refine sxA ?_|refine sxF ?_|refine AA2 (by assumption) rfl rfl rfl rfl rfl (by decide) rfl ?_|refine M4 hck rfl (by decide) ?_|refine AV5 E9 rfl hF hA hB rfl ?_|(refine M7 E9 b75 rfl ?_;unfold c75)|refine AO8 his rfl rfl rfl rfl rfl rfl rfl rfl (by decide) rfl ?_|refine sxH ?_|((with_reducible first|apply M9 hQz|apply N7 hQz)<;>(try intro hsp hQz))|exact hQz.out))<;>(try (conv=>whnf))))):p:=h ⟨hq⟩
section
variable {q:Bk} {t:TS}
theorem BV7 {a b c d:Int}:Plain (.tup [.int .i64 a,.int .i64 b,.int .i64 c,.int .i64 d]):=G7 fun x hx=>by
 simp only [List.mem_cons,List.not_mem_nil,or_false] at hx
 rcases hx with rfl|rfl|rfl|rfl<;>exact A8
theorem b_Counts (hg:R9 q) (h:TOk q.L t):AP2 34 0 [] q t (.tup [.int .i64 (q.used:Nat),.int .i64 (q.idle:Nat),.int .i64 (q.many:Nat),.int .i64 0]) q t:=by
 refine AP2.mk (G5 E9 b34 rfl ?_) (fun x hx=>by cases hx) BV7
 have hrng:=hg.rng
 have his:=b_is (q:=q) (t:=t)
 rw [used_R,idle_R,many_R]
 unfold c34
 unfold bkN rdN
 generalize hpu:(fun f=>decide (0 < cntF q.L f))=pu
 generalize hpi:(fun f=>decide (cntF q.L f=0∧q.s.K f=2))=pi
 generalize hpm:(fun f=>decide (1 < cntF q.L f))=pm
 (refine wx_Jg ?_;repeat' (first|with_reducible refine And.intro ?_ ?_|intro hsp))
 refine AR2 E9 b137 rfl trivial ?_
 intro frl asl bdl hF hA hB
 unfold c137
 (refine wx_Jg ?_;repeat' (first|with_reducible refine And.intro ?_ ?_|intro hsp))
 (refine G8 [0,1] (fun (i:Nat)=>[(3,.int .i64 ((q.a+i:Nat):Int))]) (fun (i:Nat)=>⟨bkN q t 0 1 2 3 4 5 6 7++[(8,.cells [.int .i64 (BL7 pu q.a i:Nat)]),(9,.cells [.int .i64 (BL7 pi q.a i:Nat)]),(10,.cells [.int .i64 (BL7 pm q.a i:Nat)]),(11,.cells [.ptr 1 0]),(12,.cells [.ptr 1 0]),(13,.loop .ready none frl [21,22] asl bdl)],14⟩) (fun (i:Nat)=>i≤q.n) (fun (i:Nat)=>q.n - i) (0) [] rfl (fun _=>by first|exact Nat.zero_le _|(dsimp only;omega)) ?_ (by ((try (conv=>whnf));exact U7)) ?_)
 ·exact Nat.zero_le _
 intro i hi
 have u1:=BS4 (p:=pu) (a:=q.a) (i:=i)
 have u2:=BS4 (p:=pi) (a:=q.a) (i:=i)
 have u3:=BS4 (p:=pm) (a:=q.a) (i:=i)
 by_cases hil:i < q.n
 ·have hkd:=hg.kind (q.a+i) (by omega) (by omega)
  have hcn:=An2 h (f:=q.a+i) (by omega)
  have hck:=BW2 (s:=q.s) (a:=((q.a+i:Nat):Int))
  rw [Az6 (by omega) hkd.2] at hck
  have s1:=cntR_s (p:=pu) (a:=q.a) (i:=i)
  have s2:=cntR_s (p:=pi) (a:=q.a) (i:=i)
  have s3:=cntR_s (p:=pm) (a:=q.a) (i:=i)
  have e1:pu (q.a+i)=decide (0 < cntF q.L (q.a+i)):=by rw [← hpu]
  have e2:pi (q.a+i)=decide (cntF q.L (q.a+i)=0∧q.s.K (q.a+i)=2):=by rw [← hpi]
  have e3:pm (q.a+i)=decide (1 < cntF q.L (q.a+i)):=by rw [← hpm]
  rw [e1] at s1
  rw [e2] at s2
  rw [e3] at s3
  simp only [decide_eq_true_eq] at s1 s2 s3
  have hkk:=hkd.1
  generalize cntF q.L (q.a+i)=n at *
  generalize q.s.K (q.a+i)=kk at *
  generalize BL7 pu q.a i=w1 at *
  generalize BL7 pi q.a i=w2 at *
  generalize BL7 pm q.a i=w3 at *
  clear e1 e2 e3 hpu hpi hpm
  have s1:=BQ7 s1
  have s2:=BQ7 s2
  have s3:=BQ7 s3
  unfold bkN rdN
  (refine wx_Jg ?_;repeat' (first|with_reducible refine And.intro ?_ ?_|intro hsp))
  all_goals exact D9 (i+1) [] (by (try dsimp only);omega) (by first|omega|(dsimp only;omega)) rfl (by exact U7)
 ·obtain rfl:i=q.n:=by omega
  unfold bkN rdN
  generalize BL7 pu q.a q.n=w1 at *
  generalize BL7 pi q.a q.n=w2 at *
  generalize BL7 pm q.a q.n=w3 at *
  (refine wx_Jg ?_;repeat' (first|with_reducible refine And.intro ?_ ?_|intro hsp))
  all_goals exact o9 rfl BV7 rfl rfl rfl rfl rfl rfl rfl rfl
end
end Go.Proofs.YtphggldkligldaaGreat.Sh
namespace Go.Proofs.YtphggldkligldaaGreat.Sh
open Go Go.Am Go.Pol
theorem plx_Jh {p:Prop} (h:p:=by ((first|exact plw|(with_reducible first|apply L9|apply J7|apply J2|apply Y8|apply q9|apply AA1|apply Q7|apply AG5|fail)|fail);first|done|fail)):p:=h
open Go.Proofs.YtphggldkligldaaGreat.Sh renaming plx_Jh → plx
open Go.Proofs.YtphggldkligldaaGreat.Sh renaming ppx_Jg → ppx
theorem wx_Jh {p q:Prop} (hq:q) (h:X0 q→p:=by (intro hQz;((repeat' ((try (conv=>whnf));first|refine sxA ?_|refine sxF ?_|refine AO8 hi rfl rfl rfl rfl rfl rfl rfl rfl (by decide) rfl ?_|refine G9 (by assumption) ?_|refine AO2 (f:=Av7) (l2:=[((k:Nat):Int)]) Ad0 (AH1 rfl (by first|rfl|(simp;done)|(simp [*];done))) (fun hz=>by first|(simp [lk,AD2,AC8 hz,L6 hz];done)|rfl) (fun hz=>by first|(simp [lk,AD2,Ap0,lk_tN hz,AL4 hz];done)|rfl) (by first|rfl|(simp [flat,Av7];done)|(simp [flat,Av7, *];done)) (by decide) ⟨by omega,by omega⟩ rfl ?_|((with_reducible apply BK9 hQz);intro hQa hQb;refine AO1 (f:=Av7) (l2:=[((k:Nat):Int)]) Ad0 (AH1 rfl (by first|rfl|(simp;done)|(simp [*];done))) (fun hz=>by first|(simp [lk,AD2,AC8 hz,L6 hz];done)|rfl) (by first|rfl|(simp [flat,Av7];done)|(simp [flat,Av7, *];done)) (by decide) ⟨by omega,by omega⟩ ?_ ?_<;>intro hzz<;>first|(have hQz:=X0.mk (hQa.out hzz))|(have hQz:=X0.mk (hQb.out hzz)))|refine BA6 rfl ?_|refine AA2 f1 rfl rfl rfl rfl rfl (by decide) rfl ?_|refine AA2 f2 rfl rfl rfl rfl rfl (by decide) rfl ?_|refine sxH ?_|((with_reducible first|apply M9 hQz|apply N7 hQz)<;>(try intro hsp hQz))|exact hQz.out))<;>(try (conv=>whnf))))):p:=h ⟨hq⟩
theorem wx_Jhn {p q:Prop} (hq:q) (h:X0 q→p:=by (intro hQz;((repeat' ((try (conv=>whnf));first|refine sxA ?_|refine sxN ?_|refine AO2 (f:=Av7) (l2:=[((k:Nat):Int)]) Ad0 (AH1 rfl (by first|rfl|(simp;done)|(simp [*];done))) (fun hz=>by first|(simp [lk,AD2,AC8 hz,L6 hz];done)|rfl) (fun hz=>by first|(simp [lk,AD2,Ap0,lk_tN hz,AL4 hz];done)|rfl) (by first|rfl|(simp [flat,Av7];done)|(simp [flat,Av7, *];done)) (by decide) ⟨by omega,by omega⟩ rfl ?_|((with_reducible apply BK9 hQz);intro hQa hQb;refine AO1 (f:=Av7) (l2:=[((k:Nat):Int)]) Ad0 (AH1 rfl (by first|rfl|(simp;done)|(simp [*];done))) (fun hz=>by first|(simp [lk,AD2,AC8 hz,L6 hz];done)|rfl) (by first|rfl|(simp [flat,Av7];done)|(simp [flat,Av7, *];done)) (by decide) ⟨by omega,by omega⟩ ?_ ?_<;>intro hzz<;>first|(have hQz:=X0.mk (hQa.out hzz))|(have hQz:=X0.mk (hQb.out hzz)))|refine BA6 rfl ?_|refine AA2 f1 rfl rfl rfl rfl rfl (by decide) rfl ?_|refine AA2 f2 rfl rfl rfl rfl rfl (by decide) rfl ?_|refine BS2 (o:=0) y1 rfl rfl rfl rfl rfl rfl rfl rfl (by decide) rfl ?_|refine dcx_b1 (o:=0) y1 rfl rfl rfl rfl rfl rfl rfl rfl rfl rfl ?_|refine BS2 (o:=0) y2 rfl rfl rfl rfl rfl rfl rfl rfl (by decide) rfl ?_|refine dcx_b1 (o:=0) y2 rfl rfl rfl rfl rfl rfl rfl rfl rfl rfl ?_|refine BR5 hq ?_|refine sxH ?_|((with_reducible first|apply M9 hQz|apply N7 hQz)<;>(try intro hsp hQz))|exact hQz.out))<;>(try (conv=>whnf))))):p:=h ⟨hq⟩
theorem dcx_b1 {f:Nat} {avs:List AV} {q q':Bk} {t t':TS} {o i a b c d e g:Nat} {h:Hp} {r:AV} {K:AV→Up→List Nat→Prop} (hc:AP2 f 1 avs q t r q' t')
  (g1:lk h.l i=some (.cells [.ptr a 0,.ptr g 0,.int .i64 (q.a:Nat),.int .i64 (q.n:Nat)])) (g0:lk h.l o=some (.cells [.ptr i 0])) (h0:lk h.l a=some (.cells (tabC b e t.C))) (h1:lk h.l b=some (.cells [.sl c 0 t.n t.n 7,.sl d 0 t.m t.m 3,.int .i64 (t.S.fr:Nat)])) (h2:lk h.l c=some (.cells (D6 t.n t.V t.W t.V3 t.V4 t.S.L t.S.N t.S.P))) (h3:lk h.l d=some (.cells (O6 t.m t.S.A t.S.B t.S.C))) (h4:lk h.l e=some (.maps (t.E.map AO5))) (h5:lk h.l g=some (.cells q.s.a))
  (hd:Ae1 [o,i,a,b,c,d,e,g]=true) (hnx':[o,i,a,b,c,d,e,g].contains h.next=false)
  (hk:K r [(o,some (.cells [.ptr i 0])),(i,some (.cells [.ptr a 0,.ptr g 0,.int .i64 (q'.a:Nat),.int .i64 (q'.n:Nat)])),(a,some (.cells (tabC b e t'.C))),(b,some (.cells [.sl c 0 t'.n t'.n 7,.sl d 0 t'.m t'.m 3,.int .i64 (t'.S.fr:Nat)])),(c,some (.cells (D6 t'.n t'.V t'.W t'.V3 t'.V4 t'.S.L t'.S.N t'.S.P))),(d,some (.cells (O6 t'.m t'.S.A t'.S.B t'.S.C))),(e,some (.maps (t'.E.map AO5))),(g,some (.cells q'.s.a))] [o,i,a,b,c,d,e,g]):AV8 Tryz.prog G0 f (.ptr i 0::avs) h K:=by
 have hnx:h.next ∉ [o,i,a,b,c,d,e,g]:=fun hm=>by rw [List.contains_eq_mem,decide_eq_false_iff_not] at hnx';exact hnx' hm
 have e0:enter [o,i,a,b,c,d,e,g] o 0:=rfl
 have e1:enter [o,i,a,b,c,d,e,g] i 1:=rfl
 have e2:enter [o,i,a,b,c,d,e,g] a 2:=rfl
 have e3:enter [o,i,a,b,c,d,e,g] b 3:=rfl
 have e4:enter [o,i,a,b,c,d,e,g] c 4:=rfl
 have e5:enter [o,i,a,b,c,d,e,g] d 5:=rfl
 have e6:enter [o,i,a,b,c,d,e,g] e 6:=rfl
 have e7:enter [o,i,a,b,c,d,e,g] g 7:=rfl
 have k0:R7 [o,i,a,b,c,d,e,g] 0 o:=rfl
 have k1:R7 [o,i,a,b,c,d,e,g] 1 i:=rfl
 have k2:R7 [o,i,a,b,c,d,e,g] 2 a:=rfl
 have k3:R7 [o,i,a,b,c,d,e,g] 3 b:=rfl
 have k4:R7 [o,i,a,b,c,d,e,g] 4 c:=rfl
 have k5:R7 [o,i,a,b,c,d,e,g] 5 d:=rfl
 have k6:R7 [o,i,a,b,c,d,e,g] 6 e:=rfl
 have k7:R7 [o,i,a,b,c,d,e,g] 7 g:=rfl
 refine Aa3 (l1:=bkN q' t' o i a b c d e g) [o,i,a,b,c,d,e,g] hc.out F6 hd
  (.cons e0 g0 ⟨J4 e1,trivial⟩ (.cons e1 g1 ⟨J4 e2,J4 e7,D5 A8,D5 A8,trivial⟩ (.cons e2 h0 (AK4 e3 e6) (.cons e3 h1 ⟨Y3 e4,Y3 e5,D5 A8,trivial⟩ (.cons e4 h2 X8 (.cons e5 h3 p9 (.maps e6 h4 K4 (.cons e7 h5 (C9 I5) .nil))))))))
  hnx ?_ ?_ ⟨J4 e1,C9 hc.pa⟩ (D5 hc.pr)
  (.cons k0 ⟨J4 k1,trivial⟩ (.cons k1 ⟨J4 k2,J4 k7,D5 A8,D5 A8,trivial⟩ (.cons k2 (AK4 k3 k6) (.cons k3 ⟨Y3 k4,Y3 k5,D5 A8,trivial⟩ (.cons k4 X8 (.cons k5 p9 (.maps k6 K4 (.cons k7 (C9 I5) .nil)))))))) hk
 ·intro x hx
  simp only [bkN,rdN,lk]
  repeat' split
  all_goals first|exact ⟨_,rfl⟩|(exfalso;simp only [List.mem_cons,List.not_mem_nil,or_false] at hx;omega)
 ·intro j x hx
  have : j < 8:=(List.getElem?_eq_some_iff.1 hx).1
  simp only [bkN,rdN,lk]
  repeat' split
  all_goals first|exact ⟨_,rfl⟩|(exfalso;omega)
section
variable {q:Bk} {t:TS}
theorem plain_di {l:List Int} {e:Int}:Plain (.tup [.isl (l.map Av7),.int .i64 e]):=G7 fun x hx=>by
 simp only [List.mem_cons,List.not_mem_nil,or_false] at hx
 rcases hx with rfl|rfl<;>first|exact A8|exact AG5
theorem BI6 (L:List Vw) (a k:Nat):AS8 L a k=none∨∃ v,AS8 L a k=some v:=by cases AS8 L a k;exact .inl rfl;exact .inr ⟨_,rfl⟩
theorem b_Differ (hg:R9 q) (h:TOk q.L t) {x y:Nat} (hx:x < 64) (hy:y < 64):AP2 33 0 [.int .i64 (x:Nat),.int .i64 (y:Nat)] q t (.tup [.isl ((q.difN x y 1024).map Av7),.int .i64 0]) q t:=by
 have hi:=b_is (q:=q) (t:=t)
 have hs1:=Az8 (x:Nat)
 have hs2:=Az8 (y:Nat)
 rw [decide_eq_true (Aj6 hx)] at hs1
 rw [decide_eq_true (Aj6 hy)] at hs2
 refine AP2.mk (G5 E9 b33 rfl ?_) O5 plain_di
 unfold c33
 unfold bkN rdN
 (refine wx_Jh ?_;repeat' (first|with_reducible refine And.intro ?_ ?_|intro hsp))
 (refine G8 [0,1,2,8] (fun (k:Nat)=>[(9,AU0 8 1 (q.difN x y k).length),(30,.int .i64 (k:Nat))]) (fun (k:Nat)=>⟨bkN q t 0 1 2 3 4 5 6 7++AJ5 8 Av7 (q.difN x y k),9⟩) (fun (k:Nat)=>k≤1024) (fun (k:Nat)=>1024 - k) (0) [] rfl (fun _=>by first|exact Nat.zero_le _|(dsimp only;omega)) ?_ (by ((try (conv=>whnf));(rw [dif_0]);exact wkxQ8)) ?_)
 ·exact Nat.zero_le _
 intro k hk
 have hln:=dif_le (b:=q) (x:=x) (y:=y) (k:=k)
 by_cases hkl:k < 1024
 ·have htk:=dif_s (b:=q) (x:=x) (y:=y) (k:=k)
  have hin1:inR 64 (x:Nat)∧inR 1024 (k:Nat):=⟨Aj6 hx,At5 hkl⟩
  have hin2:inR 64 (y:Nat)∧inR 1024 (k:Nat):=⟨Aj6 hy,At5 hkl⟩
  unfold Bk.dif at htk
  unfold bkN rdN
  rcases BI6 q.L x k with h1 | ⟨u,h1⟩<;>rcases BI6 q.L y k with h2 | ⟨v,h2⟩
  ·have f1:=AF4 h hin1 h1
   have f2:=AF4 h hin2 h2
   rw [h1,h2] at htk
   dsimp only at htk
   rw [if_neg (by decide)] at htk
   generalize q.difN x y k=O at *
   (refine wx_Jh ?_;repeat' (first|with_reducible refine And.intro ?_ ?_|intro hsp))
   all_goals exact D9 (k+1) [] (by (try dsimp only);omega) (by first|omega|(dsimp only;omega)) rfl (by ((try dsimp only);rw [htk]);exact wkxQ8)
  ·have f1:=AF4 h hin1 h1
   have f2:=At9 h hin2 h2
   rw [h1,h2] at htk
   dsimp only at htk
   rw [if_pos rfl] at htk
   generalize q.difN x y k=O at *
   (refine wx_Jh ?_;repeat' (first|with_reducible refine And.intro ?_ ?_|intro hsp))
   all_goals exact D9 (k+1) [(8,36)] (by (try dsimp only);omega) (by first|omega|(dsimp only;omega)) rfl (by ((try dsimp only);rw [htk]);exact wkxQ8)
  ·have f1:=At9 h hin1 h1
   have f2:=AF4 h hin2 h2
   rw [h1,h2] at htk
   dsimp only at htk
   rw [if_pos rfl] at htk
   generalize q.difN x y k=O at *
   (refine wx_Jh ?_;repeat' (first|with_reducible refine And.intro ?_ ?_|intro hsp))
   all_goals exact D9 (k+1) [(8,36)] (by (try dsimp only);omega) (by first|omega|(dsimp only;omega)) rfl (by ((try dsimp only);rw [htk]);exact wkxQ8)
  ·have f1:=At9 h hin1 h1
   have f2:=At9 h hin2 h2
   have g1:=hg.view (AI8 h1).1
   have g2:=hg.view (AI8 h2).1
   have y1:=BS6 (q:=q) (t:=t) (f:=u.2.2.1) (by have:=hg.rng.2;omega) g1.2.2
   have y2:=BS6 (q:=q) (t:=t) (f:=v.2.2.1) (by have:=hg.rng.2;omega) g2.2.2
   rw [h1,h2] at htk
   dsimp only at htk
   have hq:=eqL_bc (f:=q.s.B u.2.2.1) (g:=q.s.B v.2.2.1)
   have hqe:u.2.2.1=v.2.2.1→eqB (q.s.B u.2.2.1) (q.s.B v.2.2.1):=fun e=>by rw [e];exact fun _ _=>rfl
   by_cases hE:eqB (q.s.B u.2.2.1) (q.s.B v.2.2.1)
   ·rw [decide_eq_true hE] at hq
    simp only [decide_eq_true hE,Bool.not_true,Bool.false_eq_true,if_false] at htk
    generalize q.difN x y k=O at *
    generalize bcA (q.s.B u.2.2.1)=z1 at *
    generalize bcA (q.s.B v.2.2.1)=z2 at *
    (refine wx_Jhn ?_;repeat' (first|with_reducible refine And.intro ?_ ?_|intro hsp))
    all_goals exact D9 (k+1) [] (by (try dsimp only);omega) (by first|omega|(dsimp only;omega)) rfl (by ((try dsimp only);rw [htk]);exact wkxQ8)
   ·rw [decide_eq_false hE] at hq
    simp only [decide_eq_false hE,Bool.not_false,if_true] at htk
    have hne:u.2.2.1 ≠ v.2.2.1:=fun e=>hE (hqe e)
    generalize q.difN x y k=O at *
    generalize bcA (q.s.B u.2.2.1)=z1 at *
    generalize bcA (q.s.B v.2.2.1)=z2 at *
    (refine wx_Jhn ?_;repeat' (first|with_reducible refine And.intro ?_ ?_|intro hsp))
    all_goals exact D9 (k+1) [(8,36)] (by (try dsimp only);omega) (by first|omega|(dsimp only;omega)) rfl (by ((try dsimp only);rw [htk]);exact wkxQ8)
 ·obtain rfl:k=1024:=by omega
  unfold bkN rdN
  (refine wx_Jh ?_;repeat' (first|with_reducible refine And.intro ?_ ?_|intro hsp))
  exact end_BK (fun hs=>AG9 (C8 (wk_frzI (fun hz=>by simp [lk,L6 hz]) (bk_not (by decide)) hs) (C8 (L8 rfl) H7))) rfl rfl rfl rfl rfl rfl rfl rfl
end
end Go.Proofs.YtphggldkligldaaGreat.Sh
namespace Go.Pol
open Go.Am
def stat (a n:Int):Prop:=0≤a∧a < 1024∧1≤n∧n≤1024 - a
instance (a n:Int):Decidable (stat a n):=by unfold stat;infer_instance
structure Ax where
 w:Int
 a:Int
 b:Int
 t:Int
 v:Int
 l:List Rl
def acE (x:Ax):List AV:=[.int .u8 x.w,.int .i64 x.a,.int .i64 x.b,.int .i64 x.t,.int .u8 x.v,.isl (x.l.map rlA)]
theorem acE_len (x:Ax):(acE x).length=6:=rfl
def dA:Ax:=⟨0,0,0,0,0,[]⟩
structure Py where
 a:Int
 n:Int
 l:List Rl
 X:List Ax
def pyE (p:Py):List AV:=[.int .i64 p.a,.int .i64 p.n,.isl (p.l.map rlA),.isl (p.X.map acE)]
def Py.b (p:Py):Bk:=⟨p.a.toNat,p.n.toNat,[],((Sy.new p.l).chg p.a p.n 0 1 0).2⟩
end Go.Pol
namespace Go.Proofs.YtphggldkligldaaGreat.Sh
open Go Go.Am Go.Pol
theorem wx_Ji {p q:Prop} (hq:q) (h:X0 q→p:=by (intro hQz;((repeat' ((try (conv=>whnf));first|refine sxA ?_|refine sxF ?_|refine M4 (by assumption) rfl (by decide) ?_|refine G9 (by assumption) ?_|refine M4 hc rfl (by decide) ?_|refine M4 hr rfl (by decide) ?_|refine cx_NT (by assumption) ?_|refine Aq8 (by assumption) ?_|refine cx_BN h1 rfl (by decide) ?_|refine M4 h1 rfl (by decide) ?_|refine sxH ?_|((with_reducible first|apply M9 hQz|apply N7 hQz)<;>(try intro hsp hQz))|exact hQz.out))<;>(try (conv=>whnf))))):p:=h ⟨hq⟩
theorem AY0 (x:Ax):∀ y ∈ acE x,Plain y:=fun y hy=>by
 unfold acE at hy
 simp only [List.mem_cons,List.not_mem_nil,or_false] at hy
 rcases hy with rfl|rfl|rfl|rfl|rfl|rfl<;>first|exact A8|exact U9
theorem Ak2 (x:Ax):Plain (.agg (acE x)):=P5 (AY0 x)
theorem Ao0 {X:List Ax}:Plain (.isl (X.map acE)):=AC4 fun e he=>by obtain ⟨x,_,rfl⟩:=List.mem_map.1 he;exact AY0 x
theorem Ak0 (p:Py):∀ y ∈ pyE p,Plain y:=fun y hy=>by
 unfold pyE at hy
 simp only [List.mem_cons,List.not_mem_nil,or_false] at hy
 rcases hy with rfl|rfl|rfl|rfl
 ·exact A8
 ·exact A8
 ·exact U9
 ·exact AC4 fun e he=>by obtain ⟨x,_,rfl⟩:=List.mem_map.1 he;exact AY0 x
theorem AW7 (p:Py):Plain (.agg (pyE p)):=P5 (Ak0 p)
theorem end_G {top:Bool} {h:Hp} {N0 n:Nat} {x r:AV} {q:Bk} {t:TS} (ren:List (Nat × Nat)) (o i a b c d e g:Nat) (hkp:Aj1 N0 ren=true) (hm:N0≤n) (hone:Ae1 [rn ren o,rn ren i,rn ren a,rn ren b,rn ren c,rn ren d,rn ren e,rn ren g]=true)
  (hlt:o < n∧i < n∧a < n∧b < n∧c < n∧d < n∧e < n∧g < n)
  (hr:AH8 (rn ren) h ⟨bkN q t o i a b c d e g,n⟩→WkV Tryz.prog (rn ren) h ⟨bkN q t o i a b c d e g,n⟩ x r) (g0:lk h.l (rn ren o)=some (.cells [.ptr (rn ren i) 0])) (g1:lk h.l (rn ren i)=some (.cells [.ptr (rn ren a) 0,.ptr (rn ren g) 0,.int .i64 (q.a:Nat),.int .i64 (q.n:Nat)])) (h0:lk h.l (rn ren a)=some (.cells (tabC (rn ren b) (rn ren e) t.C))) (h1:lk h.l (rn ren b)=some (.cells [.sl (rn ren c) 0 t.n t.n 7,.sl (rn ren d) 0 t.m t.m 3,.int .i64 (t.S.fr:Nat)])) (h2:lk h.l (rn ren c)=some (.cells (D6 t.n t.V t.W t.V3 t.V4 t.S.L t.S.N t.S.P))) (h3:lk h.l (rn ren d)=some (.cells (O6 t.m t.S.A t.S.B t.S.C))) (h4:lk h.l (rn ren e)=some (.maps (t.E.map AO5))) (h5:lk h.l (rn ren g)=some (.cells q.s.a)) :
  AV7 top Tryz.prog N0 h x (fun r' h'=>r'=r∧h'=⟨bkN q t o i a b c d e g,n⟩):=by
 obtain ⟨l0,l1,l2,l3,l4,l5,l6,l7⟩:=hlt
 have hs:AH8 (rn ren) h ⟨bkN q t o i a b c d e g,n⟩:=fun j x hi=>by
  simp only [bkN,rdN,lk] at hi
  split at hi
  ·rename_i e;subst e;exact ⟨_,g0⟩
  ·split at hi
   ·rename_i e;subst e;exact ⟨_,g1⟩
   ·split at hi
    ·rename_i e;subst e;exact ⟨_,h0⟩
    ·split at hi
     ·rename_i e;subst e;exact ⟨_,h1⟩
     ·split at hi
      ·rename_i e;subst e;exact ⟨_,h2⟩
      ·split at hi
       ·rename_i e;subst e;exact ⟨_,h3⟩
       ·split at hi
        ·rename_i e;subst e;exact ⟨_,h4⟩
        ·split at hi
         ·rename_i e;subst e;exact ⟨_,h5⟩
         ·cases hi
 refine y9 ren hkp hm (Q5 (l:=bkN q t o i a b c d e g) hone) (hr hs) ?_ ⟨rfl,rfl⟩
 exact J5 l0 g0 (C8 (X7 (i:=i) rfl l1) H7)
  (J5 l1 g1 (C8 (X7 (i:=a) rfl l2) (C8 (X7 (i:=g) rfl l7) (C8 (L8 rfl) (C8 (L8 rfl) H7))))
  (AO3 hs l2 h0 rfl l3 rfl l6
  (J5 l3 h1 (C8 (AH0 rfl l4 rfl (Nat.le_refl _) (Nat.le_refl _)) (C8 (AH0 rfl l5 rfl (Nat.le_refl _) (Nat.le_refl _)) (C8 (L8 rfl) H7)))
  (F9 hs l4 h2 rfl F7 (F9 hs l5 h3 rfl H6 (AD4 hs l6 h4 rfl K4 (F9 hs l7 h5 rfl I5 J6)))))))
structure BT1 (f:Nat) (avs:List AV) (s:Sy) (q:Bk) (t:TS):Prop where
 out:AY7 Tryz.prog G0 f (.ptr 0 0::avs) [(0,.cells s.a)] 1 fun x h=>x = .tup [.ptr 1 0,.int .i64 0]∧h=⟨bkN q t 1 2 3 4 5 6 7 0,8⟩
 pa:∀ x ∈ avs,Plain x
theorem cx_BN {f:Nat} {avs:List AV} {s:Sy} {q:Bk} {t:TS} {g nx:Nat} {l:List (Nat × AObj)} {K:AV→Hp→Prop} (hc:BT1 f avs s q t) (h5:lk l g=some (.cells s.a)) (hlt:g < nx)
  (hk:AI1 [g] l fun l2=>K (.tup [.ptr nx 0,.int .i64 0]) ⟨([(nx,.cells [.ptr (nx+1) 0]),(nx+1,.cells [.ptr (nx+2) 0,.ptr g 0,.int .i64 (q.a:Nat),.int .i64 (q.n:Nat)]),(nx+2,.cells (tabC (nx+3) (nx+6) t.C)),(nx+3,.cells [.sl (nx+4) 0 t.n t.n 7,.sl (nx+5) 0 t.m t.m 3,.int .i64 (t.S.fr:Nat)]),(nx+4,.cells (D6 t.n t.V t.W t.V3 t.V4 t.S.L t.S.N t.S.P)),(nx+5,.cells (O6 t.m t.S.A t.S.B t.S.C)),(nx+6,.maps (t.E.map AO5)),(g,.cells q.s.a)]:List (Nat × AObj))++l2,nx+7⟩):AG2 Tryz.prog G0 (.fn f [] []) (.ptr g 0::avs) ⟨l,nx⟩ K:=by
 have e0:enter [g] g 0:=rfl
 have k0:back [g] nx 0 g:=rfl
 have k1:back [g] nx 1 nx:=rfl
 have k2:back [g] nx 2 (nx+1):=rfl
 have k3:back [g] nx 3 (nx+2):=rfl
 have k4:back [g] nx 4 (nx+3):=rfl
 have k5:back [g] nx 5 (nx+4):=rfl
 have k6:back [g] nx 6 (nx+5):=rfl
 have k7:back [g] nx 7 (nx+6):=rfl
 refine AF0 (r':=.tup [.ptr nx 0,.int .i64 0]) (l1:=bkN q t nx (nx+1) (nx+2) (nx+3) (nx+4) (nx+5) (nx+6) g) [g] hc.out F6 rfl (.cons e0 h5 (C9 I5) .nil)
  ?_ (by intro x hx;simp only [List.mem_cons,List.not_mem_nil,or_false] at hx;omega) (Au4 ⟨J4 k1,D5 A8,trivial⟩)
  (.cons k1 ⟨J4 k2,trivial⟩ (.cons k2 ⟨J4 k3,J4 k0,D5 A8,D5 A8,trivial⟩ (.cons k3 (AK4 k4 k7) (.cons k4 ⟨Y3 k5,Y3 k6,D5 A8,trivial⟩ (.cons k5 X8 (.cons k6 p9 (.maps k7 K4 (.cons k0 (C9 I5) .nil)))))))) hk
 simp only [List.nil_append,List.append_nil]
 exact ⟨J4 e0,C9 hc.pa⟩
theorem AX5 (a n:Int):F4 74 [.int .i64 a,.int .i64 n] (.bool (decide (stat a n))):=by
 refine F4.mk (I6 E9 b74 F6 ⟨A8,A8,trivial⟩ A9 rfl ?_)
 unfold c74
 (refine wx_Ji ?_;repeat' (first|with_reducible refine And.intro ?_ ?_|intro hsp))
 all_goals exact Q6 (by first|exact (decide_eq_false fun h:stat a n=>by obtain ⟨h1,h2,h3,h4⟩:=h;omega).symm|exact decide_eq_decide.2 ⟨fun h=>⟨by omega,by omega,by omega,by omega⟩,fun h=>by obtain ⟨h1,h2,h3,h4⟩:=h;omega⟩)
section
variable {s:Sy} {a n:Int}
theorem V9 {e:Int}:Plain (.tup [.nilp,.int .i64 e]):=G7 fun x hx=>by
 simp only [List.mem_cons,List.not_mem_nil,or_false] at hx
 rcases hx with rfl|rfl;exact AD0;exact A8
theorem b_New (hg:GoodS s) (hn:stat a n) (he:(s.chg a n 0 1 0).1=0):BT1 38 [.int .i64 a,.int .i64 n] s ⟨a.toNat,n.toNat,[],(s.chg a n 0 1 0).2⟩ T0:=by
 have hc:=AX0 hg
 have hst:=AX5 a n
 rw [decide_eq_true hn] at hst
 have hr:=p_reserve (a:=a) (n:=n) hg
 rw [he] at hr
 have hnew:=n_New
 have ha:((a.toNat:Nat):Int)=a:=Int.toNat_of_nonneg hn.1
 have hna:((n.toNat:Nat):Int)=n:=Int.toNat_of_nonneg (by have:=hn.2.2.1;omega)
 unfold Sy.counts at hc
 refine BT1.mk (G5 E9 b38 rfl ?_) O5
 unfold c38
 generalize AJ8 s.K 0 1024=n0 at *
 generalize AJ8 s.K 1 1024=n1 at *
 generalize AJ8 s.K 2 1024=n2 at *
 generalize AJ8 s.K 3 1024=n3 at *
 generalize cntG s.G 64=n4 at *
 generalize s.chg a n 0 1 0=r at *
 generalize T0=t0 at *
 (refine wx_Ji ?_;repeat' (first|with_reducible refine And.intro ?_ ?_|intro hsp))
 all_goals exact end_G [(1,8),(2,7),(3,2),(4,3),(5,4),(6,5),(7,6)] 1 2 3 4 5 6 7 0 rfl (by decide) rfl (by decide) (fun hs=>AG9 (C8 (X7 (i:=1) rfl (show 1 < 8 by decide)) (C8 (L8 rfl) H7))) rfl (by dsimp only;rw [ha,hna];rfl) rfl rfl rfl rfl rfl rfl
end
end Go.Proofs.YtphggldkligldaaGreat.Sh
namespace Go.Pol
open Go.Am
def Bk.al (q:Bk) (x:Ax):Int × Bk:=q.call (x.w.toNat % 14) x.a x.b x.t x.v x.l
def Py.ok (p:Py):Prop:=p.X.length≤40∧p.l.length≤60∧(p.n≤100∨1024 < p.n)
instance (p:Py):Decidable p.ok:=by unfold Py.ok;infer_instance
end Go.Pol
namespace Go.Proofs.YtphggldkligldaaGreat.Sh
open Go Go.Am Go.Pol
theorem plx_Jj {p:Prop} (h:p:=by ((first|exact plw|(with_reducible first|apply L9|apply J7|apply J2|apply Y8|apply q9|apply AA1|apply Q7|apply AG5|apply Q9|apply U9|apply Ak2 _|apply AW7 _|apply Ao0|fail)|fail);first|done|fail)):p:=h
theorem ppx_Jj {p:Prop} (h:p:=by ((first|with_reducible assumption|(with_reducible first|apply F7|apply H6|apply R8|apply R3 _ _|apply V8|apply AH3|apply I5|apply F8|apply AK7|apply AO0|apply I7 AB0|apply Ak0 _|apply AY0 _|fail)|exact ppw|fail);first|done|fail)):p:=h
open Go.Proofs.YtphggldkligldaaGreat.Sh renaming plx_Jj → plx
open Go.Proofs.YtphggldkligldaaGreat.Sh renaming ppx_Jj → ppx
theorem wx_Jj {p q:Prop} (hq:q) (h:X0 q→p:=by (intro hQz;((repeat' ((try (conv=>whnf));first|refine sxA ?_|refine sxF ?_|refine o7 (d:=dA) acE_len (by first|assumption|omega) (by with_reducible assumption) ?_|refine AO8 h2 rfl rfl rfl rfl rfl rfl rfl rfl (by decide) rfl ?_|refine AC2 (by with_reducible assumption) ?_|refine M4 h2 rfl (by decide) ?_|refine sxH ?_|((with_reducible first|apply M9 hQz|apply N7 hQz)<;>(try intro hsp hQz))|exact hQz.out))<;>(try (conv=>whnf))))):p:=h ⟨hq⟩
theorem k_far_yes {p:Py} (hl:p.X.length≤maxLen) (h:∃ x ∈ p.X,60 < x.l.length):F4 10 [.agg (pyE p)] (.bool true):=by
 have hl:p.X.length≤9223372036854775807:=hl
 refine F4.mk (I6 E9 b10 F6 ⟨AW7 p,trivial⟩ A9 rfl ?_)
 unfold c10
 have hp:=Ak0 p
 unfold pyE at hp ⊢
 (refine wx_Jj ?_;repeat' (first|with_reducible refine And.intro ?_ ?_|intro hsp))
 (refine G8 [1] (fun (i:Nat)=>[(3,.int .i64 (i:Nat))]) (fun (i:Nat)=>⟨[(0,.cells [.int .i64 p.a,.int .i64 p.n,.isl (p.l.map rlA),.isl (p.X.map acE)])],1⟩) (fun (i:Nat)=>∃ j,i≤j∧j < p.X.length∧60 < (nth dA p.X j).l.length) (fun (i:Nat)=>p.X.length - i) (0) [] rfl (fun _=>by first|exact Nat.zero_le _|(dsimp only;omega)) ?_ (by ((try (conv=>whnf));exact U7)) ?_)
 ·obtain ⟨x,hx,h6⟩:=h
  obtain ⟨j,hj,rfl⟩:=List.getElem_of_mem hx
  exact ⟨j,Nat.zero_le _,hj,by rw [K9 hj];exact h6⟩
 intro i hi
 obtain ⟨j,h1,h2,h3⟩:=hi
 have hil:i < p.X.length:=by omega
 have hne:¬ 60 < (nth dA p.X i).l.length→∃ j,i+1≤j∧j < p.X.length∧60 < (nth dA p.X j).l.length:=fun hn=>⟨j,by
  by_cases e:i=j
  ·exact absurd (e▸h3) hn
  ·omega,h2,h3⟩
 clear h1 h2 h3
 by_cases hn:60 < (nth dA p.X i).l.length
 ·clear hne
  generalize hx:nth dA p.X i=x at *
  (refine wx_Jj ?_;repeat' (first|with_reducible refine And.intro ?_ ?_|intro hsp))
  all_goals first|exact Q6 rfl|(exfalso;omega)
 ·have hne2:=hne hn
  clear hne
  generalize hx:nth dA p.X i=x at *
  (refine wx_Jj ?_;repeat' (first|with_reducible refine And.intro ?_ ?_|intro hsp))
  all_goals first|(exfalso;omega)|exact D9 (i+1) [] hne2 (by first|omega|(dsimp only;omega)) rfl (by exact U7)
theorem k_far_no {p:Py} (hl:p.X.length≤maxLen) (h:¬ ∃ x ∈ p.X,60 < x.l.length):F4 10 [.agg (pyE p)] (.bool (decide (¬ p.ok))):=by
 have hl:p.X.length≤9223372036854775807:=hl
 refine F4.mk (I6 E9 b10 F6 ⟨AW7 p,trivial⟩ A9 rfl ?_)
 unfold c10
 unfold pyE
 (refine wx_Jj ?_;repeat' (first|with_reducible refine And.intro ?_ ?_|intro hsp))
 (refine G8 [1] (fun (i:Nat)=>[(3,.int .i64 (i:Nat))]) (fun (i:Nat)=>⟨[(0,.cells [.int .i64 p.a,.int .i64 p.n,.isl (p.l.map rlA),.isl (p.X.map acE)])],1⟩) (fun (i:Nat)=>i≤p.X.length) (fun (i:Nat)=>p.X.length - i) (0) [] rfl (fun _=>by first|exact Nat.zero_le _|(dsimp only;omega)) ?_ (by ((try (conv=>whnf));exact U7)) ?_)
 ·exact Nat.zero_le _
 intro i hi
 by_cases hil:i < p.X.length
 ·have hn:¬ 60 < (nth dA p.X i).l.length:=fun h2=>h ⟨_,Z6 (d:=dA) hil,h2⟩
  generalize hx:nth dA p.X i=x at *
  (refine wx_Jj ?_;repeat' (first|with_reducible refine And.intro ?_ ?_|intro hsp))
  all_goals first|(exfalso;omega)|exact D9 (i+1) [] (by (try dsimp only);omega) (by first|omega|(dsimp only;omega)) rfl (by exact U7)
 ·clear h
  (refine wx_Jj ?_;repeat' (first|with_reducible refine And.intro ?_ ?_|intro hsp))
  all_goals exact Q6 (by first|exact (decide_eq_true (show ¬ p.ok from fun ⟨h1,h2,h3⟩=>by omega)).symm|exact (decide_eq_false (show ¬ ¬ p.ok from fun hn=>hn ⟨by omega,by omega,by omega⟩)).symm|exact decide_eq_decide.2 ⟨fun h4 ⟨h1,h2,h3⟩=>(by omega),fun hn=>Classical.byContradiction fun h4=>hn ⟨by omega,by omega,by omega⟩⟩)
theorem k_far (p:Py) (hl:p.X.length≤maxLen):∃ b,F4 10 [.agg (pyE p)] (.bool b)∧(b=false→p.ok):=by
 by_cases h:∃ x ∈ p.X,60 < x.l.length
 ·exact ⟨true,k_far_yes hl h,fun e=>by cases e⟩
 ·refine ⟨_,k_far_no hl h,fun e=>?_⟩
  have:=of_decide_eq_false e
  exact Classical.not_not.1 this
section
variable {q:Bk} {t:TS}
end
end Go.Proofs.YtphggldkligldaaGreat.Sh
namespace Go.Pol
open Go.Am
theorem differ_N {b:Bk} {x y:Nat} (hx:x < 64) (hy:y < 64):b.differ (x:Nat) (y:Nat)=(b.difN x y 1024,0):=by
 unfold Bk.differ
 rw [if_neg (by rw [Classical.not_not];exact ⟨⟨by omega,by omega⟩,by omega,by omega⟩),Int.toNat_natCast,Int.toNat_natCast]
 rfl
end Go.Pol
namespace Go.Proofs.YtphggldkligldaaGreat.Sh
open Go Go.Am Go.Pol
theorem wx_Jk {p q:Prop} (hq:q) (h:X0 q→p:=by (intro hQz;((repeat' ((try (conv=>whnf));first|refine sxA ?_|refine sxF ?_|refine Aq8 hn ?_|refine cx_BN h0 rfl (by decide) ?_|refine AO8 y1 rfl rfl rfl rfl rfl rfl rfl rfl (by decide) rfl ?_|refine AO8 y2 rfl rfl rfl rfl rfl rfl rfl rfl (by decide) rfl ?_|refine AO8 y3 rfl rfl rfl rfl rfl rfl rfl rfl (by decide) rfl ?_|refine AO8 y4 rfl rfl rfl rfl rfl rfl rfl rfl (by decide) rfl ?_|refine AO8 r4 rfl rfl rfl rfl rfl rfl rfl rfl (by decide) rfl ?_|refine AO8 n4 rfl rfl rfl rfl rfl rfl rfl rfl (by decide) rfl ?_|refine AO8 d4 rfl rfl rfl rfl rfl rfl rfl rfl (by decide) rfl ?_|refine AO8 y5 rfl rfl rfl rfl rfl rfl rfl rfl (by decide) rfl ?_|refine AO8 y6 rfl rfl rfl rfl rfl rfl rfl rfl (by decide) rfl ?_|refine AO8 y7 rfl rfl rfl rfl rfl rfl rfl rfl (by decide) rfl ?_|refine AO8 y8 rfl rfl rfl rfl rfl rfl rfl rfl (by decide) rfl ?_|refine AO8 r8 rfl rfl rfl rfl rfl rfl rfl rfl (by decide) rfl ?_|refine sxH ?_|((with_reducible first|apply M9 hQz|apply N7 hQz)<;>(try intro hsp hQz))|exact hQz.out))<;>(try (conv=>whnf))))):p:=h ⟨hq⟩
theorem k_shown:F4 11 [] (.bool true):=by
 have hn:=n_new
 have hc0:(AJ9 []).2=0:=by decide
 have h0:BT1 38 [.int .i64 8,.int .i64 2] (Sy.new []) sh0 T0:=b_New (BA3 hc0) (a:=8) (n:=2) (by decide) sh_0
 have g0:R9 sh0:=(BW8 (l:=[]) (a:=8) (n:=2) hc0 (by decide) sh_0 sh0 rfl).1
 obtain ⟨t1,k1,y1⟩:=b_Map g0 tok_0 0 3
 have g1:R9 sh1:=good_map g0 0 3
 rw [sh_1,show (sh0.map 0 3).2=sh1 from rfl] at y1
 rw [show (sh0.map 0 3).2=sh1 from rfl] at k1
 obtain ⟨t2,k2,y2⟩:=BC2 g1 k1 0 192 7
 have g2:R9 sh2:=AR8 g1 0 192 7
 rw [sh_2,show (sh1.write 0 192 7).2=sh2 from rfl] at y2
 rw [show (sh1.write 0 192 7).2=sh2 from rfl] at k2
 obtain ⟨t3,k3,y3⟩:=b_Take k2 0 1
 have g3:R9 sh3:=Ap7 g2 0 1
 rw [sh_3.1,sh_3.2,show (sh2.take 0 1).2.2=sh3 from rfl] at y3
 rw [show (sh2.take 0 1).2.2=sh3 from rfl] at k3
 obtain ⟨t4,k4,y4⟩:=BC2 g3 k3 0 192 8
 have g4:R9 sh4:=AR8 g3 0 192 8
 rw [sh_4,show (sh3.write 0 192 8).2=sh4 from rfl] at y4
 rw [show (sh3.write 0 192 8).2=sh4 from rfl] at k4
 have r4:=b_Read k4 1 192
 rw [sh_r4] at r4
 have n4:=b_Counts g4 k4
 rw [sh_c4.1,sh_c4.2.1,sh_c4.2.2] at n4
 have d4:=b_Differ g4 k4 (x:=0) (y:=1) (by decide) (by decide)
 have e4:=(differ_N (b:=sh4) (x:=0) (y:=1) (by decide) (by decide)).symm.trans sh_d4
 rw [(Prod.mk.inj e4).1] at d4
 clear e4
 obtain ⟨t5,k5,y5⟩:=b_Take k4 1 2
 have g5:R9 sh5:=Ap7 g4 1 2
 rw [sh_5.1,sh_5.2,show (sh4.take 1 2).2.2=sh5 from rfl] at y5
 rw [show (sh4.take 1 2).2.2=sh5 from rfl] at k5
 obtain ⟨t6,k6,y6⟩:=BC2 g5 k5 2 192 9
 have g6:R9 sh6:=AR8 g5 2 192 9
 rw [sh_6,show (sh5.write 2 192 9).2=sh6 from rfl] at y6
 rw [show (sh5.write 2 192 9).2=sh6 from rfl] at k6
 obtain ⟨t7,k7,y7⟩:=b_Drop g6 k6 0
 have g7:R9 sh7:=BI1 g6 0
 rw [sh_7.1,sh_7.2,show (sh6.drop 0).2.2=sh7 from rfl] at y7
 rw [show (sh6.drop 0).2.2=sh7 from rfl] at k7
 obtain ⟨t8,k8,y8⟩:=BC2 g7 k7 2 192 9
 rw [sh_8,show (sh7.write 2 192 9).2=sh8 from rfl] at y8
 rw [show (sh7.write 2 192 9).2=sh8 from rfl] at k8
 have r8:=b_Read k8 1 192
 rw [sh_r8] at r8
 clear g0 g1 g2 g3 g4 g5 g6 g7 k1 k2 k3 k4 k5 k6 k7 k8 hc0
 generalize T0=t0 at *
 generalize Sy.new []=s0 at *
 generalize sh0=q0 at *
 generalize sh1=q1 at *
 generalize sh2=q2 at *
 generalize sh3=q3 at *
 generalize sh4=q4 at *
 generalize sh5=q5 at *
 generalize sh6=q6 at *
 generalize sh7=q7 at *
 generalize sh8=q8 at *
 refine F4.mk (I6 E9 b11 F6 trivial A9 rfl ?_)
 unfold c11
 (refine wx_Jk ?_;repeat' (first|with_reducible refine And.intro ?_ ?_|intro hsp))
 all_goals first|exact Q6 rfl|(exfalso;omega)|(exfalso;simp at hsp;done)|(exfalso;simp_all;done)
end Go.Proofs.YtphggldkligldaaGreat.Sh
namespace Go.Proofs.YtphggldkligldaaGreat.Sh
open Go Go.Am Go.Pol
theorem plx_Kb {p:Prop} (h:p:=by ((first|exact plw|(with_reducible first|apply L9|apply J7|apply J2|apply Y8|apply q9|apply AA1|apply Q7|apply AG5|apply Q9|apply U9|apply X4|fail)|fail);first|done|fail)):p:=h
theorem ppx_Kb {p:Prop} (h:p:=by ((first|with_reducible assumption|(with_reducible first|apply F7|apply H6|apply R8|apply R3 _ _|apply V8|apply AH3|apply I5|apply F8|apply AK7|apply AO0|apply I7 AB0|apply Ay0|fail)|exact ppw|fail);first|done|fail)):p:=h
open Go.Proofs.YtphggldkligldaaGreat.Sh renaming plx_Kb → plx
open Go.Proofs.YtphggldkligldaaGreat.Sh renaming ppx_Kb → ppx
theorem wx_Kb {p q:Prop} (hq:q) (h:X0 q→p:=by (intro hQz;((repeat' ((try (conv=>whnf));first|refine sxA ?_|refine o7 (d:=dV) K3 (by first|assumption|omega) (by with_reducible assumption) ?_|refine sxF ?_|refine M4 hc rfl (by decide) ?_|refine G9 (by assumption) ?_|refine cx_LT hld ?_|refine AA2 (by assumption) rfl rfl rfl rfl rfl (by decide) rfl ?_|refine M4 hck rfl (by decide) ?_|refine AV5 E9 rfl hF hA hB rfl ?_|refine rd_ret rfl ?_|refine rg_ret rfl ?_|(refine M7 E9 b75 rfl ?_;unfold c75)|refine sxH ?_|((with_reducible first|apply M9 hQz|apply N7 hQz)<;>(try intro hsp hQz))|exact hQz.out))<;>(try (conv=>whnf))))):p:=h ⟨hq⟩
theorem Ay0 {a n:Int} {L:List Vw}:∀ x ∈ [AV.int .i64 a,.int .i64 n,.isl (L.map vwC)],Plain x:=fun x hx=>by
 simp only [List.mem_cons,List.not_mem_nil,or_false] at hx
 rcases hx with rfl|rfl|rfl<;>first|exact A8|exact J2
section
variable {q:Bk}
theorem b_Load (hg:R9 q):∃ t,TOk q.L t∧BT1 24 [.agg [.int .i64 (q.a:Nat),.int .i64 (q.n:Nat),.isl (q.L.map vwC)]] q.s q t:=by
 obtain ⟨t,ht,hld⟩:=l_Load hg.sr hg.len hg.ok
 have hrng:=hg.rng
 have hlen:=hg.len
 have hst:=AX5 (q.a:Nat) (q.n:Nat)
 rw [decide_eq_true (show stat (q.a:Nat) (q.n:Nat) from ⟨by omega,by omega,by omega,by omega⟩)] at hst
 have hc:=AX0 hg.good
 unfold Sy.counts at hc
 refine ⟨t,ht,BT1.mk (G5 E9 b24 rfl ?_) (fun x hx=>by obtain rfl:=List.mem_singleton.1 hx;exact X4)⟩
 unfold c24
 generalize AJ8 q.s.K 0 1024=n0 at *
 generalize AJ8 q.s.K 1 1024=n1 at *
 generalize AJ8 q.s.K 2 1024=n2 at *
 generalize AJ8 q.s.K 3 1024=n3 at *
 generalize cntG q.s.G 64=n4 at *
 (refine wx_Kb ?_;repeat' (first|with_reducible refine And.intro ?_ ?_|intro hsp))
 (refine G8 [2,3,4,5,10,50,51] (fun (i:Nat)=>[(52,.int .i64 (i:Nat))]) (fun (i:Nat)=>⟨[(0,.cells q.s.a),(1,.cells [.ptr 0 0]),(2,.cells [.int .i64 (q.a:Nat),.int .i64 (q.n:Nat),.isl (q.L.map vwC)]),(3,.cells [.nilp]),(4,.cells [.int .i64 0])]++tabN t 6 7 8 9 10++[(11,.cells [.ptr 6 0,.ptr 0 0,.int .i64 (q.a:Nat),.int .i64 (q.n:Nat)])],12⟩) (fun (i:Nat)=>i≤q.L.length) (fun (i:Nat)=>q.L.length - i) (0) [] rfl (fun _=>by first|exact Nat.zero_le _|(dsimp only;omega)) ?_ (by ((try (conv=>whnf));exact U7)) ?_)
 ·exact Nat.zero_le _
 intro i hi
 unfold tabN
 by_cases hil:i < q.L.length
 ·have hv:=hg.view (Z6 (d:=dV) hil)
  generalize hx:nth dV q.L i=v at *
  (refine wx_Kb ?_;repeat' (first|with_reducible refine And.intro ?_ ?_|intro hsp))
  all_goals first|(exfalso;omega)|exact D9 (i+1) [] (by (try dsimp only);omega) (by first|omega|(dsimp only;omega)) rfl (by exact U7)
 ·clear hc hld
  (refine wx_Kb ?_;repeat' (first|with_reducible refine And.intro ?_ ?_|intro hsp))
  refine AR2 E9 b137 rfl trivial ?_
  intro frl asl bdl hF hA hB
  unfold c137
  (refine wx_Kb ?_;repeat' (first|with_reducible refine And.intro ?_ ?_|intro hsp))
  (refine G8 [0,1] (fun (k:Nat)=>[(3,.int .i64 ((q.a+k:Nat):Int))]) (fun (k:Nat)=>⟨[(0,.cells q.s.a),(1,.cells [.ptr 0 0]),(3,.cells [.nilp]),(4,.cells [.int .i64 0])]++tabN t 6 7 8 9 10++[(11,.cells [.ptr 6 0,.ptr 0 0,.int .i64 (q.a:Nat),.int .i64 (q.n:Nat)]),(12,.cells [.ptr 11 0]),(13,.loop .ready none frl [80,81] asl bdl)],14⟩) (fun (k:Nat)=>k≤q.n) (fun (k:Nat)=>q.n - k) (0) [] rfl (fun _=>by first|exact Nat.zero_le _|(dsimp only;omega)) ?_ (by ((try (conv=>whnf));exact U7)) ?_)
  ·exact Nat.zero_le _
  intro k hk
  unfold tabN
  by_cases hkl:k < q.n
  ·have hkd:=hg.kind (q.a+k) (by omega) (by omega)
   have hcn:=An2 ht (f:=q.a+k) (by omega)
   have hck:=BW2 (s:=q.s) (a:=((q.a+k:Nat):Int))
   rw [Az6 (by omega) hkd.2] at hck
   have hus:=hg.used (q.a+k)
   have hus2:0 < cntF q.L (q.a+k)→q.s.K (q.a+k)=2:=fun h=>(hus h).2.2
   have hkk:=hkd.1
   clear hus
   generalize cntF q.L (q.a+k)=n at *
   generalize q.s.K (q.a+k)=kk at *
   (refine wx_Kb ?_;repeat' (first|with_reducible refine And.intro ?_ ?_|intro hsp))
   all_goals first|(exfalso;omega)|exact D9 (k+1) [] (by (try dsimp only);omega) (by first|omega|(dsimp only;omega)) rfl (by exact U7)
  ·obtain rfl:k=q.n:=by omega
   (refine wx_Kb ?_;repeat' (first|with_reducible refine And.intro ?_ ?_|intro hsp))
   all_goals exact end_G [(1,25),(2,11),(3,6),(4,7),(5,8),(6,9),(7,10)] 1 2 3 4 5 6 7 0 rfl (by decide) rfl (by decide) (fun hs=>AG9 (C8 (X7 (i:=1) rfl (show 1 < 8 by decide)) (C8 (L8 rfl) H7))) rfl rfl rfl rfl rfl rfl rfl rfl
end
end Go.Proofs.YtphggldkligldaaGreat.Sh
namespace Go.Pol
open Go.Am
def BC0 (s:Sy) (L:List Vw) (f:Nat):Prop:=s.M f=true∨s.K f ≠ 2∧(0 < cntF L f∨s.K f ≠ 1)
instance (s:Sy) (L:List Vw) (f:Nat):Decidable (BC0 s L f):=by unfold BC0;infer_instance
def inW (a n:Nat) (v:Vw):Prop:=a≤v.2.2.1∧v.2.2.1 < a+n
instance (a n:Nat) (v:Vw):Decidable (inW a n v):=by unfold inW;infer_instance
theorem kind_n {s:Sy} {f:Nat} (hf:f < 1024):s.kind (f:Nat)=[.int .i64 (s.K f),.bool (s.M f),.int .i64 0]:=by
 unfold Sy.kind
 rw [if_neg (by omega),Int.toNat_natCast]
theorem good_ld {s:Sy} {a n:Nat} {L:List Vw} (hg:GoodS s) (hr:1≤n∧a+n≤1024) (hs:srt L) (hl:L.length≤2000) (ho:∀ v ∈ L,v.1 < 64∧v.2.1 < 1024∧v.2.2.1 < 1024) (hv:∀ v ∈ L,inW a n v) (hb:∀ f,a≤f→f < a+n→¬ BC0 s L f):R9 ⟨a,n,L,s⟩:=by
 refine ⟨hg,hr,fun f h1 h2=>?_,fun f h=>?_,hs,ho,hl⟩
 ·have h:=hb f h1 h2
  unfold BC0 at h
  have hm:s.M f=false:=by cases hm:s.M f;rfl;exact absurd (.inl hm) h
  refine ⟨?_,hm⟩
  by_cases k2:s.K f=2
  ·exact .inr k2
  ·exact .inl (Classical.byContradiction fun k1=>h (.inr ⟨k2,.inr k1⟩))
 ·obtain ⟨v,hv1,rfl⟩:=AS3.1 h
  obtain ⟨i1,i2⟩:=hv v hv1
  have h3:=hb _ i1 i2
  exact ⟨i1,i2,Classical.byContradiction fun k2=>h3 (.inr ⟨k2,.inl h⟩)⟩
end Go.Pol
namespace Go.Proofs.YtphggldkligldaaGreat.Sh
open Go Go.Am Go.Pol
theorem plx_Ia {p:Prop} (h:p:=by ((first|exact plw|(with_reducible first|apply L9|apply J7|apply J2|apply Y8|apply q9|apply AA1|apply Q7|apply AG5|apply Q9|apply U9|apply X4|apply Ac4|fail)|fail);first|done|fail)):p:=h
theorem ppx_Ia {p:Prop} (h:p:=by ((first|with_reducible assumption|(with_reducible first|apply F7|apply H6|apply R8|apply R3 _ _|apply V8|apply AH3|apply I5|apply F8|apply AK7|apply AO0|apply I7 AB0|apply Ay0|apply An6|fail)|exact ppw|fail);first|done|fail)):p:=h
open Go.Proofs.YtphggldkligldaaGreat.Sh renaming plx_Ia → plx
open Go.Proofs.YtphggldkligldaaGreat.Sh renaming ppx_Ia → ppx
theorem An6 {a n:Int} {R:List Rw}:∀ x ∈ [AV.int .i64 a,.int .i64 n,.isl (R.map rwC)],Plain x:=fun x hx=>by
 simp only [List.mem_cons,List.not_mem_nil,or_false] at hx
 rcases hx with rfl|rfl|rfl<;>first|exact A8|exact Ac4
theorem AP8 {a n:Int} {R:List Rw}:Plain (.agg [.int .i64 a,.int .i64 n,.isl (R.map rwC)]):=P5 An6
section
variable {s:Sy} {R:List Rw} {L:List Vw} {a n:Nat}
theorem b_Load_far (hg:GoodS s) {a n:Int} (hn:¬ stat a n):u7 24 [.agg [.int .i64 a,.int .i64 n,.isl (R.map rwC)]] s.a (.tup [.nilp,.int .i64 7]) s.a:=by
 have hc:=AX0 hg
 have hst:=AX5 a n
 rw [decide_eq_false hn] at hst
 unfold Sy.counts at hc
 refine u7.mk (G5 E9 b24 rfl ?_) I5 I5 (R6 AP8) V9
 unfold c24
 generalize AJ8 s.K 0 1024=n0 at *
 generalize AJ8 s.K 1 1024=n1 at *
 generalize AJ8 s.K 2 1024=n2 at *
 generalize AJ8 s.K 3 1024=n3 at *
 generalize cntG s.G 64=n4 at *
 (refine wx_Kb ?_;repeat' (first|with_reducible refine And.intro ?_ ?_|intro hsp))
 all_goals first|exact V7 rfl V9 rfl I5|(exfalso;omega)
theorem b_Load_tab (hg:GoodS s) {a n:Int} (hn:stat a n) {i e:Int} (hr:ChkR R i e) (he:e ≠ 0):u7 24 [.agg [.int .i64 a,.int .i64 n,.isl (R.map rwC)]] s.a (.tup [.nilp,.int .i64 6]) s.a:=by
 have hc:=AX0 hg
 have hst:=AX5 a n
 rw [decide_eq_true hn] at hst
 have hld:=l_Load_no hr he
 unfold Sy.counts at hc
 refine u7.mk (G5 E9 b24 rfl ?_) I5 I5 (R6 AP8) V9
 unfold c24
 generalize AJ8 s.K 0 1024=n0 at *
 generalize AJ8 s.K 1 1024=n1 at *
 generalize AJ8 s.K 2 1024=n2 at *
 generalize AJ8 s.K 3 1024=n3 at *
 generalize cntG s.G 64=n4 at *
 (refine wx_Kb ?_;repeat' (first|with_reducible refine And.intro ?_ ?_|intro hsp))
 all_goals first|exact V7 rfl V9 rfl I5|(exfalso;omega)
theorem b_Load_out (hg:GoodS s) (hr:1≤n∧a+n≤1024) (hs:srt L) (hl:L.length≤2000) (ho:∀ v ∈ L,v.1 < 64∧v.2.1 < 1024∧v.2.2.1 < 1024) (hv:∃ v ∈ L,¬ inW a n v):u7 24 [.agg [.int .i64 (a:Nat),.int .i64 (n:Nat),.isl (L.map vwC)]] s.a (.tup [.nilp,.int .i64 6]) s.a:=by
 obtain ⟨t,ht,hld⟩:=l_Load hs hl ho
 have hst:=AX5 (a:Nat) (n:Nat)
 rw [decide_eq_true (show stat (a:Nat) (n:Nat) from ⟨by omega,by omega,by omega,by omega⟩)] at hst
 have hc:=AX0 hg
 unfold Sy.counts at hc
 refine u7.mk (G5 E9 b24 rfl ?_) I5 I5 (R6 X4) V9
 unfold c24
 generalize AJ8 s.K 0 1024=n0 at *
 generalize AJ8 s.K 1 1024=n1 at *
 generalize AJ8 s.K 2 1024=n2 at *
 generalize AJ8 s.K 3 1024=n3 at *
 generalize cntG s.G 64=n4 at *
 (refine wx_Kb ?_;repeat' (first|with_reducible refine And.intro ?_ ?_|intro hsp))
 (refine G8 [2,3,4,5,10,50,51] (fun (i:Nat)=>[(52,.int .i64 (i:Nat))]) (fun (i:Nat)=>⟨[(0,.cells s.a),(1,.cells [.ptr 0 0]),(2,.cells [.int .i64 (a:Nat),.int .i64 (n:Nat),.isl (L.map vwC)]),(3,.cells [.nilp]),(4,.cells [.int .i64 0])]++tabN t 6 7 8 9 10++[(11,.cells [.ptr 6 0,.ptr 0 0,.int .i64 (a:Nat),.int .i64 (n:Nat)])],12⟩) (fun (i:Nat)=>∃ j,i≤j∧j < L.length∧¬ inW a n (nth dV L j)) (fun (i:Nat)=>L.length - i) (0) [] rfl (fun _=>by first|exact Nat.zero_le _|(dsimp only;omega)) ?_ (by ((try (conv=>whnf));exact U7)) ?_)
 ·obtain ⟨v,hv1,hv2⟩:=hv
  obtain ⟨j,hj,rfl⟩:=List.getElem_of_mem hv1
  exact ⟨j,Nat.zero_le _,hj,by rw [K9 hj];exact hv2⟩
 intro i hi
 obtain ⟨j,i1,i2,i3⟩:=hi
 have hil:i < L.length:=by omega
 have hne:inW a n (nth dV L i)→∃ j,i+1≤j∧j < L.length∧¬ inW a n (nth dV L j):=fun hn=>⟨j,by
  by_cases e:i=j
  ·exact absurd (e▸hn) i3
  ·omega,i2,i3⟩
 clear i1 i2 i3
 unfold tabN
 by_cases hn:inW a n (nth dV L i)
 ·have hne2:=hne hn
  clear hne
  generalize hx:nth dV L i=v at *
  unfold inW at hn
  (refine wx_Kb ?_;repeat' (first|with_reducible refine And.intro ?_ ?_|intro hsp))
  all_goals first|(exfalso;omega)|exact D9 (i+1) [] hne2 (by first|omega|(dsimp only;omega)) rfl (by exact U7)
 ·clear hne
  generalize hx:nth dV L i=v at *
  unfold inW at hn
  (refine wx_Kb ?_;repeat' (first|with_reducible refine And.intro ?_ ?_|intro hsp))
  all_goals first|(exfalso;omega)|exact V7 rfl V9 rfl I5
theorem b_Load_bad (hg:GoodS s) (hr:1≤n∧a+n≤1024) (hs:srt L) (hl:L.length≤2000) (ho:∀ v ∈ L,v.1 < 64∧v.2.1 < 1024∧v.2.2.1 < 1024) (hv:∀ v ∈ L,inW a n v) (hb:∃ j,j < n∧BC0 s L (a+j)):u7 24 [.agg [.int .i64 (a:Nat),.int .i64 (n:Nat),.isl (L.map vwC)]] s.a (.tup [.nilp,.int .i64 6]) s.a:=by
 obtain ⟨t,ht,hld⟩:=l_Load hs hl ho
 have hst:=AX5 (a:Nat) (n:Nat)
 rw [decide_eq_true (show stat (a:Nat) (n:Nat) from ⟨by omega,by omega,by omega,by omega⟩)] at hst
 have hc:=AX0 hg
 unfold Sy.counts at hc
 refine u7.mk (G5 E9 b24 rfl ?_) I5 I5 (R6 X4) V9
 unfold c24
 generalize AJ8 s.K 0 1024=n0 at *
 generalize AJ8 s.K 1 1024=n1 at *
 generalize AJ8 s.K 2 1024=n2 at *
 generalize AJ8 s.K 3 1024=n3 at *
 generalize cntG s.G 64=n4 at *
 (refine wx_Kb ?_;repeat' (first|with_reducible refine And.intro ?_ ?_|intro hsp))
 (refine G8 [2,3,4,5,10,50,51] (fun (i:Nat)=>[(52,.int .i64 (i:Nat))]) (fun (i:Nat)=>⟨[(0,.cells s.a),(1,.cells [.ptr 0 0]),(2,.cells [.int .i64 (a:Nat),.int .i64 (n:Nat),.isl (L.map vwC)]),(3,.cells [.nilp]),(4,.cells [.int .i64 0])]++tabN t 6 7 8 9 10++[(11,.cells [.ptr 6 0,.ptr 0 0,.int .i64 (a:Nat),.int .i64 (n:Nat)])],12⟩) (fun (i:Nat)=>i≤L.length) (fun (i:Nat)=>L.length - i) (0) [] rfl (fun _=>by first|exact Nat.zero_le _|(dsimp only;omega)) ?_ (by ((try (conv=>whnf));exact U7)) ?_)
 ·exact Nat.zero_le _
 intro i hi
 unfold tabN
 by_cases hil:i < L.length
 ·have hvi:=hv _ (Z6 (d:=dV) hil)
  generalize hx:nth dV L i=v at *
  unfold inW at hvi
  (refine wx_Kb ?_;repeat' (first|with_reducible refine And.intro ?_ ?_|intro hsp))
  all_goals first|(exfalso;omega)|exact D9 (i+1) [] (by (try dsimp only);omega) (by first|omega|(dsimp only;omega)) rfl (by exact U7)
 ·clear hc hld
  (refine wx_Kb ?_;repeat' (first|with_reducible refine And.intro ?_ ?_|intro hsp))
  refine AR2 E9 b137 rfl trivial ?_
  intro frl asl bdl hF hA hB
  unfold c137
  (refine wx_Kb ?_;repeat' (first|with_reducible refine And.intro ?_ ?_|intro hsp))
  (refine G8 [0,1] (fun (k:Nat)=>[(3,.int .i64 ((a+k:Nat):Int))]) (fun (k:Nat)=>⟨[(0,.cells s.a),(1,.cells [.ptr 0 0]),(3,.cells [.nilp]),(4,.cells [.int .i64 0])]++tabN t 6 7 8 9 10++[(11,.cells [.ptr 6 0,.ptr 0 0,.int .i64 (a:Nat),.int .i64 (n:Nat)]),(12,.cells [.ptr 11 0]),(13,.loop .ready none frl [80,81] asl bdl)],14⟩) (fun (k:Nat)=>∃ j,k≤j∧j < n∧BC0 s L (a+j)) (fun (k:Nat)=>n - k) (0) [] rfl (fun _=>by first|exact Nat.zero_le _|(dsimp only;omega)) ?_ (by ((try (conv=>whnf));exact U7)) ?_)
  ·obtain ⟨j,j1,j2⟩:=hb
   exact ⟨j,Nat.zero_le _,j1,j2⟩
  intro k hk
  obtain ⟨j,j1,j2,j3⟩:=hk
  have hkl:k < n:=by omega
  have hne:¬ BC0 s L (a+k)→∃ j,k+1≤j∧j < n∧BC0 s L (a+j):=fun hn=>⟨j,by
   by_cases e:k=j
   ·exact absurd (e▸j3) hn
   ·omega,j2,j3⟩
  clear j1 j2 j3
  have hcn:=An2 ht (f:=a+k) (by omega)
  have hck:=BW2 (s:=s) (a:=((a+k:Nat):Int))
  rw [kind_n (by omega)] at hck
  unfold tabN
  by_cases hbk:BC0 s L (a+k)
  ·clear hne
   unfold BC0 at hbk
   generalize cntF L (a+k)=c at *
   generalize s.K (a+k)=kk at *
   generalize s.M (a+k)=mm at *
   cases mm
   all_goals
    (refine wx_Kb ?_;repeat' (first|with_reducible refine And.intro ?_ ?_|intro hsp))
    all_goals first|(exfalso;simp only [Bool.false_eq_true,false_or] at hbk;omega)|exact V7 rfl V9 rfl I5
  ·have hne2:=hne hbk
   clear hne
   have hm:s.M (a+k)=false:=by cases hm:s.M (a+k);rfl;exact absurd (.inl hm) hbk
   rw [hm] at hck
   have hkk:s.K (a+k)=2∨cntF L (a+k)=0∧s.K (a+k)=1:=by
    by_cases k2:s.K (a+k)=2
    ·exact .inl k2
    ·refine .inr ⟨?_,Classical.byContradiction fun k1=>hbk (.inr ⟨k2,.inr k1⟩)⟩
     by_cases c0:cntF L (a+k)=0
     ·exact c0
     ·exact absurd (.inr ⟨k2,.inl (by omega)⟩) hbk
   clear hbk hm
   generalize cntF L (a+k)=c at *
   generalize s.K (a+k)=kk at *
   (refine wx_Kb ?_;repeat' (first|with_reducible refine And.intro ?_ ?_|intro hsp))
   all_goals first|(exfalso;omega)|exact D9 (k+1) [] hne2 (by first|omega|(dsimp only;omega)) rfl (by exact U7)
end
end Go.Proofs.YtphggldkligldaaGreat.Sh
namespace Go.Pol
open Go.Am
end Go.Pol
namespace Go.Proofs.YtphggldkligldaaGreat.Sh
open Go Go.Am Go.Pol
theorem plx_Bj {p:Prop} (h:p:=by ((first|exact plw|(with_reducible first|apply L9|apply J7|apply J2|apply H9|apply D8|apply AP7|apply AG3|apply plain_sn|fail)|fail);first|done|fail)):p:=h
theorem ppx_Bj {p:Prop} (h:p:=by ((first|with_reducible assumption|(with_reducible first|apply V8|apply I7 AA3|apply I7 AQ1|fail)|exact ppw|fail);first|done|fail)):p:=h
open Go.Proofs.YtphggldkligldaaGreat.Sh renaming plx_Bj → plx
open Go.Proofs.YtphggldkligldaaGreat.Sh renaming ppx_Bj → ppx
theorem plain_sn {L:List Vw} {G:List Nat} {e:Int}:Plain (.tup [.agg [.isl (L.map vwC)],.isl (G.map nat1),.int .i64 e]):=G7 fun x hx=>by
 simp only [List.mem_cons,List.not_mem_nil,or_false] at hx
 rcases hx with rfl|rfl|rfl
 ·exact H9
 ·exact q9
 ·exact A8
section
variable {L:List Vw}
end
end Go.Proofs.YtphggldkligldaaGreat.Sh
namespace Go.Proofs.YtphggldkligldaaGreat.Sh
open Go Go.Am Go.Pol
theorem wx_Bw {p q:Prop} (hq:q) (h:X0 q→p:=by (intro hQz;((repeat' ((try (conv=>whnf));first|refine sxA ?_|refine AC2 (by with_reducible assumption) ?_|refine el_vw (by first|assumption|omega) (by with_reducible assumption) ?_|refine sxF ?_|(refine M7 E9 b127 rfl ?_;unfold c127)|refine G9 (by assumption) ?_|refine K5 (by assumption) ?_|refine sxH ?_|((with_reducible first|apply M9 hQz|apply N7 hQz)<;>(try intro hsp hQz))|exact hQz.out))<;>(try (conv=>whnf))))):p:=h ⟨hq⟩
section
variable {L A B:List Vw} {v:Vw}
theorem q_Where {at_:Nat} (hv1:v.1 < 64) (hat:at_ < 65536) (hk:v.2.1=at_ / 64) {w:Bool} (hw:w=true→v.2.2.2=true) (hL:L=A++v::B) (hA:∀ u ∈ A,¬ atV (v.1,at_ / 64) u) (hf4:v.2.2.1 < 1024) (hl:L.length≤4000):F4 134 [.agg [.isl (L.map vwC)],.int .i64 (v.1:Nat),.int .i64 (at_:Nat),.bool w] (.tup [.int .i64 ((v.2.2.1 * 64+at_ % 64:Nat):Int),.int .i64 0]):=by
 have hq:=q64 (t:=at_) (by omega)
 have hr:=m64 (t:=at_)
 have hf:=q_find v.1 (at_ / 64) hL hA ⟨rfl,hk⟩ hl
 have hle:A.length < L.length:=by rw [hL];simp
 have hx:nth dV L A.length=v:=by rw [hL,Az1]
 rw [show ((v.2.2.1 * 64+at_ % 64:Nat):Int)=(v.2.2.1:Int) * 64+((at_ % 64:Nat):Int) by omega]
 obtain ⟨va,vk,vf,vw⟩:=v
 dsimp only at *
 cases w<;>cases vw
 all_goals try (exfalso;simp at hw;done)
 all_goals refine F4.mk (I6 E9 b134 F6 ⟨H9,A8,A8,A9,trivial⟩ D8 rfl ?_)
 all_goals unfold c134
 all_goals (refine wx_Bw ?_;repeat' (first|with_reducible refine And.intro ?_ ?_|intro hsp))
 all_goals first|exact E8 rfl D8|(exfalso;omega)
theorem q_Where_ro {at_:Nat} (hv1:v.1 < 64) (hat:at_ < 65536) (hk:v.2.1=at_ / 64) (hw:v.2.2.2=false) (hL:L=A++v::B) (hA:∀ u ∈ A,¬ atV (v.1,at_ / 64) u) (hf4:v.2.2.1 < 1024) (hl:L.length≤4000):F4 134 [.agg [.isl (L.map vwC)],.int .i64 (v.1:Nat),.int .i64 (at_:Nat),.bool true] (.tup [.int .i64 0,.int .i64 220]):=by
 have hq:=q64 (t:=at_) (by omega)
 have hr:=m64 (t:=at_)
 have hf:=q_find v.1 (at_ / 64) hL hA ⟨rfl,hk⟩ hl
 have hle:A.length < L.length:=by rw [hL];simp
 have hx:nth dV L A.length=v:=by rw [hL,Az1]
 obtain ⟨va,vk,vf,vw⟩:=v
 dsimp only at *
 subst hw
 all_goals refine F4.mk (I6 E9 b134 F6 ⟨H9,A8,A8,A9,trivial⟩ D8 rfl ?_)
 all_goals unfold c134
 all_goals (refine wx_Bw ?_;repeat' (first|with_reducible refine And.intro ?_ ?_|intro hsp))
 all_goals first|exact E8 rfl D8|(exfalso;omega)
end
end Go.Proofs.YtphggldkligldaaGreat.Sh
namespace Go.Proofs.YtphggldkligldaaGreat.Sh
open Go Go.Am Go.Pol
def stA (L:List Vw):AV:=.agg [.isl (L.map vwC)]
section
variable {L:List Vw} {t:TS}
theorem TOk.split (h:TOk L t) (a k:Nat):(∃ A v B,L=A++v::B∧v.1=a∧v.2.1=k∧∀ w ∈ A,¬ atV (a,k) w)∨∀ w ∈ L,¬ atV (a,k) w:=by
 by_cases hx:∃ v ∈ L,atV (a,k) v
 ·obtain ⟨v,hv,h1,h2⟩:=hx
  obtain ⟨A,B,hL⟩:=List.append_of_mem hv
  have hs:=h.srt
  rw [hL] at hs
  refine .inl ⟨A,v,B,hL,h1,h2,fun w hw ha=>(Ao4 hs).1 w hw ?_⟩
  dsimp only at h1 h2
  rw [h1,h2];exact ha
 ·exact .inr fun w hw ha=>hx ⟨w,hw,ha⟩
end
end Go.Proofs.YtphggldkligldaaGreat.Sh
namespace Go.Proofs.YtphggldkligldaaGreat.Sh
open Go Go.Am Go.Pol
theorem Y8 {L:List Vw}:Plain (stA L):=P5 fun x hx=>by obtain rfl:=List.mem_singleton.1 hx;exact J2
structure LocU (f:Nat) (L:List Vw) (avs:List AV) (s:Sy) (r:AV) (s':Sy):Prop where
 out:AY7 Tryz.prog G0 f (stA L :: .ptr 0 0::avs) [(0,.cells s.b)] 1 fun x h1=>x=r∧h1=⟨[(0,.cells s'.b)],1⟩
 pa:∀ x ∈ avs,Plain x
 pr:Plain r
theorem cx_u {f:Nat} {L:List Vw} {avs:List AV} {s s':Sy} {a nx:Nat} {l:List (Nat × AObj)} {r:AV} {K:AV→Hp→Prop} (hc:LocU f L avs s r s')
  (hl0:lk l a=some (.cells s.b)) (hlt:a < nx)
  (hk:AI1 [a] l fun l2=>K r ⟨[(a,.cells s'.b)]++l2,nx⟩):AG2 Tryz.prog G0 (.fn f [] []) (stA L :: .ptr a 0::avs) ⟨l,nx⟩ K:=by
 have e0:enter [a] a 0:=rfl
 have k0:back [a] nx 0 a:=rfl
 refine AF0 (l1:=[(a,.cells s'.b)]) [a] hc.out F6 rfl (.cons e0 hl0 (C9 F8) .nil)
  ?_ (by intro x hx;simp only [List.mem_cons,List.not_mem_nil,or_false] at hx;omega) (D5 hc.pr)
  (.cons k0 (C9 F8) .nil) hk
 simp only [List.nil_append,List.append_nil]
 exact ⟨D5 Y8,J4 e0,C9 hc.pa⟩
theorem dcx_u {f:Nat} {L:List Vw} {avs:List AV} {s s':Sy} {a:Nat} {h:Hp} {r:AV} {K:AV→Up→List Nat→Prop} (hc:LocU f L avs s r s')
  (hl0:lk h.l a=some (.cells s.b)) (hnx:[a].contains h.next=false)
  (hk:K r [(a,some (.cells s'.b))] [a]):AV8 Tryz.prog G0 f (stA L :: .ptr a 0::avs) h K:=by
 have hnx:h.next ∉ [a]:=fun hm=>by rw [List.contains_eq_mem,decide_eq_false_iff_not] at hnx;exact hnx hm
 have e0:enter [a] a 0:=rfl
 have k0:R7 [a] 0 a:=rfl
 refine Aa3 (l1:=[(a,.cells s'.b)]) [a] hc.out F6 rfl (.cons e0 hl0 (C9 F8) .nil) hnx ?_ ?_ ⟨D5 Y8,J4 e0,C9 hc.pa⟩ (D5 hc.pr)
  (.cons k0 (C9 F8) .nil) hk
 ·intro x hx
  obtain rfl:=List.mem_singleton.1 hx
  exact ⟨.cells s'.b,if_pos rfl⟩
 ·intro j n hj
  cases j with
  | zero=>exact ⟨_,rfl⟩
  | succ j=>simp at hj
section
variable {L:List Vw} {t:TS} {s:Sy}
end
end Go.Proofs.YtphggldkligldaaGreat.Sh
