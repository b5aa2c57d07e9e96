/-
 A book's calls: Counts,Differ.
 A book's calls: Differ.
 A new book;plays and calls as values;far;the beginning of a play.
-/
import Derived.Test.YtphggldkligldaaGreatSnI
set_option linter.unusedSimpArgs false
set_option linter.unusedVariables false
set_option maxHeartbeats 3200000
namespace Go.Pol
open Go.Am
theorem eqL_map {f g:Nat→Int}:∀ l:List Nat,eqL (l.map fun _=>0) (l.map fun j=>.int .u8 (f j)) (l.map fun j=>.int .u8 (g j))=some (decide (∀ j ∈ l,f j=g j))
 | []=>by simp [eqL]
 | x::l=>by
  simp only [List.map_cons,eqL,eq1,if_true,eqL_map l,Option.map_some,Option.bind_some,Option.some.injEq]
  rw [Bool.eq_iff_iff]
  simp
theorem eqL_bc {f g:Nat→Int}:eqL (List.replicate 64 0) (bcA f) (bcA g)=some (decide (eqB f g)):=by
 have h:=eqL_map (f:=f) (g:=g) (List.range 64)
 have h0:(List.range 64).map (fun _=>0)=List.replicate 64 0:=by rw [List.map_const',List.length_range]
 unfold bcA memA
 rw [← h0,h]
 congr 1
 refine decide_eq_decide.2 ?_
 unfold eqB
 simp only [List.mem_range]
theorem Ai9 {a b:Nat} {p:Prop} [Decidable p] (h:a=b+if p then 1 else 0):(p→a=b+1)∧(¬ p→a=b):=⟨fun hp=>by rw [if_pos hp] at h;exact h,fun hp=>by rw [if_neg hp] at h;exact h⟩
def Bk.difN (b:Bk) (x y k:Nat):List Int:=((List.range k).filter fun k=>b.dif x y k).map fun k=>((k:Nat):Int)
theorem dif_0 {b:Bk} {x y:Nat}:b.difN x y 0=[]:=rfl
theorem dif_s {b:Bk} {x y k:Nat}:b.difN x y (k+1)=if b.dif x y k=true then b.difN x y k++[((k:Nat):Int)] else b.difN x y k:=by
 unfold Bk.difN
 rw [List.range_succ,List.filter_append,List.map_append]
 by_cases h:b.dif x y k=true<;>simp [h]
theorem dif_le {b:Bk} {x y k:Nat}:(b.difN x y k).length≤k:=by
 unfold Bk.difN;rw [List.length_map];exact Nat.le_trans (List.length_filter_le ..) (by rw [List.length_range];exact Nat.le_refl _)
end Go.Pol
namespace Go.Proofs.YtphggldkligldaaGreat.Sh
open Go Go.Am Go.Pol
theorem ppx_Jg {p:Prop} (h:p:=by ((first|with_reducible assumption|(with_reducible first|apply G9|apply I7|apply V6|apply T9 _ _|apply X9|apply AM9|apply J4|apply H8|apply AQ7|apply AT4|apply K7 AE4|fail)|exact ppw|fail);first|done|fail)):p:=h
open Go.Proofs.YtphggldkligldaaGreat.Sh renaming plx_Je → plx
open Go.Proofs.YtphggldkligldaaGreat.Sh renaming ppx_Jg → ppx
theorem wx_Jg {p q:Prop} (hq:q) (h:R7 q→p:=by (intro hQz;((repeat' ((try (conv=>whnf));first|refine sxA ?_|refine sxF ?_|refine AB3 (by assumption) rfl rfl rfl rfl rfl (by decide) rfl ?_|refine K5 hck rfl (by decide) ?_|refine AT2 D9 rfl hF hA hB rfl ?_|(refine O6 D9 b75 rfl ?_;unfold c75)|refine AG3 his rfl rfl rfl rfl rfl rfl rfl rfl (by decide) rfl ?_|refine sxH ?_|((with_reducible first|apply L8 hQz|apply L9 hQz)<;>(try intro hsp hQz))|exact hQz.out))<;>(try (conv=>whnf))))):p:=h ⟨hq⟩
section
variable {q:Bk} {t:TS}
theorem plain_i4 {a b c d:Int}:Plain (.tup [.int .i64 a,.int .i64 b,.int .i64 c,.int .i64 d]):=H7 fun x hx=>by
 simp only [List.mem_cons,List.not_mem_nil,or_false] at hx
 rcases hx with rfl|rfl|rfl|rfl<;>exact A8
theorem b_Counts (hg:K6 q) (h:TOk q.L t):AJ1 34 0 [] q t (.tup [.int .i64 (q.used:Nat),.int .i64 (q.idle:Nat),.int .i64 (q.many:Nat),.int .i64 0]) q t:=by
 refine AJ1.mk (E8 D9 b34 rfl ?_) (fun x hx=>by cases hx) plain_i4
 have hrng:=hg.rng
 have his:=b_is (q:=q) (t:=t)
 rw [used_R,idle_R,many_R]
 unfold c34
 unfold bkN rdN
 generalize hpu:(fun f=>decide (0 < cntF q.L f))=pu
 generalize hpi:(fun f=>decide (cntF q.L f=0∧q.s.K f=2))=pi
 generalize hpm:(fun f=>decide (1 < cntF q.L f))=pm
 (refine wx_Jg ?_;repeat' (first|with_reducible refine And.intro ?_ ?_|intro hsp))
 refine AS1 D9 b137 rfl trivial ?_
 intro frl asl bdl hF hA hB
 unfold c137
 (refine wx_Jg ?_;repeat' (first|with_reducible refine And.intro ?_ ?_|intro hsp))
 (refine H9 [0,1] (fun (i:Nat)=>[(3,.int .i64 ((q.a+i:Nat):Int))]) (fun (i:Nat)=>⟨bkN q t 0 1 2 3 4 5 6 7++[(8,.cells [.int .i64 (Ag6 pu q.a i:Nat)]),(9,.cells [.int .i64 (Ag6 pi q.a i:Nat)]),(10,.cells [.int .i64 (Ag6 pm q.a i:Nat)]),(11,.cells [.ptr 1 0]),(12,.cells [.ptr 1 0]),(13,.loop .ready none frl [21,22] asl bdl)],14⟩) (fun (i:Nat)=>i≤q.n) (fun (i:Nat)=>q.n - i) (0) [] rfl (fun _=>by first|exact Nat.zero_le _|(dsimp only;omega)) ?_ (by ((try (conv=>whnf));exact V8)) ?_)
 ·exact Nat.zero_le _
 intro i hi
 have u1:=Aj7 (p:=pu) (a:=q.a) (i:=i)
 have u2:=Aj7 (p:=pi) (a:=q.a) (i:=i)
 have u3:=Aj7 (p:=pm) (a:=q.a) (i:=i)
 by_cases hil:i < q.n
 ·have hkd:=hg.kind (q.a+i) (by omega) (by omega)
  have hcn:=BB5 h (f:=q.a+i) (by omega)
  have hck:=p_kind (s:=q.s) (a:=((q.a+i:Nat):Int))
  rw [As6 (by omega) hkd.2] at hck
  have s1:=BA3 (p:=pu) (a:=q.a) (i:=i)
  have s2:=BA3 (p:=pi) (a:=q.a) (i:=i)
  have s3:=BA3 (p:=pm) (a:=q.a) (i:=i)
  have e1:pu (q.a+i)=decide (0 < cntF q.L (q.a+i)):=by rw [← hpu]
  have e2:pi (q.a+i)=decide (cntF q.L (q.a+i)=0∧q.s.K (q.a+i)=2):=by rw [← hpi]
  have e3:pm (q.a+i)=decide (1 < cntF q.L (q.a+i)):=by rw [← hpm]
  rw [e1] at s1
  rw [e2] at s2
  rw [e3] at s3
  simp only [decide_eq_true_eq] at s1 s2 s3
  have hkk:=hkd.1
  generalize cntF q.L (q.a+i)=n at *
  generalize q.s.K (q.a+i)=kk at *
  generalize Ag6 pu q.a i=w1 at *
  generalize Ag6 pi q.a i=w2 at *
  generalize Ag6 pm q.a i=w3 at *
  clear e1 e2 e3 hpu hpi hpm
  have s1:=Ai9 s1
  have s2:=Ai9 s2
  have s3:=Ai9 s3
  unfold bkN rdN
  (refine wx_Jg ?_;repeat' (first|with_reducible refine And.intro ?_ ?_|intro hsp))
  all_goals exact D8 (i+1) [] (by (try dsimp only);omega) (by first|omega|(dsimp only;omega)) rfl (by exact V8)
 ·obtain rfl:i=q.n:=by omega
  unfold bkN rdN
  generalize Ag6 pu q.a q.n=w1 at *
  generalize Ag6 pi q.a q.n=w2 at *
  generalize Ag6 pm q.a q.n=w3 at *
  (refine wx_Jg ?_;repeat' (first|with_reducible refine And.intro ?_ ?_|intro hsp))
  all_goals exact X5 rfl plain_i4 rfl rfl rfl rfl rfl rfl rfl rfl
end
end Go.Proofs.YtphggldkligldaaGreat.Sh
namespace Go.Proofs.YtphggldkligldaaGreat.Sh
open Go Go.Am Go.Pol
theorem plx_Jh {p:Prop} (h:p:=by ((first|exact plw|(with_reducible first|apply O4|apply M5|apply J3|apply u6|apply z8|apply AB2|apply P5|apply AF3|fail)|fail);first|done|fail)):p:=h
open Go.Proofs.YtphggldkligldaaGreat.Sh renaming plx_Jh → plx
open Go.Proofs.YtphggldkligldaaGreat.Sh renaming ppx_Jg → ppx
theorem wx_Jh {p q:Prop} (hq:q) (h:R7 q→p:=by (intro hQz;((repeat' ((try (conv=>whnf));first|refine sxA ?_|refine sxF ?_|refine AG3 hi rfl rfl rfl rfl rfl rfl rfl rfl (by decide) rfl ?_|refine G7 (by assumption) ?_|refine AA2 (f:=Ab7) (l2:=[((k:Nat):Int)]) AP6 (Y7 rfl (by first|rfl|(simp;done)|(simp [*];done))) (fun hz=>by first|(simp [lk,X4,X3 hz,G5 hz];done)|rfl) (fun hz=>by first|(simp [lk,X4,AS7,BE0 hz,j6 hz];done)|rfl) (by first|rfl|(simp [flat,Ab7];done)|(simp [flat,Ab7, *];done)) (by decide) ⟨by omega,by omega⟩ rfl ?_|((with_reducible apply Ag1 hQz);intro hQa hQb;refine AA1 (f:=Ab7) (l2:=[((k:Nat):Int)]) AP6 (Y7 rfl (by first|rfl|(simp;done)|(simp [*];done))) (fun hz=>by first|(simp [lk,X4,X3 hz,G5 hz];done)|rfl) (by first|rfl|(simp [flat,Ab7];done)|(simp [flat,Ab7, *];done)) (by decide) ⟨by omega,by omega⟩ ?_ ?_<;>intro hzz<;>first|(have hQz:=R7.mk (hQa.out hzz))|(have hQz:=R7.mk (hQb.out hzz)))|refine An7 rfl ?_|refine AB3 f1 rfl rfl rfl rfl rfl (by decide) rfl ?_|refine AB3 f2 rfl rfl rfl rfl rfl (by decide) rfl ?_|refine sxH ?_|((with_reducible first|apply L8 hQz|apply L9 hQz)<;>(try intro hsp hQz))|exact hQz.out))<;>(try (conv=>whnf))))):p:=h ⟨hq⟩
theorem wx_Jhn {p q:Prop} (hq:q) (h:R7 q→p:=by (intro hQz;((repeat' ((try (conv=>whnf));first|refine sxA ?_|refine sxN ?_|refine AA2 (f:=Ab7) (l2:=[((k:Nat):Int)]) AP6 (Y7 rfl (by first|rfl|(simp;done)|(simp [*];done))) (fun hz=>by first|(simp [lk,X4,X3 hz,G5 hz];done)|rfl) (fun hz=>by first|(simp [lk,X4,AS7,BE0 hz,j6 hz];done)|rfl) (by first|rfl|(simp [flat,Ab7];done)|(simp [flat,Ab7, *];done)) (by decide) ⟨by omega,by omega⟩ rfl ?_|((with_reducible apply Ag1 hQz);intro hQa hQb;refine AA1 (f:=Ab7) (l2:=[((k:Nat):Int)]) AP6 (Y7 rfl (by first|rfl|(simp;done)|(simp [*];done))) (fun hz=>by first|(simp [lk,X4,X3 hz,G5 hz];done)|rfl) (by first|rfl|(simp [flat,Ab7];done)|(simp [flat,Ab7, *];done)) (by decide) ⟨by omega,by omega⟩ ?_ ?_<;>intro hzz<;>first|(have hQz:=R7.mk (hQa.out hzz))|(have hQz:=R7.mk (hQb.out hzz)))|refine An7 rfl ?_|refine AB3 f1 rfl rfl rfl rfl rfl (by decide) rfl ?_|refine AB3 f2 rfl rfl rfl rfl rfl (by decide) rfl ?_|refine BX3 (o:=0) y1 rfl rfl rfl rfl rfl rfl rfl rfl (by decide) rfl ?_|refine dcx_b1 (o:=0) y1 rfl rfl rfl rfl rfl rfl rfl rfl rfl rfl ?_|refine BX3 (o:=0) y2 rfl rfl rfl rfl rfl rfl rfl rfl (by decide) rfl ?_|refine dcx_b1 (o:=0) y2 rfl rfl rfl rfl rfl rfl rfl rfl rfl rfl ?_|refine Au5 hq ?_|refine sxH ?_|((with_reducible first|apply L8 hQz|apply L9 hQz)<;>(try intro hsp hQz))|exact hQz.out))<;>(try (conv=>whnf))))):p:=h ⟨hq⟩
theorem dcx_b1 {f:Nat} {avs:List AV} {q q':Bk} {t t':TS} {o i a b c d e g:Nat} {h:Hp} {r:AV} {K:AV→Up→List Nat→Prop} (hc:AJ1 f 1 avs q t r q' t')
  (g1:lk h.l i=some (.cells [.ptr a 0,.ptr g 0,.int .i64 (q.a:Nat),.int .i64 (q.n:Nat)])) (g0:lk h.l o=some (.cells [.ptr i 0])) (h0:lk h.l a=some (.cells (tabC b e t.C))) (h1:lk h.l b=some (.cells [.sl c 0 t.n t.n 7,.sl d 0 t.m t.m 3,.int .i64 (t.S.fr:Nat)])) (h2:lk h.l c=some (.cells (D6 t.n t.V t.W t.V3 t.V4 t.S.L t.S.N t.S.P))) (h3:lk h.l d=some (.cells (N9 t.m t.S.A t.S.B t.S.C))) (h4:lk h.l e=some (.maps (t.E.map AK9))) (h5:lk h.l g=some (.cells q.s.a))
  (hd:Aa8 [o,i,a,b,c,d,e,g]=true) (hnx':[o,i,a,b,c,d,e,g].contains h.next=false)
  (hk:K r [(o,some (.cells [.ptr i 0])),(i,some (.cells [.ptr a 0,.ptr g 0,.int .i64 (q'.a:Nat),.int .i64 (q'.n:Nat)])),(a,some (.cells (tabC b e t'.C))),(b,some (.cells [.sl c 0 t'.n t'.n 7,.sl d 0 t'.m t'.m 3,.int .i64 (t'.S.fr:Nat)])),(c,some (.cells (D6 t'.n t'.V t'.W t'.V3 t'.V4 t'.S.L t'.S.N t'.S.P))),(d,some (.cells (N9 t'.m t'.S.A t'.S.B t'.S.C))),(e,some (.maps (t'.E.map AK9))),(g,some (.cells q'.s.a))] [o,i,a,b,c,d,e,g]):AP8 Tryz.prog G0 f (.ptr i 0::avs) h K:=by
 have hnx:h.next ∉ [o,i,a,b,c,d,e,g]:=fun hm=>by rw [List.contains_eq_mem,decide_eq_false_iff_not] at hnx';exact hnx' hm
 have e0:enter [o,i,a,b,c,d,e,g] o 0:=rfl
 have e1:enter [o,i,a,b,c,d,e,g] i 1:=rfl
 have e2:enter [o,i,a,b,c,d,e,g] a 2:=rfl
 have e3:enter [o,i,a,b,c,d,e,g] b 3:=rfl
 have e4:enter [o,i,a,b,c,d,e,g] c 4:=rfl
 have e5:enter [o,i,a,b,c,d,e,g] d 5:=rfl
 have e6:enter [o,i,a,b,c,d,e,g] e 6:=rfl
 have e7:enter [o,i,a,b,c,d,e,g] g 7:=rfl
 have k0:S9 [o,i,a,b,c,d,e,g] 0 o:=rfl
 have k1:S9 [o,i,a,b,c,d,e,g] 1 i:=rfl
 have k2:S9 [o,i,a,b,c,d,e,g] 2 a:=rfl
 have k3:S9 [o,i,a,b,c,d,e,g] 3 b:=rfl
 have k4:S9 [o,i,a,b,c,d,e,g] 4 c:=rfl
 have k5:S9 [o,i,a,b,c,d,e,g] 5 d:=rfl
 have k6:S9 [o,i,a,b,c,d,e,g] 6 e:=rfl
 have k7:S9 [o,i,a,b,c,d,e,g] 7 g:=rfl
 refine Ab3 (l1:=bkN q' t' o i a b c d e g) [o,i,a,b,c,d,e,g] hc.out F3 hd
  (.cons e0 g0 ⟨F9 e1,trivial⟩ (.cons e1 g1 ⟨F9 e2,F9 e7,C9 A8,C9 A8,trivial⟩ (.cons e2 h0 (AD9 e3 e6) (.cons e3 h1 ⟨W9 e4,W9 e5,C9 A8,trivial⟩ (.cons e4 h2 R8 (.cons e5 h3 Y1 (.maps e6 h4 K3 (.cons e7 h5 (D5 J4) .nil))))))))
  hnx ?_ ?_ ⟨F9 e1,D5 hc.pa⟩ (C9 hc.pr)
  (.cons k0 ⟨F9 k1,trivial⟩ (.cons k1 ⟨F9 k2,F9 k7,C9 A8,C9 A8,trivial⟩ (.cons k2 (AD9 k3 k6) (.cons k3 ⟨W9 k4,W9 k5,C9 A8,trivial⟩ (.cons k4 R8 (.cons k5 Y1 (.maps k6 K3 (.cons k7 (D5 J4) .nil)))))))) hk
 ·intro x hx
  simp only [bkN,rdN,lk]
  repeat' split
  all_goals first|exact ⟨_,rfl⟩|(exfalso;simp only [List.mem_cons,List.not_mem_nil,or_false] at hx;omega)
 ·intro j x hx
  have : j < 8:=(List.getElem?_eq_some_iff.1 hx).1
  simp only [bkN,rdN,lk]
  repeat' split
  all_goals first|exact ⟨_,rfl⟩|(exfalso;omega)
section
variable {q:Bk} {t:TS}
theorem plain_di {l:List Int} {e:Int}:Plain (.tup [.isl (l.map Ab7),.int .i64 e]):=H7 fun x hx=>by
 simp only [List.mem_cons,List.not_mem_nil,or_false] at hx
 rcases hx with rfl|rfl<;>first|exact A8|exact AF3
theorem Am3 {e:Int}:Plain (.tup [.nils,.int .i64 e]):=H7 fun x hx=>by
 simp only [List.mem_cons,List.not_mem_nil,or_false] at hx
 rcases hx with rfl|rfl<;>first|exact A8|exact AA6
theorem b_Differ_no (x y:Int) (hn:¬ (inR 64 x∧inR 64 y)):AJ1 33 0 [.int .i64 x,.int .i64 y] q t (.tup [.nils,.int .i64 7]) q t:=by
 have hi:=b_is (q:=q) (t:=t)
 have hs1:=AW7 x
 have hs2:=AW7 y
 refine AJ1.mk (E8 D9 b33 rfl ?_) H6 Am3
 unfold c33
 unfold bkN rdN
 (refine wx_Jh ?_;repeat' (first|with_reducible refine And.intro ?_ ?_|intro hsp))
 all_goals first|exact X5 rfl Am3 rfl rfl rfl rfl rfl rfl rfl rfl|(exfalso;simp_all;done)
theorem Ae8 (L:List Vw) (a k:Nat):AO1 L a k=none∨∃ v,AO1 L a k=some v:=by cases AO1 L a k;exact .inl rfl;exact .inr ⟨_,rfl⟩
theorem b_Differ (hg:K6 q) (h:TOk q.L t) {x y:Nat} (hx:x < 64) (hy:y < 64):AJ1 33 0 [.int .i64 (x:Nat),.int .i64 (y:Nat)] q t (.tup [.isl ((q.difN x y 1024).map Ab7),.int .i64 0]) q t:=by
 have hi:=b_is (q:=q) (t:=t)
 have hs1:=AW7 (x:Nat)
 have hs2:=AW7 (y:Nat)
 rw [decide_eq_true (AZ3 hx)] at hs1
 rw [decide_eq_true (AZ3 hy)] at hs2
 refine AJ1.mk (E8 D9 b33 rfl ?_) H6 plain_di
 unfold c33
 unfold bkN rdN
 (refine wx_Jh ?_;repeat' (first|with_reducible refine And.intro ?_ ?_|intro hsp))
 (refine H9 [0,1,2,8] (fun (k:Nat)=>[(9,AN9 8 1 (q.difN x y k).length),(30,.int .i64 (k:Nat))]) (fun (k:Nat)=>⟨bkN q t 0 1 2 3 4 5 6 7++AE8 8 Ab7 (q.difN x y k),9⟩) (fun (k:Nat)=>k≤1024) (fun (k:Nat)=>1024 - k) (0) [] rfl (fun _=>by first|exact Nat.zero_le _|(dsimp only;omega)) ?_ (by ((try (conv=>whnf));(rw [dif_0]);exact Al8)) ?_)
 ·exact Nat.zero_le _
 intro k hk
 have hln:=dif_le (b:=q) (x:=x) (y:=y) (k:=k)
 by_cases hkl:k < 1024
 ·have htk:=dif_s (b:=q) (x:=x) (y:=y) (k:=k)
  have hin1:inR 64 (x:Nat)∧inR 1024 (k:Nat):=⟨AZ3 hx,Al9 hkl⟩
  have hin2:inR 64 (y:Nat)∧inR 1024 (k:Nat):=⟨AZ3 hy,Al9 hkl⟩
  unfold Bk.dif at htk
  unfold bkN rdN
  rcases Ae8 q.L x k with h1 | ⟨u,h1⟩<;>rcases Ae8 q.L y k with h2 | ⟨v,h2⟩
  ·have f1:=AH9 h hin1 h1
   have f2:=AH9 h hin2 h2
   rw [h1,h2] at htk
   dsimp only at htk
   rw [if_neg (by decide)] at htk
   generalize q.difN x y k=O at *
   (refine wx_Jh ?_;repeat' (first|with_reducible refine And.intro ?_ ?_|intro hsp))
   all_goals exact D8 (k+1) [] (by (try dsimp only);omega) (by first|omega|(dsimp only;omega)) rfl (by ((try dsimp only);rw [htk]);exact Al8)
  ·have f1:=AH9 h hin1 h1
   have f2:=Ax7 h hin2 h2
   rw [h1,h2] at htk
   dsimp only at htk
   rw [if_pos rfl] at htk
   generalize q.difN x y k=O at *
   (refine wx_Jh ?_;repeat' (first|with_reducible refine And.intro ?_ ?_|intro hsp))
   all_goals exact D8 (k+1) [(8,36)] (by (try dsimp only);omega) (by first|omega|(dsimp only;omega)) rfl (by ((try dsimp only);rw [htk]);exact Al8)
  ·have f1:=Ax7 h hin1 h1
   have f2:=AH9 h hin2 h2
   rw [h1,h2] at htk
   dsimp only at htk
   rw [if_pos rfl] at htk
   generalize q.difN x y k=O at *
   (refine wx_Jh ?_;repeat' (first|with_reducible refine And.intro ?_ ?_|intro hsp))
   all_goals exact D8 (k+1) [(8,36)] (by (try dsimp only);omega) (by first|omega|(dsimp only;omega)) rfl (by ((try dsimp only);rw [htk]);exact Al8)
  ·have f1:=Ax7 h hin1 h1
   have f2:=Ax7 h hin2 h2
   have g1:=hg.view (AF8 h1).1
   have g2:=hg.view (AF8 h2).1
   have y1:=BX7 (q:=q) (t:=t) (f:=u.2.2.1) (by have:=hg.rng.2;omega) g1.2.2
   have y2:=BX7 (q:=q) (t:=t) (f:=v.2.2.1) (by have:=hg.rng.2;omega) g2.2.2
   rw [h1,h2] at htk
   dsimp only at htk
   have hq:=eqL_bc (f:=q.s.B u.2.2.1) (g:=q.s.B v.2.2.1)
   have hqe:u.2.2.1=v.2.2.1→eqB (q.s.B u.2.2.1) (q.s.B v.2.2.1):=fun e=>by rw [e];exact fun _ _=>rfl
   by_cases hE:eqB (q.s.B u.2.2.1) (q.s.B v.2.2.1)
   ·rw [decide_eq_true hE] at hq
    simp only [decide_eq_true hE,Bool.not_true,Bool.false_eq_true,if_false] at htk
    generalize q.difN x y k=O at *
    generalize bcA (q.s.B u.2.2.1)=z1 at *
    generalize bcA (q.s.B v.2.2.1)=z2 at *
    (refine wx_Jhn ?_;repeat' (first|with_reducible refine And.intro ?_ ?_|intro hsp))
    all_goals exact D8 (k+1) [] (by (try dsimp only);omega) (by first|omega|(dsimp only;omega)) rfl (by ((try dsimp only);rw [htk]);exact Al8)
   ·rw [decide_eq_false hE] at hq
    simp only [decide_eq_false hE,Bool.not_false,if_true] at htk
    have hne:u.2.2.1 ≠ v.2.2.1:=fun e=>hE (hqe e)
    generalize q.difN x y k=O at *
    generalize bcA (q.s.B u.2.2.1)=z1 at *
    generalize bcA (q.s.B v.2.2.1)=z2 at *
    (refine wx_Jhn ?_;repeat' (first|with_reducible refine And.intro ?_ ?_|intro hsp))
    all_goals exact D8 (k+1) [(8,36)] (by (try dsimp only);omega) (by first|omega|(dsimp only;omega)) rfl (by ((try dsimp only);rw [htk]);exact Al8)
 ·obtain rfl:k=1024:=by omega
  unfold bkN rdN
  (refine wx_Jh ?_;repeat' (first|with_reducible refine And.intro ?_ ?_|intro hsp))
  exact end_BK (fun hs=>AH0 (C8 (wk_frzI (fun hz=>by simp [lk,G5 hz]) (bk_not (by decide)) hs) (C8 (K8 rfl) F8))) rfl rfl rfl rfl rfl rfl rfl rfl
end
end Go.Proofs.YtphggldkligldaaGreat.Sh
namespace Go.Pol
open Go.Am
def stat (a n:Int):Prop:=0≤a∧a < 1024∧1≤n∧n≤1024 - a
instance (a n:Int):Decidable (stat a n):=by unfold stat;infer_instance
structure Ax where
 w:Int
 a:Int
 b:Int
 t:Int
 v:Int
 l:List Rl
def acE (x:Ax):List AV:=[.int .u8 x.w,.int .i64 x.a,.int .i64 x.b,.int .i64 x.t,.int .u8 x.v,.isl (x.l.map rlA)]
theorem acE_len (x:Ax):(acE x).length=6:=rfl
def dA:Ax:=⟨0,0,0,0,0,[]⟩
structure Py where
 a:Int
 n:Int
 l:List Rl
 X:List Ax
def pyE (p:Py):List AV:=[.int .i64 p.a,.int .i64 p.n,.isl (p.l.map rlA),.isl (p.X.map acE)]
def Py.b (p:Py):Bk:=⟨p.a.toNat,p.n.toNat,[],((Sy.new p.l).chg p.a p.n 0 1 0).2⟩
end Go.Pol
namespace Go.Proofs.YtphggldkligldaaGreat.Sh
open Go Go.Am Go.Pol
theorem wx_Ji {p q:Prop} (hq:q) (h:R7 q→p:=by (intro hQz;((repeat' ((try (conv=>whnf));first|refine sxA ?_|refine sxF ?_|refine K5 (by assumption) rfl (by decide) ?_|refine G7 (by assumption) ?_|refine K5 hc rfl (by decide) ?_|refine K5 hr rfl (by decide) ?_|refine cx_NT (by assumption) ?_|refine BX2 (by assumption) ?_|refine cx_BN h1 rfl (by decide) ?_|refine K5 h1 rfl (by decide) ?_|refine sxH ?_|((with_reducible first|apply L8 hQz|apply L9 hQz)<;>(try intro hsp hQz))|exact hQz.out))<;>(try (conv=>whnf))))):p:=h ⟨hq⟩
theorem AY7 (x:Ax):∀ y ∈ acE x,Plain y:=fun y hy=>by
 unfold acE at hy
 simp only [List.mem_cons,List.not_mem_nil,or_false] at hy
 rcases hy with rfl|rfl|rfl|rfl|rfl|rfl<;>first|exact A8|exact X0
theorem AX9 (x:Ax):Plain (.agg (acE x)):=P9 (AY7 x)
theorem Ar4 {X:List Ax}:Plain (.isl (X.map acE)):=AD2 fun e he=>by obtain ⟨x,_,rfl⟩:=List.mem_map.1 he;exact AY7 x
theorem Am2 (p:Py):∀ y ∈ pyE p,Plain y:=fun y hy=>by
 unfold pyE at hy
 simp only [List.mem_cons,List.not_mem_nil,or_false] at hy
 rcases hy with rfl|rfl|rfl|rfl
 ·exact A8
 ·exact A8
 ·exact X0
 ·exact AD2 fun e he=>by obtain ⟨x,_,rfl⟩:=List.mem_map.1 he;exact AY7 x
theorem AX8 (p:Py):Plain (.agg (pyE p)):=P9 (Am2 p)
theorem end_G {top:Bool} {h:Hp} {N0 n:Nat} {x r:AV} {q:Bk} {t:TS} (ren:List (Nat × Nat)) (o i a b c d e g:Nat) (hkp:Ae2 N0 ren=true) (hm:N0≤n) (hone:Aa8 [rn ren o,rn ren i,rn ren a,rn ren b,rn ren c,rn ren d,rn ren e,rn ren g]=true)
  (hlt:o < n∧i < n∧a < n∧b < n∧c < n∧d < n∧e < n∧g < n)
  (hr:AG8 (rn ren) h ⟨bkN q t o i a b c d e g,n⟩→WkV Tryz.prog (rn ren) h ⟨bkN q t o i a b c d e g,n⟩ x r) (g0:lk h.l (rn ren o)=some (.cells [.ptr (rn ren i) 0])) (g1:lk h.l (rn ren i)=some (.cells [.ptr (rn ren a) 0,.ptr (rn ren g) 0,.int .i64 (q.a:Nat),.int .i64 (q.n:Nat)])) (h0:lk h.l (rn ren a)=some (.cells (tabC (rn ren b) (rn ren e) t.C))) (h1:lk h.l (rn ren b)=some (.cells [.sl (rn ren c) 0 t.n t.n 7,.sl (rn ren d) 0 t.m t.m 3,.int .i64 (t.S.fr:Nat)])) (h2:lk h.l (rn ren c)=some (.cells (D6 t.n t.V t.W t.V3 t.V4 t.S.L t.S.N t.S.P))) (h3:lk h.l (rn ren d)=some (.cells (N9 t.m t.S.A t.S.B t.S.C))) (h4:lk h.l (rn ren e)=some (.maps (t.E.map AK9))) (h5:lk h.l (rn ren g)=some (.cells q.s.a)) :
  AU3 top Tryz.prog N0 h x (fun r' h'=>r'=r∧h'=⟨bkN q t o i a b c d e g,n⟩):=by
 obtain ⟨l0,l1,l2,l3,l4,l5,l6,l7⟩:=hlt
 have hs:AG8 (rn ren) h ⟨bkN q t o i a b c d e g,n⟩:=fun j x hi=>by
  simp only [bkN,rdN,lk] at hi
  split at hi
  ·rename_i e;subst e;exact ⟨_,g0⟩
  ·split at hi
   ·rename_i e;subst e;exact ⟨_,g1⟩
   ·split at hi
    ·rename_i e;subst e;exact ⟨_,h0⟩
    ·split at hi
     ·rename_i e;subst e;exact ⟨_,h1⟩
     ·split at hi
      ·rename_i e;subst e;exact ⟨_,h2⟩
      ·split at hi
       ·rename_i e;subst e;exact ⟨_,h3⟩
       ·split at hi
        ·rename_i e;subst e;exact ⟨_,h4⟩
        ·split at hi
         ·rename_i e;subst e;exact ⟨_,h5⟩
         ·cases hi
 refine AA0 ren hkp hm (P6 (l:=bkN q t o i a b c d e g) hone) (hr hs) ?_ ⟨rfl,rfl⟩
 exact I4 l0 g0 (C8 (R4 (i:=i) rfl l1) F8)
  (I4 l1 g1 (C8 (R4 (i:=a) rfl l2) (C8 (R4 (i:=g) rfl l7) (C8 (K8 rfl) (C8 (K8 rfl) F8))))
  (AL7 hs l2 h0 rfl l3 rfl l6
  (I4 l3 h1 (C8 (AE9 rfl l4 rfl (Nat.le_refl _) (Nat.le_refl _)) (C8 (AE9 rfl l5 rfl (Nat.le_refl _) (Nat.le_refl _)) (C8 (K8 rfl) F8)))
  (F5 hs l4 h2 rfl G9 (F5 hs l5 h3 rfl I7 (AD6 hs l6 h4 rfl K3 (F5 hs l7 h5 rfl J4 J8)))))))
structure LocBN (f:Nat) (avs:List AV) (s:Sy) (q:Bk) (t:TS):Prop where
 out:AT8 Tryz.prog G0 f (.ptr 0 0::avs) [(0,.cells s.a)] 1 fun x h=>x = .tup [.ptr 1 0,.int .i64 0]∧h=⟨bkN q t 1 2 3 4 5 6 7 0,8⟩
 pa:∀ x ∈ avs,Plain x
theorem cx_BN {f:Nat} {avs:List AV} {s:Sy} {q:Bk} {t:TS} {g nx:Nat} {l:List (Nat × AObj)} {K:AV→Hp→Prop} (hc:LocBN f avs s q t) (h5:lk l g=some (.cells s.a)) (hlt:g < nx)
  (hk:AJ5 [g] l fun l2=>K (.tup [.ptr nx 0,.int .i64 0]) ⟨([(nx,.cells [.ptr (nx+1) 0]),(nx+1,.cells [.ptr (nx+2) 0,.ptr g 0,.int .i64 (q.a:Nat),.int .i64 (q.n:Nat)]),(nx+2,.cells (tabC (nx+3) (nx+6) t.C)),(nx+3,.cells [.sl (nx+4) 0 t.n t.n 7,.sl (nx+5) 0 t.m t.m 3,.int .i64 (t.S.fr:Nat)]),(nx+4,.cells (D6 t.n t.V t.W t.V3 t.V4 t.S.L t.S.N t.S.P)),(nx+5,.cells (N9 t.m t.S.A t.S.B t.S.C)),(nx+6,.maps (t.E.map AK9)),(g,.cells q.s.a)]:List (Nat × AObj))++l2,nx+7⟩):AG9 Tryz.prog G0 (.fn f [] []) (.ptr g 0::avs) ⟨l,nx⟩ K:=by
 have e0:enter [g] g 0:=rfl
 have k0:back [g] nx 0 g:=rfl
 have k1:back [g] nx 1 nx:=rfl
 have k2:back [g] nx 2 (nx+1):=rfl
 have k3:back [g] nx 3 (nx+2):=rfl
 have k4:back [g] nx 4 (nx+3):=rfl
 have k5:back [g] nx 5 (nx+4):=rfl
 have k6:back [g] nx 6 (nx+5):=rfl
 have k7:back [g] nx 7 (nx+6):=rfl
 refine AG2 (r':=.tup [.ptr nx 0,.int .i64 0]) (l1:=bkN q t nx (nx+1) (nx+2) (nx+3) (nx+4) (nx+5) (nx+6) g) [g] hc.out F3 rfl (.cons e0 h5 (D5 J4) .nil)
  ?_ (by intro x hx;simp only [List.mem_cons,List.not_mem_nil,or_false] at hx;omega) (BJ3 ⟨F9 k1,C9 A8,trivial⟩)
  (.cons k1 ⟨F9 k2,trivial⟩ (.cons k2 ⟨F9 k3,F9 k0,C9 A8,C9 A8,trivial⟩ (.cons k3 (AD9 k4 k7) (.cons k4 ⟨W9 k5,W9 k6,C9 A8,trivial⟩ (.cons k5 R8 (.cons k6 Y1 (.maps k7 K3 (.cons k0 (D5 J4) .nil)))))))) hk
 simp only [List.nil_append,List.append_nil]
 exact ⟨F9 e0,D5 hc.pa⟩
theorem An2 (a n:Int):E5 74 [.int .i64 a,.int .i64 n] (.bool (decide (stat a n))):=by
 refine E5.mk (I5 D9 b74 F3 ⟨A8,A8,trivial⟩ A9 rfl ?_)
 unfold c74
 (refine wx_Ji ?_;repeat' (first|with_reducible refine And.intro ?_ ?_|intro hsp))
 all_goals exact J7 (by first|exact (decide_eq_false fun h:stat a n=>by obtain ⟨h1,h2,h3,h4⟩:=h;omega).symm|exact decide_eq_decide.2 ⟨fun h=>⟨by omega,by omega,by omega,by omega⟩,fun h=>by obtain ⟨h1,h2,h3,h4⟩:=h;omega⟩)
section
variable {s:Sy} {a n:Int}
theorem AP1 {e:Int}:Plain (.tup [.nilp,.int .i64 e]):=H7 fun x hx=>by
 simp only [List.mem_cons,List.not_mem_nil,or_false] at hx
 rcases hx with rfl|rfl;exact AI1;exact A8
theorem b_New_far (hg:GoodS s) (hn:¬ stat a n):AD5 38 [.int .i64 a,.int .i64 n] s.a (.tup [.nilp,.int .i64 7]) s.a:=by
 have hc:=Am5 hg
 have hst:=An2 a n
 rw [decide_eq_false hn] at hst
 unfold Sy.counts at hc
 refine AD5.mk (E8 D9 b38 rfl ?_) J4 J4 H6 AP1
 unfold c38
 generalize AR6 s.K 0 1024=n0 at *
 generalize AR6 s.K 1 1024=n1 at *
 generalize AR6 s.K 2 1024=n2 at *
 generalize AR6 s.K 3 1024=n3 at *
 generalize cntG s.G 64=n4 at *
 (refine wx_Ji ?_;repeat' (first|with_reducible refine And.intro ?_ ?_|intro hsp))
 all_goals exact X7 rfl AP1 rfl J4
theorem b_New_no (hg:GoodS s) (hn:stat a n) (he:(s.chg a n 0 1 0).1 ≠ 0):AD5 38 [.int .i64 a,.int .i64 n] s.a (.tup [.nilp,.int .i64 (s.chg a n 0 1 0).1]) (s.chg a n 0 1 0).2.a:=by
 have hc:=Am5 hg
 have hst:=An2 a n
 rw [decide_eq_true hn] at hst
 have hr:=BL3 (a:=a) (n:=n) hg
 unfold Sy.counts at hc
 refine AD5.mk (E8 D9 b38 rfl ?_) J4 J4 H6 AP1
 unfold c38
 generalize AR6 s.K 0 1024=n0 at *
 generalize AR6 s.K 1 1024=n1 at *
 generalize AR6 s.K 2 1024=n2 at *
 generalize AR6 s.K 3 1024=n3 at *
 generalize cntG s.G 64=n4 at *
 generalize s.chg a n 0 1 0=r at *
 (refine wx_Ji ?_;repeat' (first|with_reducible refine And.intro ?_ ?_|intro hsp))
 all_goals first|exact X7 rfl AP1 rfl J4|(exfalso;omega)
theorem b_New (hg:GoodS s) (hn:stat a n) (he:(s.chg a n 0 1 0).1=0):LocBN 38 [.int .i64 a,.int .i64 n] s ⟨a.toNat,n.toNat,[],(s.chg a n 0 1 0).2⟩ T0:=by
 have hc:=Am5 hg
 have hst:=An2 a n
 rw [decide_eq_true hn] at hst
 have hr:=BL3 (a:=a) (n:=n) hg
 rw [he] at hr
 have hnew:=n_New
 have ha:((a.toNat:Nat):Int)=a:=Int.toNat_of_nonneg hn.1
 have hna:((n.toNat:Nat):Int)=n:=Int.toNat_of_nonneg (by have:=hn.2.2.1;omega)
 unfold Sy.counts at hc
 refine LocBN.mk (E8 D9 b38 rfl ?_) H6
 unfold c38
 generalize AR6 s.K 0 1024=n0 at *
 generalize AR6 s.K 1 1024=n1 at *
 generalize AR6 s.K 2 1024=n2 at *
 generalize AR6 s.K 3 1024=n3 at *
 generalize cntG s.G 64=n4 at *
 generalize s.chg a n 0 1 0=r at *
 generalize T0=t0 at *
 (refine wx_Ji ?_;repeat' (first|with_reducible refine And.intro ?_ ?_|intro hsp))
 all_goals exact end_G [(1,8),(2,7),(3,2),(4,3),(5,4),(6,5),(7,6)] 1 2 3 4 5 6 7 0 rfl (by decide) rfl (by decide) (fun hs=>AH0 (C8 (R4 (i:=1) rfl (show 1 < 8 by decide)) (C8 (K8 rfl) F8))) rfl (by dsimp only;rw [ha,hna];rfl) rfl rfl rfl rfl rfl rfl
end
end Go.Proofs.YtphggldkligldaaGreat.Sh
