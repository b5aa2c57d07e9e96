/-
 far,alone.
 The example.
 Both books: their memory;a step's contract.
 A play: the books behind its calls.
 SnapshotNone.
-/
import Derived.Test.YtphggldkligldaaGreatQj
set_option linter.unusedSimpArgs false
set_option linter.unusedVariables false
set_option maxHeartbeats 3200000
namespace Go.Pol
open Go.Am
def Bk.al (q:Bk) (x:Ax):Int × Bk:=q.call (x.w.toNat % 14) x.a x.b x.t x.v x.l
def Py.ok (p:Py):Prop:=p.X.length≤40∧p.l.length≤60∧(p.n≤100∨1024 < p.n)
instance (p:Py):Decidable p.ok:=by unfold Py.ok;infer_instance
end Go.Pol
namespace Go.Proofs.YtphggldkligldaaGreat.Sh
open Go Go.Am Go.Pol
theorem plx_Jj {p:Prop} (h:p:=by ((first|exact plw|(with_reducible first|apply O4|apply M5|apply J3|apply u6|apply z8|apply AB2|apply P5|apply AF3|apply M9|apply X0|apply AX9 _|apply AX8 _|apply Ar4|fail)|fail);first|done|fail)):p:=h
theorem ppx_Jj {p:Prop} (h:p:=by ((first|with_reducible assumption|(with_reducible first|apply G9|apply I7|apply V6|apply T9 _ _|apply X9|apply AM9|apply J4|apply H8|apply AQ7|apply AT4|apply K7 AE4|apply Am2 _|apply AY7 _|fail)|exact ppw|fail);first|done|fail)):p:=h
open Go.Proofs.YtphggldkligldaaGreat.Sh renaming plx_Jj → plx
open Go.Proofs.YtphggldkligldaaGreat.Sh renaming ppx_Jj → ppx
theorem wx_Jj {p q:Prop} (hq:q) (h:R7 q→p:=by (intro hQz;((repeat' ((try (conv=>whnf));first|refine sxA ?_|refine sxF ?_|refine Z9 (d:=dA) acE_len (by first|assumption|omega) (by with_reducible assumption) ?_|refine AG3 h2 rfl rfl rfl rfl rfl rfl rfl rfl (by decide) rfl ?_|refine AC0 (by with_reducible assumption) ?_|refine K5 h2 rfl (by decide) ?_|refine sxH ?_|((with_reducible first|apply L8 hQz|apply L9 hQz)<;>(try intro hsp hQz))|exact hQz.out))<;>(try (conv=>whnf))))):p:=h ⟨hq⟩
theorem k_far_yes {p:Py} (hl:p.X.length≤maxLen) (h:∃ x ∈ p.X,60 < x.l.length):E5 10 [.agg (pyE p)] (.bool true):=by
 have hl:p.X.length≤9223372036854775807:=hl
 refine E5.mk (I5 D9 b10 F3 ⟨AX8 p,trivial⟩ A9 rfl ?_)
 unfold c10
 have hp:=Am2 p
 unfold pyE at hp ⊢
 (refine wx_Jj ?_;repeat' (first|with_reducible refine And.intro ?_ ?_|intro hsp))
 (refine H9 [1] (fun (i:Nat)=>[(3,.int .i64 (i:Nat))]) (fun (i:Nat)=>⟨[(0,.cells [.int .i64 p.a,.int .i64 p.n,.isl (p.l.map rlA),.isl (p.X.map acE)])],1⟩) (fun (i:Nat)=>∃ j,i≤j∧j < p.X.length∧60 < (nth dA p.X j).l.length) (fun (i:Nat)=>p.X.length - i) (0) [] rfl (fun _=>by first|exact Nat.zero_le _|(dsimp only;omega)) ?_ (by ((try (conv=>whnf));exact V8)) ?_)
 ·obtain ⟨x,hx,h6⟩:=h
  obtain ⟨j,hj,rfl⟩:=List.getElem_of_mem hx
  exact ⟨j,Nat.zero_le _,hj,by rw [N8 hj];exact h6⟩
 intro i hi
 obtain ⟨j,h1,h2,h3⟩:=hi
 have hil:i < p.X.length:=by omega
 have hne:¬ 60 < (nth dA p.X i).l.length→∃ j,i+1≤j∧j < p.X.length∧60 < (nth dA p.X j).l.length:=fun hn=>⟨j,by
  by_cases e:i=j
  ·exact absurd (e▸h3) hn
  ·omega,h2,h3⟩
 clear h1 h2 h3
 by_cases hn:60 < (nth dA p.X i).l.length
 ·clear hne
  generalize hx:nth dA p.X i=x at *
  (refine wx_Jj ?_;repeat' (first|with_reducible refine And.intro ?_ ?_|intro hsp))
  all_goals first|exact J7 rfl|(exfalso;omega)
 ·have hne2:=hne hn
  clear hne
  generalize hx:nth dA p.X i=x at *
  (refine wx_Jj ?_;repeat' (first|with_reducible refine And.intro ?_ ?_|intro hsp))
  all_goals first|(exfalso;omega)|exact D8 (i+1) [] hne2 (by first|omega|(dsimp only;omega)) rfl (by exact V8)
theorem k_far_no {p:Py} (hl:p.X.length≤maxLen) (h:¬ ∃ x ∈ p.X,60 < x.l.length):E5 10 [.agg (pyE p)] (.bool (decide (¬ p.ok))):=by
 have hl:p.X.length≤9223372036854775807:=hl
 refine E5.mk (I5 D9 b10 F3 ⟨AX8 p,trivial⟩ A9 rfl ?_)
 unfold c10
 unfold pyE
 (refine wx_Jj ?_;repeat' (first|with_reducible refine And.intro ?_ ?_|intro hsp))
 (refine H9 [1] (fun (i:Nat)=>[(3,.int .i64 (i:Nat))]) (fun (i:Nat)=>⟨[(0,.cells [.int .i64 p.a,.int .i64 p.n,.isl (p.l.map rlA),.isl (p.X.map acE)])],1⟩) (fun (i:Nat)=>i≤p.X.length) (fun (i:Nat)=>p.X.length - i) (0) [] rfl (fun _=>by first|exact Nat.zero_le _|(dsimp only;omega)) ?_ (by ((try (conv=>whnf));exact V8)) ?_)
 ·exact Nat.zero_le _
 intro i hi
 by_cases hil:i < p.X.length
 ·have hn:¬ 60 < (nth dA p.X i).l.length:=fun h2=>h ⟨_,AB6 (d:=dA) hil,h2⟩
  generalize hx:nth dA p.X i=x at *
  (refine wx_Jj ?_;repeat' (first|with_reducible refine And.intro ?_ ?_|intro hsp))
  all_goals first|(exfalso;omega)|exact D8 (i+1) [] (by (try dsimp only);omega) (by first|omega|(dsimp only;omega)) rfl (by exact V8)
 ·clear h
  (refine wx_Jj ?_;repeat' (first|with_reducible refine And.intro ?_ ?_|intro hsp))
  all_goals exact J7 (by first|exact (decide_eq_true (show ¬ p.ok from fun ⟨h1,h2,h3⟩=>by omega)).symm|exact (decide_eq_false (show ¬ ¬ p.ok from fun hn=>hn ⟨by omega,by omega,by omega⟩)).symm|exact decide_eq_decide.2 ⟨fun h4 ⟨h1,h2,h3⟩=>(by omega),fun hn=>Classical.byContradiction fun h4=>hn ⟨by omega,by omega,by omega⟩⟩)
theorem k_far (p:Py) (hl:p.X.length≤maxLen):∃ b,E5 10 [.agg (pyE p)] (.bool b)∧(b=false→p.ok):=by
 by_cases h:∃ x ∈ p.X,60 < x.l.length
 ·exact ⟨true,k_far_yes hl h,fun e=>by cases e⟩
 ·refine ⟨_,k_far_no hl h,fun e=>?_⟩
  have:=of_decide_eq_false e
  exact Classical.not_not.1 this
section
variable {q:Bk} {t:TS}
end
end Go.Proofs.YtphggldkligldaaGreat.Sh
namespace Go.Pol
open Go.Am
theorem differ_N {b:Bk} {x y:Nat} (hx:x < 64) (hy:y < 64):b.differ (x:Nat) (y:Nat)=(b.difN x y 1024,0):=by
 unfold Bk.differ
 rw [if_neg (by rw [Classical.not_not];exact ⟨⟨by omega,by omega⟩,by omega,by omega⟩),Int.toNat_natCast,Int.toNat_natCast]
 rfl
end Go.Pol
namespace Go.Proofs.YtphggldkligldaaGreat.Sh
open Go Go.Am Go.Pol
theorem wx_Jk {p q:Prop} (hq:q) (h:R7 q→p:=by (intro hQz;((repeat' ((try (conv=>whnf));first|refine sxA ?_|refine sxF ?_|refine BX2 hn ?_|refine cx_BN h0 rfl (by decide) ?_|refine AG3 y1 rfl rfl rfl rfl rfl rfl rfl rfl (by decide) rfl ?_|refine AG3 y2 rfl rfl rfl rfl rfl rfl rfl rfl (by decide) rfl ?_|refine AG3 y3 rfl rfl rfl rfl rfl rfl rfl rfl (by decide) rfl ?_|refine AG3 y4 rfl rfl rfl rfl rfl rfl rfl rfl (by decide) rfl ?_|refine AG3 r4 rfl rfl rfl rfl rfl rfl rfl rfl (by decide) rfl ?_|refine AG3 n4 rfl rfl rfl rfl rfl rfl rfl rfl (by decide) rfl ?_|refine AG3 d4 rfl rfl rfl rfl rfl rfl rfl rfl (by decide) rfl ?_|refine AG3 y5 rfl rfl rfl rfl rfl rfl rfl rfl (by decide) rfl ?_|refine AG3 y6 rfl rfl rfl rfl rfl rfl rfl rfl (by decide) rfl ?_|refine AG3 y7 rfl rfl rfl rfl rfl rfl rfl rfl (by decide) rfl ?_|refine AG3 y8 rfl rfl rfl rfl rfl rfl rfl rfl (by decide) rfl ?_|refine AG3 r8 rfl rfl rfl rfl rfl rfl rfl rfl (by decide) rfl ?_|refine sxH ?_|((with_reducible first|apply L8 hQz|apply L9 hQz)<;>(try intro hsp hQz))|exact hQz.out))<;>(try (conv=>whnf))))):p:=h ⟨hq⟩
theorem k_shown:E5 11 [] (.bool true):=by
 have hn:=n_new
 have hc0:(AE7 []).2=0:=by decide
 have h0:LocBN 38 [.int .i64 8,.int .i64 2] (Sy.new []) sh0 T0:=b_New (BE8 hc0) (a:=8) (n:=2) (by decide) sh_0
 have g0:K6 sh0:=(new_book (l:=[]) (a:=8) (n:=2) hc0 (by decide) sh_0 sh0 rfl).1
 obtain ⟨t1,k1,y1⟩:=b_Map g0 tok_0 0 3
 have g1:K6 sh1:=BE9 g0 0 3
 rw [sh_1,show (sh0.map 0 3).2=sh1 from rfl] at y1
 rw [show (sh0.map 0 3).2=sh1 from rfl] at k1
 obtain ⟨t2,k2,y2⟩:=Av6 g1 k1 0 192 7
 have g2:K6 sh2:=AN3 g1 0 192 7
 rw [sh_2,show (sh1.write 0 192 7).2=sh2 from rfl] at y2
 rw [show (sh1.write 0 192 7).2=sh2 from rfl] at k2
 obtain ⟨t3,k3,y3⟩:=b_Take k2 0 1
 have g3:K6 sh3:=Ae4 g2 0 1
 rw [sh_3.1,sh_3.2,show (sh2.take 0 1).2.2=sh3 from rfl] at y3
 rw [show (sh2.take 0 1).2.2=sh3 from rfl] at k3
 obtain ⟨t4,k4,y4⟩:=Av6 g3 k3 0 192 8
 have g4:K6 sh4:=AN3 g3 0 192 8
 rw [sh_4,show (sh3.write 0 192 8).2=sh4 from rfl] at y4
 rw [show (sh3.write 0 192 8).2=sh4 from rfl] at k4
 have r4:=b_Read k4 1 192
 rw [sh_r4] at r4
 have n4:=b_Counts g4 k4
 rw [sh_c4.1,sh_c4.2.1,sh_c4.2.2] at n4
 have d4:=b_Differ g4 k4 (x:=0) (y:=1) (by decide) (by decide)
 have e4:=(differ_N (b:=sh4) (x:=0) (y:=1) (by decide) (by decide)).symm.trans sh_d4
 rw [(Prod.mk.inj e4).1] at d4
 clear e4
 obtain ⟨t5,k5,y5⟩:=b_Take k4 1 2
 have g5:K6 sh5:=Ae4 g4 1 2
 rw [sh_5.1,sh_5.2,show (sh4.take 1 2).2.2=sh5 from rfl] at y5
 rw [show (sh4.take 1 2).2.2=sh5 from rfl] at k5
 obtain ⟨t6,k6,y6⟩:=Av6 g5 k5 2 192 9
 have g6:K6 sh6:=AN3 g5 2 192 9
 rw [sh_6,show (sh5.write 2 192 9).2=sh6 from rfl] at y6
 rw [show (sh5.write 2 192 9).2=sh6 from rfl] at k6
 obtain ⟨t7,k7,y7⟩:=b_Drop g6 k6 0
 have g7:K6 sh7:=Ae5 g6 0
 rw [sh_7.1,sh_7.2,show (sh6.drop 0).2.2=sh7 from rfl] at y7
 rw [show (sh6.drop 0).2.2=sh7 from rfl] at k7
 obtain ⟨t8,k8,y8⟩:=Av6 g7 k7 2 192 9
 rw [sh_8,show (sh7.write 2 192 9).2=sh8 from rfl] at y8
 rw [show (sh7.write 2 192 9).2=sh8 from rfl] at k8
 have r8:=b_Read k8 1 192
 rw [sh_r8] at r8
 clear g0 g1 g2 g3 g4 g5 g6 g7 k1 k2 k3 k4 k5 k6 k7 k8 hc0
 generalize T0=t0 at *
 generalize Sy.new []=s0 at *
 generalize sh0=q0 at *
 generalize sh1=q1 at *
 generalize sh2=q2 at *
 generalize sh3=q3 at *
 generalize sh4=q4 at *
 generalize sh5=q5 at *
 generalize sh6=q6 at *
 generalize sh7=q7 at *
 generalize sh8=q8 at *
 refine E5.mk (I5 D9 b11 F3 trivial A9 rfl ?_)
 unfold c11
 (refine wx_Jk ?_;repeat' (first|with_reducible refine And.intro ?_ ?_|intro hsp))
 all_goals first|exact J7 rfl|(exfalso;omega)|(exfalso;simp at hsp;done)|(exfalso;simp_all;done)
end Go.Proofs.YtphggldkligldaaGreat.Sh
namespace Go.Proofs.YtphggldkligldaaGreat.Sh
open Go Go.Am Go.Pol
theorem plx_Pg {p:Prop} (h:p:=by ((first|exact plw|(with_reducible first|apply O4|apply M5|apply J3|apply u6|apply z8|apply AB2|apply AF3|apply AA5|apply AX9 _|apply AX8 _|apply Ar4|apply M9|apply X0|fail)|fail);first|done|fail)):p:=h
open Go.Proofs.YtphggldkligldaaGreat.Sh renaming plx_Pg → plx
open Go.Proofs.YtphggldkligldaaGreat.Sh renaming ppx_Jj → ppx
theorem wx_Pg {p q:Prop} (hq:q) (h:R7 q→p:=by (intro hQz;((repeat' ((try (conv=>whnf));first|refine sxA ?_|refine Z9 (d:=(0:Int)) AP6 (by first|assumption|omega) (by with_reducible assumption) ?_|refine sxF ?_|refine sxH ?_|((with_reducible first|apply L8 hQz|apply L9 hQz)<;>(try intro hsp hQz))|exact hQz.out))<;>(try (conv=>whnf))))):p:=h ⟨hq⟩
def stN (q:Bk) (t:TS) (o i a b c d e g j h y:Nat):List (Nat × AObj):=[(o,.cells [.ptr i 0]),(i,.cells [.ptr a 0,.ptr g 0,.int .i64 (q.a:Nat),.int .i64 (q.n:Nat)]),(a,.cells (tabC b e t.C)),(b,.cells [.sl c 0 t.n t.n 7,.sl d 0 t.m t.m 3,.int .i64 (t.S.fr:Nat)]),(c,.cells (D6 t.n t.V t.W t.V3 t.V4 t.S.L t.S.N t.S.P)),(d,.cells (N9 t.m t.S.A t.S.B t.S.C)),(e,.maps (t.E.map AK9)),(g,.cells q.s.a),(j,.cells [.ptr h 0,.int .i64 (q.a:Nat),.int .i64 (q.n:Nat),.isl (q.L.map vwC)]),(h,.cells q.s.b),(y,.cells [.ptr g 0,.ptr o 0,.ptr h 0,.ptr j 0])]
set_option maxRecDepth 20000 in
theorem Au6 {top:Bool} {h':Hp} {N0 n:Nat} {x r:AV} {q:Bk} {t:TS} (ren:List (Nat × Nat)) (o i a b c d e g j h y:Nat) (hkp:Ae2 N0 ren=true) (hm:N0≤n) (hone:Aa8 [(rn ren o),(rn ren i),(rn ren a),(rn ren b),(rn ren c),(rn ren d),(rn ren e),(rn ren g),(rn ren j),(rn ren h),(rn ren y)]=true)
  (hlt:o < n∧i < n∧a < n∧b < n∧c < n∧d < n∧e < n∧g < n∧j < n∧h < n∧y < n)
  (hr:x=r) (hp:Plain r) (g0:lk h'.l ((rn ren o))=some (.cells [.ptr (rn ren i) 0])) (g1:lk h'.l ((rn ren i))=some (.cells [.ptr (rn ren a) 0,.ptr (rn ren g) 0,.int .i64 (q.a:Nat),.int .i64 (q.n:Nat)])) (g2:lk h'.l ((rn ren a))=some (.cells (tabC (rn ren b) (rn ren e) t.C))) (g3:lk h'.l ((rn ren b))=some (.cells [.sl (rn ren c) 0 t.n t.n 7,.sl (rn ren d) 0 t.m t.m 3,.int .i64 (t.S.fr:Nat)])) (g4:lk h'.l ((rn ren c))=some (.cells (D6 t.n t.V t.W t.V3 t.V4 t.S.L t.S.N t.S.P))) (g5:lk h'.l ((rn ren d))=some (.cells (N9 t.m t.S.A t.S.B t.S.C))) (g6:lk h'.l ((rn ren e))=some (.maps (t.E.map AK9))) (g7:lk h'.l ((rn ren g))=some (.cells q.s.a)) (g8:lk h'.l ((rn ren j))=some (.cells [.ptr (rn ren h) 0,.int .i64 (q.a:Nat),.int .i64 (q.n:Nat),.isl (q.L.map vwC)])) (g9:lk h'.l ((rn ren h))=some (.cells q.s.b)) (g10:lk h'.l ((rn ren y))=some (.cells [.ptr (rn ren g) 0,.ptr (rn ren o) 0,.ptr (rn ren h) 0,.ptr (rn ren j) 0])) :
  AU3 top Tryz.prog N0 h' x (fun r' h2=>r'=r∧h2=⟨stN q t o i a b c d e g j h y,n⟩):=by
 subst hr
 obtain ⟨l0,l1,l2,l3,l4,l5,l6,l7,l8,l9,l10⟩:=hlt
 have hs:AG8 (rn ren) h' ⟨stN q t o i a b c d e g j h y,n⟩:=fun j x hi=>by
  simp only [stN,lk] at hi
  split at hi
  ·rename_i e;subst e;exact ⟨_,g0⟩
  ·split at hi
   ·rename_i e;subst e;exact ⟨_,g1⟩
   ·split at hi
    ·rename_i e;subst e;exact ⟨_,g2⟩
    ·split at hi
     ·rename_i e;subst e;exact ⟨_,g3⟩
     ·split at hi
      ·rename_i e;subst e;exact ⟨_,g4⟩
      ·split at hi
       ·rename_i e;subst e;exact ⟨_,g5⟩
       ·split at hi
        ·rename_i e;subst e;exact ⟨_,g6⟩
        ·split at hi
         ·rename_i e;subst e;exact ⟨_,g7⟩
         ·split at hi
          ·rename_i e;subst e;exact ⟨_,g8⟩
          ·split at hi
           ·rename_i e;subst e;exact ⟨_,g9⟩
           ·split at hi
            ·rename_i e;subst e;exact ⟨_,g10⟩
            ·cases hi
 refine AA0 ren hkp hm (P6 (l:=stN q t o i a b c d e g j h y) hone) (M8 hs hp) ?_ ⟨rfl,rfl⟩
 exact I4 l0 g0 (C8 (R4 (i:=i) rfl l1) F8)
  (I4 l1 g1 (C8 (R4 (i:=a) rfl l2) (C8 (R4 (i:=g) rfl l7) (C8 (K8 rfl) (C8 (K8 rfl) F8))))
  (AL7 hs l2 g2 rfl l3 rfl l6
  (I4 l3 g3 (C8 (AE9 rfl l4 rfl (Nat.le_refl _) (Nat.le_refl _)) (C8 (AE9 rfl l5 rfl (Nat.le_refl _) (Nat.le_refl _)) (C8 (K8 rfl) F8)))
  (F5 hs l4 g4 rfl G9 (F5 hs l5 g5 rfl I7 (AD6 hs l6 g6 rfl K3 (F5 hs l7 g7 rfl J4
  (I4 l8 g8 (C8 (R4 (i:=h) rfl l9) (C8 (K8 rfl) (C8 (K8 rfl) (C8 (M8 hs J3) F8)))) (F5 hs l9 g9 rfl H8
  (I4 l10 g10 (C8 (R4 (i:=g) rfl l7) (C8 (R4 (i:=o) rfl l0) (C8 (R4 (i:=h) rfl l9) (C8 (R4 (i:=j) rfl l8) F8)))) J8))))))))))
structure Ag5 (x:Ax) (q:Bk) (t:TS) (q':Bk) (t':TS):Prop where
 out:AT8 Tryz.prog G0 42 [.ptr 10 0,.agg (acE x)] (stN q t 0 1 2 3 4 5 6 7 8 9 10) 11 fun z h1=>z = .bool true∧h1=⟨stN q' t' 0 1 2 3 4 5 6 7 8 9 10,11⟩
set_option maxRecDepth 20000 in
theorem cx_T {x:Ax} {q q':Bk} {t t':TS} {o i a b c d e g j h y nx:Nat} {l:List (Nat × AObj)} {K:AV→Hp→Prop} (hc:Ag5 x q t q' t')
  (g0:lk l o=some (.cells [.ptr i 0])) (g1:lk l i=some (.cells [.ptr a 0,.ptr g 0,.int .i64 (q.a:Nat),.int .i64 (q.n:Nat)])) (g2:lk l a=some (.cells (tabC b e t.C))) (g3:lk l b=some (.cells [.sl c 0 t.n t.n 7,.sl d 0 t.m t.m 3,.int .i64 (t.S.fr:Nat)])) (g4:lk l c=some (.cells (D6 t.n t.V t.W t.V3 t.V4 t.S.L t.S.N t.S.P))) (g5:lk l d=some (.cells (N9 t.m t.S.A t.S.B t.S.C))) (g6:lk l e=some (.maps (t.E.map AK9))) (g7:lk l g=some (.cells q.s.a)) (g8:lk l j=some (.cells [.ptr h 0,.int .i64 (q.a:Nat),.int .i64 (q.n:Nat),.isl (q.L.map vwC)])) (g9:lk l h=some (.cells q.s.b)) (g10:lk l y=some (.cells [.ptr g 0,.ptr o 0,.ptr h 0,.ptr j 0]))
  (hlt:o < nx∧i < nx∧a < nx∧b < nx∧c < nx∧d < nx∧e < nx∧g < nx∧j < nx∧h < nx∧y < nx) (hd:Aa8 [o,i,a,b,c,d,e,g,j,h,y]=true)
  (hk:AJ5 [o,i,a,b,c,d,e,g,j,h,y] l fun l2=>K (.bool true) ⟨([(o,.cells [.ptr i 0]),(i,.cells [.ptr a 0,.ptr g 0,.int .i64 (q'.a:Nat),.int .i64 (q'.n:Nat)]),(a,.cells (tabC b e t'.C)),(b,.cells [.sl c 0 t'.n t'.n 7,.sl d 0 t'.m t'.m 3,.int .i64 (t'.S.fr:Nat)]),(c,.cells (D6 t'.n t'.V t'.W t'.V3 t'.V4 t'.S.L t'.S.N t'.S.P)),(d,.cells (N9 t'.m t'.S.A t'.S.B t'.S.C)),(e,.maps (t'.E.map AK9)),(g,.cells q'.s.a),(j,.cells [.ptr h 0,.int .i64 (q'.a:Nat),.int .i64 (q'.n:Nat),.isl (q'.L.map vwC)]),(h,.cells q'.s.b),(y,.cells [.ptr g 0,.ptr o 0,.ptr h 0,.ptr j 0])]:List (Nat × AObj))++l2,nx⟩):AG9 Tryz.prog G0 (.fn 42 [] []) [.ptr y 0,.agg (acE x)] ⟨l,nx⟩ K:=by
 have e0:enter [o,i,a,b,c,d,e,g,j,h,y] o 0:=rfl
 have e1:enter [o,i,a,b,c,d,e,g,j,h,y] i 1:=rfl
 have e2:enter [o,i,a,b,c,d,e,g,j,h,y] a 2:=rfl
 have e3:enter [o,i,a,b,c,d,e,g,j,h,y] b 3:=rfl
 have e4:enter [o,i,a,b,c,d,e,g,j,h,y] c 4:=rfl
 have e5:enter [o,i,a,b,c,d,e,g,j,h,y] d 5:=rfl
 have e6:enter [o,i,a,b,c,d,e,g,j,h,y] e 6:=rfl
 have e7:enter [o,i,a,b,c,d,e,g,j,h,y] g 7:=rfl
 have e8:enter [o,i,a,b,c,d,e,g,j,h,y] j 8:=rfl
 have e9:enter [o,i,a,b,c,d,e,g,j,h,y] h 9:=rfl
 have e10:enter [o,i,a,b,c,d,e,g,j,h,y] y 10:=rfl
 have k0:back [o,i,a,b,c,d,e,g,j,h,y] nx 0 o:=rfl
 have k1:back [o,i,a,b,c,d,e,g,j,h,y] nx 1 i:=rfl
 have k2:back [o,i,a,b,c,d,e,g,j,h,y] nx 2 a:=rfl
 have k3:back [o,i,a,b,c,d,e,g,j,h,y] nx 3 b:=rfl
 have k4:back [o,i,a,b,c,d,e,g,j,h,y] nx 4 c:=rfl
 have k5:back [o,i,a,b,c,d,e,g,j,h,y] nx 5 d:=rfl
 have k6:back [o,i,a,b,c,d,e,g,j,h,y] nx 6 e:=rfl
 have k7:back [o,i,a,b,c,d,e,g,j,h,y] nx 7 g:=rfl
 have k8:back [o,i,a,b,c,d,e,g,j,h,y] nx 8 j:=rfl
 have k9:back [o,i,a,b,c,d,e,g,j,h,y] nx 9 h:=rfl
 have k10:back [o,i,a,b,c,d,e,g,j,h,y] nx 10 y:=rfl
 refine AG2 (l1:=stN q' t' o i a b c d e g j h y) [o,i,a,b,c,d,e,g,j,h,y] hc.out F3 hd
  (.cons e0 g0 ⟨F9 e1,trivial⟩ (.cons e1 g1 ⟨F9 e2,F9 e7,C9 A8,C9 A8,trivial⟩ (.cons e2 g2 (AD9 e3 e6) (.cons e3 g3 ⟨W9 e4,W9 e5,C9 A8,trivial⟩ (.cons e4 g4 R8 (.cons e5 g5 Y1 (.maps e6 g6 K3 (.cons e7 g7 (D5 J4) (.cons e8 g8 ⟨F9 e9,C9 A8,C9 A8,C9 J3,trivial⟩ (.cons e9 g9 (D5 H8) (.cons e10 g10 ⟨F9 e7,F9 e0,F9 e9,F9 e8,trivial⟩ .nil)))))))))))
  ?_ (by intro x hx;simp only [List.mem_cons,List.not_mem_nil,or_false] at hx;omega) (C9 A9)
  (.cons k0 ⟨F9 k1,trivial⟩ (.cons k1 ⟨F9 k2,F9 k7,C9 A8,C9 A8,trivial⟩ (.cons k2 (AD9 k3 k6) (.cons k3 ⟨W9 k4,W9 k5,C9 A8,trivial⟩ (.cons k4 R8 (.cons k5 Y1 (.maps k6 K3 (.cons k7 (D5 J4) (.cons k8 ⟨F9 k9,C9 A8,C9 A8,C9 J3,trivial⟩ (.cons k9 (D5 H8) (.cons k10 ⟨F9 k7,F9 k0,F9 k9,F9 k8,trivial⟩ .nil))))))))))) hk
 simp only [List.nil_append,List.append_nil]
 exact ⟨F9 e10,C9 (AX9 x),trivial⟩
structure BQ4 (x:Ax) (q:Bk) (t:TS) (q':Bk) (t':TS):Prop where
 out:AT8 Tryz.prog G0 42 [.ptr 10 0,.agg (acE x)] (stN q t 0 1 2 3 4 5 6 7 8 9 10) 11 fun z h1=>z = .bool true∧h1=⟨stN q' t' 11 12 13 14 15 16 17 7 8 9 10,18⟩
set_option maxRecDepth 20000 in
theorem cx_TB {x:Ax} {q q':Bk} {t t':TS} {o i a b c d e g j h y nx:Nat} {l:List (Nat × AObj)} {K:AV→Hp→Prop} (hc:BQ4 x q t q' t')
  (g0:lk l o=some (.cells [.ptr i 0])) (g1:lk l i=some (.cells [.ptr a 0,.ptr g 0,.int .i64 (q.a:Nat),.int .i64 (q.n:Nat)])) (g2:lk l a=some (.cells (tabC b e t.C))) (g3:lk l b=some (.cells [.sl c 0 t.n t.n 7,.sl d 0 t.m t.m 3,.int .i64 (t.S.fr:Nat)])) (g4:lk l c=some (.cells (D6 t.n t.V t.W t.V3 t.V4 t.S.L t.S.N t.S.P))) (g5:lk l d=some (.cells (N9 t.m t.S.A t.S.B t.S.C))) (g6:lk l e=some (.maps (t.E.map AK9))) (g7:lk l g=some (.cells q.s.a)) (g8:lk l j=some (.cells [.ptr h 0,.int .i64 (q.a:Nat),.int .i64 (q.n:Nat),.isl (q.L.map vwC)])) (g9:lk l h=some (.cells q.s.b)) (g10:lk l y=some (.cells [.ptr g 0,.ptr o 0,.ptr h 0,.ptr j 0]))
  (hlt:o < nx∧i < nx∧a < nx∧b < nx∧c < nx∧d < nx∧e < nx∧g < nx∧j < nx∧h < nx∧y < nx) (hd:Aa8 [o,i,a,b,c,d,e,g,j,h,y]=true)
  (hk:AJ5 [o,i,a,b,c,d,e,g,j,h,y] l fun l2=>K (.bool true) ⟨([(nx,.cells [.ptr (nx+1) 0]),((nx+1),.cells [.ptr (nx+2) 0,.ptr g 0,.int .i64 (q'.a:Nat),.int .i64 (q'.n:Nat)]),((nx+2),.cells (tabC (nx+3) (nx+6) t'.C)),((nx+3),.cells [.sl (nx+4) 0 t'.n t'.n 7,.sl (nx+5) 0 t'.m t'.m 3,.int .i64 (t'.S.fr:Nat)]),((nx+4),.cells (D6 t'.n t'.V t'.W t'.V3 t'.V4 t'.S.L t'.S.N t'.S.P)),((nx+5),.cells (N9 t'.m t'.S.A t'.S.B t'.S.C)),((nx+6),.maps (t'.E.map AK9)),(g,.cells q'.s.a),(j,.cells [.ptr h 0,.int .i64 (q'.a:Nat),.int .i64 (q'.n:Nat),.isl (q'.L.map vwC)]),(h,.cells q'.s.b),(y,.cells [.ptr g 0,.ptr nx 0,.ptr h 0,.ptr j 0])]:List (Nat × AObj))++l2,nx+7⟩):AG9 Tryz.prog G0 (.fn 42 [] []) [.ptr y 0,.agg (acE x)] ⟨l,nx⟩ K:=by
 have e0:enter [o,i,a,b,c,d,e,g,j,h,y] o 0:=rfl
 have e1:enter [o,i,a,b,c,d,e,g,j,h,y] i 1:=rfl
 have e2:enter [o,i,a,b,c,d,e,g,j,h,y] a 2:=rfl
 have e3:enter [o,i,a,b,c,d,e,g,j,h,y] b 3:=rfl
 have e4:enter [o,i,a,b,c,d,e,g,j,h,y] c 4:=rfl
 have e5:enter [o,i,a,b,c,d,e,g,j,h,y] d 5:=rfl
 have e6:enter [o,i,a,b,c,d,e,g,j,h,y] e 6:=rfl
 have e7:enter [o,i,a,b,c,d,e,g,j,h,y] g 7:=rfl
 have e8:enter [o,i,a,b,c,d,e,g,j,h,y] j 8:=rfl
 have e9:enter [o,i,a,b,c,d,e,g,j,h,y] h 9:=rfl
 have e10:enter [o,i,a,b,c,d,e,g,j,h,y] y 10:=rfl
 have k0:back [o,i,a,b,c,d,e,g,j,h,y] nx 11 nx:=rfl
 have k1:back [o,i,a,b,c,d,e,g,j,h,y] nx 12 (nx+1):=rfl
 have k2:back [o,i,a,b,c,d,e,g,j,h,y] nx 13 (nx+2):=rfl
 have k3:back [o,i,a,b,c,d,e,g,j,h,y] nx 14 (nx+3):=rfl
 have k4:back [o,i,a,b,c,d,e,g,j,h,y] nx 15 (nx+4):=rfl
 have k5:back [o,i,a,b,c,d,e,g,j,h,y] nx 16 (nx+5):=rfl
 have k6:back [o,i,a,b,c,d,e,g,j,h,y] nx 17 (nx+6):=rfl
 have k7:back [o,i,a,b,c,d,e,g,j,h,y] nx 7 g:=rfl
 have k8:back [o,i,a,b,c,d,e,g,j,h,y] nx 8 j:=rfl
 have k9:back [o,i,a,b,c,d,e,g,j,h,y] nx 9 h:=rfl
 have k10:back [o,i,a,b,c,d,e,g,j,h,y] nx 10 y:=rfl
 refine AG2 (l1:=stN q' t' nx (nx+1) (nx+2) (nx+3) (nx+4) (nx+5) (nx+6) g j h y) [o,i,a,b,c,d,e,g,j,h,y] hc.out F3 hd
  (.cons e0 g0 ⟨F9 e1,trivial⟩ (.cons e1 g1 ⟨F9 e2,F9 e7,C9 A8,C9 A8,trivial⟩ (.cons e2 g2 (AD9 e3 e6) (.cons e3 g3 ⟨W9 e4,W9 e5,C9 A8,trivial⟩ (.cons e4 g4 R8 (.cons e5 g5 Y1 (.maps e6 g6 K3 (.cons e7 g7 (D5 J4) (.cons e8 g8 ⟨F9 e9,C9 A8,C9 A8,C9 J3,trivial⟩ (.cons e9 g9 (D5 H8) (.cons e10 g10 ⟨F9 e7,F9 e0,F9 e9,F9 e8,trivial⟩ .nil)))))))))))
  ?_ (by intro x hx;simp only [List.mem_cons,List.not_mem_nil,or_false] at hx;omega) (C9 A9)
  (.cons k0 ⟨F9 k1,trivial⟩ (.cons k1 ⟨F9 k2,F9 k7,C9 A8,C9 A8,trivial⟩ (.cons k2 (AD9 k3 k6) (.cons k3 ⟨W9 k4,W9 k5,C9 A8,trivial⟩ (.cons k4 R8 (.cons k5 Y1 (.maps k6 K3 (.cons k7 (D5 J4) (.cons k8 ⟨F9 k9,C9 A8,C9 A8,C9 J3,trivial⟩ (.cons k9 (D5 H8) (.cons k10 ⟨F9 k7,F9 k0,F9 k9,F9 k8,trivial⟩ .nil))))))))))) hk
 simp only [List.nil_append,List.append_nil]
 exact ⟨F9 e10,C9 (AX9 x),trivial⟩
theorem Af7 {f:Nat} {avs:List AV} {q q':Bk} {t t':TS} {o i a b c d e g:Nat} {h:Hp} {r:AV} {K:AV→Up→List Nat→Prop} (hc:AJ1 f 0 avs q t r q' t')
  (g0:lk h.l o=some (.cells [.ptr i 0])) (g1:lk h.l i=some (.cells [.ptr a 0,.ptr g 0,.int .i64 (q.a:Nat),.int .i64 (q.n:Nat)])) (g2:lk h.l a=some (.cells (tabC b e t.C))) (g3:lk h.l b=some (.cells [.sl c 0 t.n t.n 7,.sl d 0 t.m t.m 3,.int .i64 (t.S.fr:Nat)])) (g4:lk h.l c=some (.cells (D6 t.n t.V t.W t.V3 t.V4 t.S.L t.S.N t.S.P))) (g5:lk h.l d=some (.cells (N9 t.m t.S.A t.S.B t.S.C))) (g6:lk h.l e=some (.maps (t.E.map AK9))) (g7:lk h.l g=some (.cells q.s.a))
  (hd:Aa8 [o,i,a,b,c,d,e,g]=true) (hnx':[o,i,a,b,c,d,e,g].contains h.next=false)
  (hk:K r [(o,some (.cells [.ptr i 0])),(i,some (.cells [.ptr a 0,.ptr g 0,.int .i64 (q'.a:Nat),.int .i64 (q'.n:Nat)])),(a,some (.cells (tabC b e t'.C))),(b,some (.cells [.sl c 0 t'.n t'.n 7,.sl d 0 t'.m t'.m 3,.int .i64 (t'.S.fr:Nat)])),(c,some (.cells (D6 t'.n t'.V t'.W t'.V3 t'.V4 t'.S.L t'.S.N t'.S.P))),(d,some (.cells (N9 t'.m t'.S.A t'.S.B t'.S.C))),(e,some (.maps (t'.E.map AK9))),(g,some (.cells q'.s.a))] [o,i,a,b,c,d,e,g]):AP8 Tryz.prog G0 f (.ptr o 0::avs) h K:=by
 have hnx:h.next ∉ [o,i,a,b,c,d,e,g]:=fun hm=>by rw [List.contains_eq_mem,decide_eq_false_iff_not] at hnx';exact hnx' hm
 have e0:enter [o,i,a,b,c,d,e,g] o 0:=rfl
 have e1:enter [o,i,a,b,c,d,e,g] i 1:=rfl
 have e2:enter [o,i,a,b,c,d,e,g] a 2:=rfl
 have e3:enter [o,i,a,b,c,d,e,g] b 3:=rfl
 have e4:enter [o,i,a,b,c,d,e,g] c 4:=rfl
 have e5:enter [o,i,a,b,c,d,e,g] d 5:=rfl
 have e6:enter [o,i,a,b,c,d,e,g] e 6:=rfl
 have e7:enter [o,i,a,b,c,d,e,g] g 7:=rfl
 have k0:S9 [o,i,a,b,c,d,e,g] 0 o:=rfl
 have k1:S9 [o,i,a,b,c,d,e,g] 1 i:=rfl
 have k2:S9 [o,i,a,b,c,d,e,g] 2 a:=rfl
 have k3:S9 [o,i,a,b,c,d,e,g] 3 b:=rfl
 have k4:S9 [o,i,a,b,c,d,e,g] 4 c:=rfl
 have k5:S9 [o,i,a,b,c,d,e,g] 5 d:=rfl
 have k6:S9 [o,i,a,b,c,d,e,g] 6 e:=rfl
 have k7:S9 [o,i,a,b,c,d,e,g] 7 g:=rfl
 refine Ab3 (l1:=bkN q' t' o i a b c d e g) [o,i,a,b,c,d,e,g] hc.out F3 hd
  (.cons e0 g0 ⟨F9 e1,trivial⟩ (.cons e1 g1 ⟨F9 e2,F9 e7,C9 A8,C9 A8,trivial⟩ (.cons e2 g2 (AD9 e3 e6) (.cons e3 g3 ⟨W9 e4,W9 e5,C9 A8,trivial⟩ (.cons e4 g4 R8 (.cons e5 g5 Y1 (.maps e6 g6 K3 (.cons e7 g7 (D5 J4) .nil))))))))
  hnx ?_ ?_ ⟨F9 e0,D5 hc.pa⟩ (C9 hc.pr)
  (.cons k0 ⟨F9 k1,trivial⟩ (.cons k1 ⟨F9 k2,F9 k7,C9 A8,C9 A8,trivial⟩ (.cons k2 (AD9 k3 k6) (.cons k3 ⟨W9 k4,W9 k5,C9 A8,trivial⟩ (.cons k4 R8 (.cons k5 Y1 (.maps k6 K3 (.cons k7 (D5 J4) .nil)))))))) hk
 ·intro x hx
  simp only [bkN,rdN,lk]
  repeat' split
  all_goals first|exact ⟨_,rfl⟩|(exfalso;simp only [List.mem_cons,List.not_mem_nil,or_false] at hx;omega)
 ·intro j x hx
  have : j < 8:=(List.getElem?_eq_some_iff.1 hx).1
  simp only [bkN,rdN,lk]
  repeat' split
  all_goals first|exact ⟨_,rfl⟩|(exfalso;omega)
theorem BO3 {f:Nat} {avs:List AV} {q q':Bk} {r:AV} {o g:Nat} {h:Hp} {K:AV→Up→List Nat→Prop} (hc:AK3 f avs q r q')
  (h0:lk h.l o=some (.cells [.ptr g 0,.int .i64 (q.a:Nat),.int .i64 (q.n:Nat),.isl (q.L.map vwC)])) (h1:lk h.l g=some (.cells q.s.b))
  (hd:Aa8 [o,g]=true) (hnx':[o,g].contains h.next=false)
  (hk:K r [(o,some (.cells [.ptr g 0,.int .i64 (q'.a:Nat),.int .i64 (q'.n:Nat),.isl (q'.L.map vwC)])),(g,some (.cells q'.s.b))] [o,g]):AP8 Tryz.prog G0 f (.ptr o 0::avs) h K:=by
 have hnx:h.next ∉ [o,g]:=fun hm=>by rw [List.contains_eq_mem,decide_eq_false_iff_not] at hnx';exact hnx' hm
 have e0:enter [o,g] o 0:=rfl
 have e1:enter [o,g] g 1:=rfl
 have k0:S9 [o,g] 0 o:=rfl
 have k1:S9 [o,g] 1 g:=rfl
 refine Ab3 (l1:=bdN q' o g) [o,g] hc.out F3 hd
  (.cons e0 h0 ⟨F9 e1,C9 A8,C9 A8,C9 J3,trivial⟩ (.cons e1 h1 (D5 H8) .nil))
  hnx ?_ ?_ ⟨F9 e0,D5 hc.pa⟩ (C9 hc.pr)
  (.cons k0 ⟨F9 k1,C9 A8,C9 A8,C9 J3,trivial⟩ (.cons k1 (D5 H8) .nil)) hk
 ·intro x hx
  simp only [bdN,lk]
  repeat' split
  all_goals first|exact ⟨_,rfl⟩|(exfalso;simp only [List.mem_cons,List.not_mem_nil,or_false] at hx;omega)
 ·intro j x hx
  have : j < 2:=(List.getElem?_eq_some_iff.1 hx).1
  simp only [bdN,lk]
  repeat' split
  all_goals first|exact ⟨_,rfl⟩|(exfalso;omega)
theorem k_sameI {l:List Int} (hl:l.length≤4000):E5 107 [.isl (l.map Ab7),.isl (l.map Ab7)] (.bool true):=by
 refine E5.mk (I5 D9 b107 F3 ⟨AF3,AF3,trivial⟩ A9 rfl ?_)
 unfold c107
 (refine wx_Pg ?_;repeat' (first|with_reducible refine And.intro ?_ ?_|intro hsp))
 (refine H9 [0,1] (fun (i:Nat)=>[(5,.int .i64 (i:Nat))]) (fun (i:Nat)=>⟨[],0⟩) (fun (i:Nat)=>i≤l.length) (fun (i:Nat)=>l.length - i) (0) [] rfl (fun _=>by first|exact Nat.zero_le _|(dsimp only;omega)) ?_ (by ((try (conv=>whnf));exact V8)) ?_)
 ·exact Nat.zero_le _
 intro i hi
 by_cases hil:i < l.length
 ·obtain ⟨x,hx⟩:∃ x:Int,nth 0 l i=x:=⟨_,rfl⟩
  (refine wx_Pg ?_;repeat' (first|with_reducible refine And.intro ?_ ?_|intro hsp))
  all_goals first|(exfalso;omega)|exact D8 (i+1) [] (by (try dsimp only);omega) (by first|omega|(dsimp only;omega)) rfl (by exact V8)
 ·obtain rfl:i=l.length:=by omega
  (refine wx_Pg ?_;repeat' (first|with_reducible refine And.intro ?_ ?_|intro hsp))
  all_goals first|exact J7 (by simp)|(exfalso;omega)
theorem k_sameN:E5 107 [.nils,.nils] (.bool true):=by
 refine E5.mk (I5 D9 b107 F3 ⟨AA6,AA6,trivial⟩ A9 rfl ?_)
 unfold c107
 (refine wx_Pg ?_;repeat' (first|with_reducible refine And.intro ?_ ?_|intro hsp))
 (refine H9 [0,1] (fun (i:Nat)=>[(5,.int .i64 (i:Nat))]) (fun (i:Nat)=>⟨[],0⟩) (fun (i:Nat)=>i=0) (fun (i:Nat)=>0) (0) [] rfl (fun _=>by first|exact Nat.zero_le _|(dsimp only;omega)) ?_ (by ((try (conv=>whnf));exact V8)) ?_)
 ·rfl
 rintro i rfl
 (refine wx_Pg ?_;repeat' (first|with_reducible refine And.intro ?_ ?_|intro hsp))
 all_goals first|exact J7 rfl|(exfalso;omega)
end Go.Proofs.YtphggldkligldaaGreat.Sh
namespace Go.Pol
open Go.Am
def Bk.run (b:Bk) (X:List Ax):Nat→Bk
 | 0=>b
 | k+1=>((b.run X k).al (nth dA X k)).2
theorem run_good {b:Bk} {X:List Ax} (g:K6 b):∀ k,K6 (b.run X k)
 | 0=>g
 | k+1=>call_good (run_good g k) ..
end Go.Pol
namespace Go.Proofs.YtphggldkligldaaGreat.Sh
open Go Go.Am Go.Pol
theorem py_good {p:Py} (h1:(AE7 p.l).2=0) (h2:stat p.a p.n) (h3:((Sy.new p.l).chg p.a p.n 0 1 0).1=0):K6 p.b∧OutB p.b∧OwnB p.b∧ByS p.b.s∧(p.l=[]→Aw1 p.b) :=
 new_book h1 ⟨h2.1,h2.2.2.1,by have:=h2.2.2.2;omega⟩ h3 p.b rfl
end Go.Proofs.YtphggldkligldaaGreat.Sh
namespace Go.Proofs.YtphggldkligldaaGreat.Sh
open Go Go.Am Go.Pol
theorem plx_Ka {p:Prop} (h:p:=by ((first|exact plw|(with_reducible first|apply O4|apply M5|apply J3|apply u6|apply z8|apply AB2|apply P5|apply AF3|apply M9|apply X0|apply AX9 _|apply AA5|apply plain_sn0|fail)|fail);first|done|fail)):p:=h
theorem ppx_Ka {p:Prop} (h:p:=by ((first|with_reducible assumption|(with_reducible first|apply G9|apply I7|apply V6|apply T9 _ _|apply X9|apply AM9|apply J4|apply H8|apply AQ7|apply AT4|apply K7 AE4|apply AY7 _|apply hy|fail)|exact ppw|fail);first|done|fail)):p:=h
open Go.Proofs.YtphggldkligldaaGreat.Sh renaming plx_Ka → plx
open Go.Proofs.YtphggldkligldaaGreat.Sh renaming ppx_Ka → ppx
theorem wx_Ka {p q:Prop} (hq:q) (h:R7 q→p:=by (intro hQz;((repeat' ((try (conv=>whnf));first|refine sxA ?_|refine J2 h0 ?_|refine sxF ?_|refine G7 h ?_|(refine O6 D9 b51 rfl ?_;unfold c51)|(refine O6 D9 b30 rfl ?_;unfold c30)|(refine O6 D9 b31 rfl ?_;unfold c31)|(refine O6 D9 b32 rfl ?_;unfold c32)|(refine O6 D9 b16 rfl ?_;unfold c16)|(refine O6 D9 b33 rfl ?_;unfold c33)|(refine O6 D9 b34 rfl ?_;unfold c34)|(refine O6 D9 b35 rfl ?_;unfold c35)|(refine O6 D9 b36 rfl ?_;unfold c36)|(refine O6 D9 b37 rfl ?_;unfold c37)|(refine O6 D9 b27 rfl ?_;unfold c27)|refine G7 hs ?_|(refine O6 D9 b38 rfl ?_;unfold c38)|(refine O6 D9 b24 rfl ?_;unfold c24)|(refine O6 D9 b39 rfl ?_;unfold c39)|(refine O6 D9 b82 rfl ?_;unfold c82)|refine G7 hsh ?_|refine sxH ?_|((with_reducible first|apply L8 hQz|apply L9 hQz)<;>(try intro hsp hQz))|exact hQz.out))<;>(try (conv=>whnf))))):p:=h ⟨hq⟩
theorem plain_sn0:Plain (.agg [.int .i64 0,.int .i64 0,.nils]):=P9 fun x hx=>by
 simp only [List.mem_cons,List.not_mem_nil,or_false] at hx
 rcases hx with rfl|rfl|rfl<;>first|exact A8|exact AA6
theorem k_same {a n:Int} {L:List Vw} (hl:L.length≤4000):E5 26 [.agg [.int .i64 a,.int .i64 n,.isl (L.map vwC)],.agg [.int .i64 a,.int .i64 n,.isl (L.map vwC)]] (.bool true):=by
 have h:=q_same hl
 refine E5.mk (I5 D9 b26 F3 ⟨AA5,AA5,trivial⟩ A9 rfl ?_)
 unfold c26
 (refine wx_Ka ?_;repeat' (first|with_reducible refine And.intro ?_ ?_|intro hsp))
 all_goals first|exact J7 rfl|(exfalso;omega)
end Go.Proofs.YtphggldkligldaaGreat.Sh
