/-
 SnapshotBytes: the memory of what spaces have.
-/
import Derived.Test.YtphggldkligldaaGreatQau
set_option linter.unusedSimpArgs false
set_option linter.unusedVariables false
set_option maxHeartbeats 1600000
namespace Go.Pol
open Go.Am
def hsN (H:Nat→Nat→Int) (o c0 c1 c2 c3 c4 c5 c6 c7:Nat):List (Nat × AObj):=[(o,.cells [.sl c0 0 65536 65536 1,.sl c1 0 65536 65536 1,.sl c2 0 65536 65536 1,.sl c3 0 65536 65536 1,.sl c4 0 65536 65536 1,.sl c5 0 65536 65536 1,.sl c6 0 65536 65536 1,.sl c7 0 65536 65536 1]),(c0,.cells (hsC (H 0))),(c1,.cells (hsC (H 1))),(c2,.cells (hsC (H 2))),(c3,.cells (hsC (H 3))),(c4,.cells (hsC (H 4))),(c5,.cells (hsC (H 5))),(c6,.cells (hsC (H 6))),(c7,.cells (hsC (H 7)))]
def AD8 (H:Nat→Nat→Int) (a:Nat) (g:Nat→Int):Nat→Nat→Int:=fun k=>if k=a then g else H k
def stF (f:Nat→Int) (k:Nat) (v:Int) (j:Nat):Nat→Int:=fun p=>if p / 64=k∧p % 64 < j then v else f p
theorem AQ2 {f:Nat→Int} {k:Nat} {v:Int}:hsC (stF f k v 0)=hsC f:=AN1 fun p _=>by unfold stF;rw [if_neg (by omega)]
theorem Ap1 {f:Nat→Int} {k j i:Nat} {v:Int} (hi:i=k * 64+j) (hj:j < 64):(hsC (stF f k v j)).set i (.int .i16 v)=hsC (stF f k v (j+1)):=by
 subst hi
 rw [Ah1]
 refine AN1 fun p _=>?_
 unfold stF
 by_cases e:p=k * 64+j
 ·subst e;rw [if_pos rfl,if_pos ⟨by omega,by omega⟩]
 ·rw [if_neg e]
  by_cases h:p / 64=k∧p % 64 < j
  ·rw [if_pos h,if_pos ⟨h.1,by omega⟩]
  ·rw [if_neg h,if_neg fun h2=>h ⟨h2.1,by omega⟩]
theorem Ab0 {f:Nat→Int} {k j:Nat} {v:Int} (hj:j < 64):∃ g,(hsC (stF f k v j)).set (k * 64+j) (.int .i16 0)=hsC g∧(hsC g).set (k * 64+j) (.int .i16 v)=hsC (stF f k v (j+1)):=by
 refine ⟨_,Ah1,?_⟩
 rw [← Ah1,List.set_set,Ap1 rfl hj]
theorem j5 {f:Nat→Int} {k:Nat} {v:Int}:hsC (stF f k v 64)=hsC fun p=>if p / 64=k then v else f p:=AN1 fun p _=>by
 unfold stF
 by_cases h:p / 64=k
 ·rw [if_pos h,if_pos ⟨h,Nat.mod_lt _ (by decide)⟩]
 ·rw [if_neg h,if_neg fun h2=>h h2.1]
end Go.Pol
namespace Go.Proofs.YtphggldkligldaaGreat.Sh
open Go Go.Am Go.Pol
structure AD2 (x:Ax) (H H':Nat→Nat→Int) (n c0 c1 c2 c3 c4 c5 c6 c7:Nat):Prop where
 out:AQ1 Tryz.prog G0 15 [.sl 0 0 8 8 1,.agg (acE x)] (hsN H 0 1 2 3 4 5 6 7 8) 9 fun z h1=>z = .bool true∧h1=⟨hsN H' 0 c0 c1 c2 c3 c4 c5 c6 c7,n⟩
theorem cx_F {x:Ax} {H H':Nat→Nat→Int} {m o c0 c1 c2 c3 c4 c5 c6 c7 c0' c1' c2' c3' c4' c5' c6' c7' d0 d1 d2 d3 d4 d5 d6 d7 nx:Nat} {l:List (Nat × AObj)} {K:AV→Hp→Prop} (hc:AD2 x H H' (9+m) c0' c1' c2' c3' c4' c5' c6' c7')
  (g0:lk l o=some (.cells [.sl c0 0 65536 65536 1,.sl c1 0 65536 65536 1,.sl c2 0 65536 65536 1,.sl c3 0 65536 65536 1,.sl c4 0 65536 65536 1,.sl c5 0 65536 65536 1,.sl c6 0 65536 65536 1,.sl c7 0 65536 65536 1])) (g1:lk l c0=some (.cells (hsC (H 0)))) (g2:lk l c1=some (.cells (hsC (H 1)))) (g3:lk l c2=some (.cells (hsC (H 2)))) (g4:lk l c3=some (.cells (hsC (H 3)))) (g5:lk l c4=some (.cells (hsC (H 4)))) (g6:lk l c5=some (.cells (hsC (H 5)))) (g7:lk l c6=some (.cells (hsC (H 6)))) (g8:lk l c7=some (.cells (hsC (H 7))))
  (hlt:o < nx∧c0 < nx∧c1 < nx∧c2 < nx∧c3 < nx∧c4 < nx∧c5 < nx∧c6 < nx∧c7 < nx) (hd:AY6 [o,c0,c1,c2,c3,c4,c5,c6,c7]=true) (k1:back [o,c0,c1,c2,c3,c4,c5,c6,c7] nx c0' d0) (k2:back [o,c0,c1,c2,c3,c4,c5,c6,c7] nx c1' d1) (k3:back [o,c0,c1,c2,c3,c4,c5,c6,c7] nx c2' d2) (k4:back [o,c0,c1,c2,c3,c4,c5,c6,c7] nx c3' d3) (k5:back [o,c0,c1,c2,c3,c4,c5,c6,c7] nx c4' d4) (k6:back [o,c0,c1,c2,c3,c4,c5,c6,c7] nx c5' d5) (k7:back [o,c0,c1,c2,c3,c4,c5,c6,c7] nx c6' d6) (k8:back [o,c0,c1,c2,c3,c4,c5,c6,c7] nx c7' d7)
  (hk:AG1 [o,c0,c1,c2,c3,c4,c5,c6,c7] l fun l2=>K (.bool true) ⟨([(o,.cells [.sl d0 0 65536 65536 1,.sl d1 0 65536 65536 1,.sl d2 0 65536 65536 1,.sl d3 0 65536 65536 1,.sl d4 0 65536 65536 1,.sl d5 0 65536 65536 1,.sl d6 0 65536 65536 1,.sl d7 0 65536 65536 1]),(d0,.cells (hsC (H' 0))),(d1,.cells (hsC (H' 1))),(d2,.cells (hsC (H' 2))),(d3,.cells (hsC (H' 3))),(d4,.cells (hsC (H' 4))),(d5,.cells (hsC (H' 5))),(d6,.cells (hsC (H' 6))),(d7,.cells (hsC (H' 7)))]:List (Nat × AObj))++l2,nx+m⟩):AB8 Tryz.prog G0 (.fn 15 [] []) [.sl o 0 8 8 1,.agg (acE x)] ⟨l,nx⟩ K:=by
 have e0:enter [o,c0,c1,c2,c3,c4,c5,c6,c7] o 0:=rfl
 have e1:enter [o,c0,c1,c2,c3,c4,c5,c6,c7] c0 1:=rfl
 have e2:enter [o,c0,c1,c2,c3,c4,c5,c6,c7] c1 2:=rfl
 have e3:enter [o,c0,c1,c2,c3,c4,c5,c6,c7] c2 3:=rfl
 have e4:enter [o,c0,c1,c2,c3,c4,c5,c6,c7] c3 4:=rfl
 have e5:enter [o,c0,c1,c2,c3,c4,c5,c6,c7] c4 5:=rfl
 have e6:enter [o,c0,c1,c2,c3,c4,c5,c6,c7] c5 6:=rfl
 have e7:enter [o,c0,c1,c2,c3,c4,c5,c6,c7] c6 7:=rfl
 have e8:enter [o,c0,c1,c2,c3,c4,c5,c6,c7] c7 8:=rfl
 have k0:back [o,c0,c1,c2,c3,c4,c5,c6,c7] nx 0 o:=rfl
 refine AA9 (l1:=hsN H' o d0 d1 d2 d3 d4 d5 d6 d7) [o,c0,c1,c2,c3,c4,c5,c6,c7] hc.out I7 hd
  (.cons e0 g0 ⟨J7 e1,J7 e2,J7 e3,J7 e4,J7 e5,J7 e6,J7 e7,J7 e8,trivial⟩ (.cons e1 g1 (C8 H7) (.cons e2 g2 (C8 H7) (.cons e3 g3 (C8 H7) (.cons e4 g4 (C8 H7) (.cons e5 g5 (C8 H7) (.cons e6 g6 (C8 H7) (.cons e7 g7 (C8 H7) (.cons e8 g8 (C8 H7) .nil)))))))))
  ?_ (by intro x hx;simp only [List.mem_cons,List.not_mem_nil,or_false] at hx;omega) (D6 A9)
  (.cons k0 ⟨J7 k1,J7 k2,J7 k3,J7 k4,J7 k5,J7 k6,J7 k7,J7 k8,trivial⟩ (.cons k1 (C8 H7) (.cons k2 (C8 H7) (.cons k3 (C8 H7) (.cons k4 (C8 H7) (.cons k5 (C8 H7) (.cons k6 (C8 H7) (.cons k7 (C8 H7) (.cons k8 (C8 H7) .nil))))))))) ?_
 ·simp only [List.nil_append,List.append_nil]
  exact ⟨J7 e0,D6 (Ad2 x),trivial⟩
 ·have e:nx+(9+m - [o,c0,c1,c2,c3,c4,c5,c6,c7].length)=nx+m:=by show nx+(9+m - 9)=nx+m;omega
  rw [e]
  exact hk
theorem U3 {top:Bool} {h':Hp} {n:Nat} {x r:AV} {H:Nat→Nat→Int} (ren:List (Nat × Nat)) (c0 c1 c2 c3 c4 c5 c6 c7:Nat) (hkp:AV2 9 ren=true) (hm:9≤n) (hone:AY6 [(rn ren 0),(rn ren c0),(rn ren c1),(rn ren c2),(rn ren c3),(rn ren c4),(rn ren c5),(rn ren c6),(rn ren c7)]=true)
  (hlt:0 < n∧c0 < n∧c1 < n∧c2 < n∧c3 < n∧c4 < n∧c5 < n∧c6 < n∧c7 < n) (hr:x=r) (hp:Plain r) (g0:lk h'.l (rn ren 0)=some (.cells [.sl (rn ren c0) 0 65536 65536 1,.sl (rn ren c1) 0 65536 65536 1,.sl (rn ren c2) 0 65536 65536 1,.sl (rn ren c3) 0 65536 65536 1,.sl (rn ren c4) 0 65536 65536 1,.sl (rn ren c5) 0 65536 65536 1,.sl (rn ren c6) 0 65536 65536 1,.sl (rn ren c7) 0 65536 65536 1])) (g1:lk h'.l (rn ren c0)=some (.cells (hsC (H 0)))) (g2:lk h'.l (rn ren c1)=some (.cells (hsC (H 1)))) (g3:lk h'.l (rn ren c2)=some (.cells (hsC (H 2)))) (g4:lk h'.l (rn ren c3)=some (.cells (hsC (H 3)))) (g5:lk h'.l (rn ren c4)=some (.cells (hsC (H 4)))) (g6:lk h'.l (rn ren c5)=some (.cells (hsC (H 5)))) (g7:lk h'.l (rn ren c6)=some (.cells (hsC (H 6)))) (g8:lk h'.l (rn ren c7)=some (.cells (hsC (H 7)))) :
  AR3 top Tryz.prog 9 h' x (fun r' h2=>r'=r∧h2=⟨hsN H 0 c0 c1 c2 c3 c4 c5 c6 c7,n⟩):=by
 subst hr
 obtain ⟨l0,l1,l2,l3,l4,l5,l6,l7,l8⟩:=hlt
 have hs:AI3 (rn ren) h' ⟨hsN H 0 c0 c1 c2 c3 c4 c5 c6 c7,n⟩:=fun j x hi=>by
  simp only [hsN,lk] at hi
  split at hi
  ·rename_i e;subst e;exact ⟨_,g0⟩
  ·split at hi
   ·rename_i e;subst e;exact ⟨_,g1⟩
   ·split at hi
    ·rename_i e;subst e;exact ⟨_,g2⟩
    ·split at hi
     ·rename_i e;subst e;exact ⟨_,g3⟩
     ·split at hi
      ·rename_i e;subst e;exact ⟨_,g4⟩
      ·split at hi
       ·rename_i e;subst e;exact ⟨_,g5⟩
       ·split at hi
        ·rename_i e;subst e;exact ⟨_,g6⟩
        ·split at hi
         ·rename_i e;subst e;exact ⟨_,g7⟩
         ·split at hi
          ·rename_i e;subst e;exact ⟨_,g8⟩
          ·cases hi
 refine j6 ren hkp hm (L6 (l:=hsN H 0 c0 c1 c2 c3 c4 c5 c6 c7) hone) (K5 hs hp) ?_ ⟨rfl,rfl⟩
 exact J3 l0 g0 (D5 (j4 rfl l1 rfl (Nat.le_refl _) (Nat.le_refl _)) (D5 (j4 rfl l2 rfl (Nat.le_refl _) (Nat.le_refl _)) (D5 (j4 rfl l3 rfl (Nat.le_refl _) (Nat.le_refl _)) (D5 (j4 rfl l4 rfl (Nat.le_refl _) (Nat.le_refl _)) (D5 (j4 rfl l5 rfl (Nat.le_refl _) (Nat.le_refl _)) (D5 (j4 rfl l6 rfl (Nat.le_refl _) (Nat.le_refl _)) (D5 (j4 rfl l7 rfl (Nat.le_refl _) (Nat.le_refl _)) (D5 (j4 rfl l8 rfl (Nat.le_refl _) (Nat.le_refl _)) J4)))))))) (E8 hs l1 g1 rfl H7 (E8 hs l2 g2 rfl H7 (E8 hs l3 g3 rfl H7 (E8 hs l4 g4 rfl H7 (E8 hs l5 g5 rfl H7 (E8 hs l6 g6 rfl H7 (E8 hs l7 g7 rfl H7 (E8 hs l8 g8 rfl H7 J6))))))))
end Go.Proofs.YtphggldkligldaaGreat.Sh
