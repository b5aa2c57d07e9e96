/-
 Load of the program.
 The program's Load of what was saved;calls with and without refusals.
 SwapLoads.
 What a row's reading of an argument is,as abstract values,by the shape of its type. No program in sight.
 The arguments of the rows: calls and plays.
-/
import Derived.Test.YtbhgfoikbkaohaaGreatQav
import Derived.Carry
import Derived.OpenShut
import Derived.Test.YtbhgfoikbkaohaaGreatRows
import Derived.KernelRfl
set_option linter.unusedSimpArgs false
set_option linter.unusedVariables false
set_option maxHeartbeats 12800000
namespace Go.Pol
open Go.Am
theorem stR_none {R:List Rn} {U:List Int} {D:List Dt} {l:List Rl} {C H:Nat→Int} (h:fo stR R r0=none):ldP ⟨R,U,D,l,C,H⟩=none:=by unfold ldP;dsimp only;rw [h]
theorem stU_none {R:List Rn} {U:List Int} {D:List Dt} {l:List Rl} {C H:Nat→Int} {r:Sr} (hr:fo stR R r0=some r) (h:fo (stU r.K) U u0=none):ldP ⟨R,U,D,l,C,H⟩=none:=by unfold ldP;dsimp only;rw [hr];dsimp only;rw [h]
theorem stD_none {R:List Rn} {U:List Int} {D:List Dt} {l:List Rl} {C H:Nat→Int} {r:Sr} {u:Su} (hr:fo stR R r0=some r) (hu:fo (stU r.K) U u0=some u) (h:fo (stD r.K) D d0=none):ldP ⟨R,U,D,l,C,H⟩=none:=by unfold ldP;dsimp only;rw [hr];dsimp only;rw [hu];dsimp only;rw [h]
theorem y_take1 {y:List AV} {x:AV} (h:y.length=64):(x::y).take 65=x::y:=List.take_of_length_le (by rw [List.length_cons,h];exact Nat.le_refl _)
end Go.Pol
namespace Go.Proofs.YtbhgfoikbkaohaaGreat
open Go Go.Am Go.Pol
theorem ppx_Fb {p:Prop} (h:p:=by ((first|with_reducible assumption|(with_reducible first|apply M9 _|apply V4 M9|apply V4 x9|apply x9|apply A9|apply AI8|apply F3 A9|apply H6 A9|apply E9|apply F7|apply F3 hPp|fail)|exact ppw|fail);first|done|fail)):p:=h
open Go.Proofs.YtbhgfoikbkaohaaGreat renaming plx_Tl → plx
open Go.Proofs.YtbhgfoikbkaohaaGreat renaming ppx_Fb → ppx
theorem wwb {p q:Prop} (hq:q) (h:Y3 q→p:=by (intro hQz;((repeat' ((try (conv=>whnf));first|(with_reducible first|refine P6 ?_|refine K4 ?_|refine P9 ?_|refine Q5 ?_|refine K9 ?_|refine U9 ?_|refine O9 ?_|refine U8 rfl ?_|refine P5 ?_|refine I5 ?_|refine K7 ?_|refine K8 ?_|refine Q0 ?_|refine I4 ?_|refine K5 (by decide +kernel) ?_|refine J6 (by decide +kernel) ?_|refine AG2 ?_|refine AG3 ?_|refine Aj5 ?_|refine r9 ?_|refine AI4 ?_|refine Ag9 (by assumption) ?_|refine Ah0 (by assumption) ?_|refine p9 (by omega) ?_|refine AI2 ?_)|((with_reducible refine AI5 ?_ ?_);focus omega)|((with_reducible refine AI6 ?_ ?_);focus omega)|((with_reducible apply U1 hQz)<;>(try intro hsp hQz))|((with_reducible refine Aj3 ?_ ?_);focus (first|omega|rfl|assumption|decide|(simp only [List.length_map,List.length_cons,List.length_nil];omega)))|(with_reducible first|refine AH9 ?_|refine p8 ?_|refine o9 ?_|refine AI1 ?_|refine AI0 ?_|refine AH7 ?_|refine Aj0 ?_|refine I6 ?_|refine l9 ?_|refine P8 ?_|refine P7 ?_|refine I7 ?_|refine AH8 (by omega) ?_|refine o8 (by omega) ?_)|refine C8 (by with_reducible assumption) ?_|refine AE7 (by with_reducible assumption) ?_|refine AE4 (by first|(simp only [List.length_cons,List.length_nil,List.length_set];omega)|fail) (by with_reducible assumption) ?_|refine H8 (by rw [AN9];omega) (by with_reducible assumption) ?_|refine el_row BC4 (by first|assumption|omega) (by with_reducible assumption) ?_|refine el_row BW0 (by first|assumption|omega) (by with_reducible assumption) ?_|refine el_row BU8 (by first|assumption|omega) (by with_reducible assumption) ?_|refine U4 (by first|(simp only [List.length_cons,List.length_nil];omega)|fail) (Ad5 (by with_reducible assumption)) ?_|refine U4 (by first|(rw [AN9];omega)|fail) (by with_reducible assumption) ?_|refine J7 (by first|(simp only [List.length_cons];omega)|fail) (y_take1 (by with_reducible assumption)) ?_|refine J7 (by omega) (BA4 (by with_reducible assumption)) ?_|refine R4 (Nat.zero_le _) y_drop ?_|refine R4 (by first|(simp only [List.length_cons];omega)|fail) rfl ?_|refine J7 (by first|(simp only [List.length_cons];omega)|fail) (BA4 (by with_reducible assumption)) ?_|refine Af0 (by with_reducible assumption) ?_|(with_reducible first|refine AC6 ?_|refine Aq9.mk (by kernel_rfl) ?_|refine AD6 rfl ?_|refine AC8 (by decide +kernel) ?_|refine AC7 rfl ?_)|refine K3 (by assumption) rfl (by omega) ?_|refine M0 (by assumption) ?_|refine R5 (by assumption) ?_|refine I6 ?_|refine I7 ?_|refine AP6 rfl rfl ?_|refine l6 ?_|refine V8 rfl ?_|refine AP7 rfl ?_|refine AP3 rfl ?_|refine AD5 rfl ?_|refine S9 ?_|refine Au3.mk ?_|((with_reducible apply U2 hQz)<;>(try intro hsp hQz))|exact hQz.out))<;>(try (conv=>whnf))))):p:=h ⟨hq⟩
section
variable {R:List Rn} {U:List Int} {D:List Dt} {l:List Rl} {C H:Nat→Int}
set_option maxRecDepth 20000 in
theorem p_loadC (hc:Ap0 l C H=0) (hwf:∀ r,r ∈ R→W64 r.p∧W64 r.n∧W64 r.k) (hR:R.length≤100000) (hU:U.length≤100000) (hD:D.length≤100000):Ab5 Tryz.prog G0 10 [.agg (vsA ⟨R,U,D,l,C,H⟩)] [] 0 (ldPost (ldP ⟨R,U,D,l,C,H⟩)):=by
 have z:=k_chkS l C H
 rw [hc] at z
 have zc:=Aw3 (l:=l) (by have:=(AX6 hc).2.1;omega)
 refine I8 G9 b10 rfl ?_
 unfold c10
 obtain ⟨o,ho⟩:∃ o,o=67585:=⟨_,rfl⟩
 obtain ⟨y,hy⟩:∃ y,y=sysZ:=⟨_,rfl⟩
 rw [← ho,← hy]
 have hl:=BB7 hy
 have hov:=new_aS (l:=l) (C:=C) (H:=H) hy ho
 have hst:(sysB (fun _=>0) (fun _=>false) (fun _ _=>0) (stA l C H)).set (o+0+0) (.isl (l.map rlA))=sysB (fun _=>0) (fun _=>false) (fun _ _=>0) (stA l C H):=set_same (sys_rules ho)
 have hsl:o+0+0 < 67600:=by omega
 unfold stA at hov hst
 simp only [vsA,stA] at z ⊢
 (refine wwb ?_;repeat' (first|with_reducible refine And.intro ?_ ?_|intro hsp))
 all_goals first|(exfalso;omega)|skip
 rw [show Nat.ble (0+1) y.length=true from Nat.ble_eq_true_of_le (by omega)]
 (refine wwb ?_;repeat' (first|with_reducible refine And.intro ?_ ?_|intro hsp))
 refine H8 (by omega) rfl ?_
 (refine wwb ?_;repeat' (first|with_reducible refine And.intro ?_ ?_|intro hsp))
 rw [show Nat.ble (o+15) (y.set 0 (.bool true)).length=true from Nat.ble_eq_true_of_le (by rw [List.length_set];omega)]
 (refine wwb ?_;repeat' (first|with_reducible refine And.intro ?_ ?_|intro hsp))
 have hPl:([.isl (l.map rlA),.int .i64 (C 0),.int .i64 (C 1),.int .i64 (C 2),.int .i64 (C 3),.int .i64 (C 4),.int .i64 (C 5),.int .i64 (C 6),.int .i64 (H 0),.int .i64 (H 1),.int .i64 (H 2),.int .i64 (H 3),.int .i64 (H 4),.int .i64 (H 5),.int .i64 (H 6)]:List AV).length=15:=rfl
 have hyp:∀ x ∈ sysB (fun _=>0) (fun _=>false) (fun _ _=>0) ([.isl (l.map rlA),.int .i64 (C 0),.int .i64 (C 1),.int .i64 (C 2),.int .i64 (C 3),.int .i64 (C 4),.int .i64 (C 5),.int .i64 (C 6),.int .i64 (H 0),.int .i64 (H 1),.int .i64 (H 2),.int .i64 (H 3),.int .i64 (H 4),.int .i64 (H 5),.int .i64 (H 6)]:List AV),Plain x:=F3 A9
 clear hov hst zc z hl hy y
 generalize hP:([.isl (l.map rlA),.int .i64 (C 0),.int .i64 (C 1),.int .i64 (C 2),.int .i64 (C 3),.int .i64 (C 4),.int .i64 (C 5),.int .i64 (C 6),.int .i64 (H 0),.int .i64 (H 1),.int .i64 (H 2),.int .i64 (H 3),.int .i64 (H 4),.int .i64 (H 5),.int .i64 (H 6)]:List AV)=P at *
 have hPp:∀ x ∈ P,Plain x:=by rw [← hP];exact A9
 (refine F9 [1,5,36,37] (fun (q:Nat × Sr)=>[(6,.int .i64 q.2.nx),(7,.int .i64 q.2.la),(38,.int .i64 (q.1:Nat))]) (fun (q:Nat × Sr)=>⟨[(0,.cells (.isl (R.map rnA) :: .isl (U.map inA) :: .isl (D.map dtA)::P)),(1,.cells (sysB q.2.K (fun _=>false) (fun _ _=>0) P))],2⟩) (fun (q:Nat × Sr)=>q.1≤R.length∧foI stR R r0 q.1∧q.2=foA stR R r0 q.1∧0≤q.2.nx∧q.2.nx≤1024) (fun (q:Nat × Sr)=>R.length - q.1) ((0,(⟨0,0,fun _=>0⟩:Sr))) [] rfl (fun _=>by first|exact Nat.zero_le _|(dsimp only;omega)) ?_ (by ((try (conv=>whnf));exact O4)) ?_)
 ·exact ⟨Nat.zero_le _,foI_0,foA_0.symm,Int.le_refl _,by show (0:Int)≤1024;decide⟩
 rintro ⟨i,s⟩ ⟨hi,hfo,hs,hn0,hn1⟩
 dsimp only at hi hfo hs hn0 hn1 ⊢
 by_cases hil:i < R.length
 ·obtain ⟨p,n,k,he⟩:∃ p n k,nth dRn R i=⟨p,n,k⟩:=⟨_,_,_,rfl⟩
  have hx:rnA (nth dRn R i)=[.int .i64 p,.int .i64 n,.int .i64 k]:=by rw [he];rfl
  have hw:=hwf _ (AE5 (d:=dRn) hil)
  rw [he] at hw
  unfold W64 at hw
  dsimp only at hw
  by_cases hb:BH3 s ⟨p,n,k⟩
  ·have hN:=stR_none (U:=U) (D:=D) (l:=l) (C:=C) (H:=H) (Aw7 (d:=dRn) hfo hil (by rw [← hs,he];exact if_pos hb))
   unfold BH3 at hb
   dsimp only at hb
   (refine wwb ?_;repeat' (first|with_reducible refine And.intro ?_ ?_|intro hsp))
   all_goals first|exact AE9 hN rfl|(exfalso;omega)
  ·have hst:=foI_s (d:=dRn) hfo hil (by rw [← hs,he];exact if_neg hb)
   unfold BH3 at hb
   dsimp only at hb hst
   obtain ⟨a,rfl⟩:∃ a:Nat,p=(a:Nat):=⟨p.toNat,by omega⟩
   obtain ⟨m,rfl⟩:∃ m:Nat,n=(m:Nat):=⟨n.toNat,by omega⟩
   rw [Int.toNat_natCast,Int.toNat_natCast] at hst
   have ham:a+m≤1024:=by omega
   by_cases hnx:((a:Nat):Int)=s.nx
   ·(refine wwb ?_;repeat' (first|with_reducible refine And.intro ?_ ?_|intro hsp))
    all_goals first|(exfalso;omega)|skip
    (refine F9 [1,5,6,7,9,36,37,38,82] (fun (j:Nat)=>[(83,.int .i64 (j:Nat))]) (fun (j:Nat)=>⟨[(0,.cells (.isl (R.map rnA) :: .isl (U.map inA) :: .isl (D.map dtA)::P)),(1,.cells (sysB (AK7 s.K a j k) (fun _=>false) (fun _ _=>0) P)),(2,.cells [.int .i64 (a:Nat),.int .i64 (m:Nat),.int .i64 k])],3⟩) (fun (j:Nat)=>j≤m) (fun (j:Nat)=>m - j) (0) [] rfl (fun _=>by first|exact Nat.zero_le _|(dsimp only;omega)) ?_ (by ((try (conv=>whnf));(rw [BC0]);exact O4)) ?_)
    ·exact Nat.zero_le _
    rintro j hj
    by_cases hjm:j < m
    ·have ht:((a:Int)+(j:Int)).toNat=a+j:=by omega
     have hset:(sysB (AK7 s.K a j k) (fun _=>false) (fun _ _=>0) P).set (1+((a:Int)+(j:Int)).toNat * 66+0) (.int .i64 k)=sysB (AK7 s.K a (j+1) k) (fun _=>false) (fun _ _=>0) P:=by rw [ht,Nat.add_zero,Ak7 (by omega),Ar4]
     (refine wwb ?_;repeat' (first|with_reducible refine And.intro ?_ ?_|intro hsp))
     all_goals exact D6 (j+1) [] (by (try dsimp only);omega) (by first|omega|(dsimp only;omega)) rfl (by exact O4)
    ·obtain rfl:j=m:=by omega
     (refine wwb ?_;repeat' (first|with_reducible refine And.intro ?_ ?_|intro hsp))
     all_goals exact D6 (i+1,(⟨((a:Nat):Int)+((j:Nat):Int),k,AK7 s.K a j k⟩:Sr)) [] ⟨by dsimp only;omega,hst.1,hst.2.symm,by dsimp only;omega,by dsimp only;omega⟩ (by first|omega|(dsimp only;omega)) rfl (by exact O4)
   ·(refine wwb ?_;repeat' (first|with_reducible refine And.intro ?_ ?_|intro hsp))
    all_goals first|(exfalso;omega)|skip
    (refine F9 [1,5,6,7,9,36,37,38,82] (fun (j:Nat)=>[(83,.int .i64 (j:Nat))]) (fun (j:Nat)=>⟨[(0,.cells (.isl (R.map rnA) :: .isl (U.map inA) :: .isl (D.map dtA)::P)),(1,.cells (sysB (AK7 s.K a j k) (fun _=>false) (fun _ _=>0) P)),(2,.cells [.int .i64 (a:Nat),.int .i64 (m:Nat),.int .i64 k])],3⟩) (fun (j:Nat)=>j≤m) (fun (j:Nat)=>m - j) (0) [] rfl (fun _=>by first|exact Nat.zero_le _|(dsimp only;omega)) ?_ (by ((try (conv=>whnf));(rw [BC0]);exact O4)) ?_)
    ·exact Nat.zero_le _
    rintro j hj
    by_cases hjm:j < m
    ·have ht:((a:Int)+(j:Int)).toNat=a+j:=by omega
     have hset:(sysB (AK7 s.K a j k) (fun _=>false) (fun _ _=>0) P).set (1+((a:Int)+(j:Int)).toNat * 66+0) (.int .i64 k)=sysB (AK7 s.K a (j+1) k) (fun _=>false) (fun _ _=>0) P:=by rw [ht,Nat.add_zero,Ak7 (by omega),Ar4]
     (refine wwb ?_;repeat' (first|with_reducible refine And.intro ?_ ?_|intro hsp))
     all_goals exact D6 (j+1) [] (by (try dsimp only);omega) (by first|omega|(dsimp only;omega)) rfl (by exact O4)
    ·obtain rfl:j=m:=by omega
     (refine wwb ?_;repeat' (first|with_reducible refine And.intro ?_ ?_|intro hsp))
     all_goals exact D6 (i+1,(⟨((a:Nat):Int)+((j:Nat):Int),k,AK7 s.K a j k⟩:Sr)) [] ⟨by dsimp only;omega,hst.1,hst.2.symm,by dsimp only;omega,by dsimp only;omega⟩ (by first|omega|(dsimp only;omega)) rfl (by exact O4)
 have hr:=BN2 hfo (by omega)
 rw [← hs] at hr
 obtain ⟨nx,la,K⟩:=s
 dsimp only at hr hn0 hn1 ⊢
 clear hs hfo hn0 hn1 hi
 (refine wwb ?_;repeat' (first|with_reducible refine And.intro ?_ ?_|intro hsp))
 all_goals first|(exfalso;omega)|skip
 (refine F9 [1,5,107,108] (fun (q:Nat × Su)=>[(109,.int .i64 (q.1:Nat))]) (fun (q:Nat × Su)=>⟨[(0,.cells (.isl (R.map rnA) :: .isl (U.map inA) :: .isl (D.map dtA)::P)),(1,.cells (sysB K (fun p=>q.2.G (p / 16)) (fun _ _=>0) P))],2⟩) (fun (q:Nat × Su)=>q.1≤U.length∧foI (stU K) U u0 q.1∧q.2=foA (stU K) U u0 q.1∧(q.1=0→q.2.lo = -1)∧(q.1 ≠ 0→q.2.lo=nth 0 U (q.1 - 1))) (fun (q:Nat × Su)=>U.length - q.1) ((0,(⟨-1,fun _=>false⟩:Su))) [] rfl (fun _=>by first|exact Nat.zero_le _|(dsimp only;omega)) ?_ (by ((try (conv=>whnf));exact O4)) ?_)
 ·exact ⟨Nat.zero_le _,foI_0,foA_0.symm,fun _=>rfl,fun h=>absurd rfl h⟩
 rintro ⟨i,s⟩ ⟨hi,hfo,hs,hlo0,hlo1⟩
 dsimp only at hi hfo hs hlo0 hlo1 ⊢
 by_cases hil:i < U.length
 ·obtain ⟨u,he⟩:∃ u,nth 0 U i=u:=⟨_,rfl⟩
  have hx:inA (nth 0 U i)=[.int .i64 u]:=by rw [he];rfl
  obtain ⟨lo,hlo⟩:∃ lo,s.lo=lo:=⟨_,rfl⟩
  have z1:=k_first u
  have hN:=fun h=>stU_none (D:=D) (l:=l) (C:=C) (H:=H) hr (Aw7 (d:=(0:Int)) hfo hil (by rw [← hs,he];exact if_pos h))
  dsimp only at hN
  rw [hlo] at hN hlo0 hlo1
  by_cases i0:i=0
  ·have hlo1:=hlo0 i0
   by_cases hf:fst u
   ·obtain ⟨g,rfl,hg⟩:=BN1 hf
    rw [decide_eq_true hf] at z1
    have za:j6 36 [.int .i64 (g * 16:Nat),.int .i64 16,.fn 37 [] []] (sysB K (fun p=>s.G (p / 16)) (fun _ _=>0) P) (.bool (decide (okC K (g * 16) 16))) (sysB K (fun p=>s.G (p / 16)) (fun _ _=>0) P):=k_allL P hPp (g * 16) 16 (by omega)
    have zb:j6 38 [.int .i64 (g * 16:Nat),.int .i64 16,.fn 39 [] []] (sysB K (fun p=>s.G (p / 16)) (fun _ _=>0) P) (.tup []) (sysB K (Aq1 (fun p=>s.G (p / 16)) (g * 16) 16 true) (fun _ _=>0) P):=k_eachL P hPp (g * 16) 16 (by omega)
    rw [setM_g] at zb
    by_cases hk:okC K (g * 16) 16
    ·rw [decide_eq_true hk] at za
     have hst:=foI_s (d:=(0:Int)) (s':=⟨((g * 16:Nat):Int),Ak6 s.G g true⟩) hfo hil (by
      rw [← hs,he]
      unfold stU
      rw [if_neg,Int.toNat_natCast,show g * 16 / 16=g by omega]
      rw [Int.toNat_natCast,hlo]
      rintro (h|h|h)
      ·omega
      ·exact h hf
      ·exact h hk)
     (refine wwb ?_;repeat' (first|with_reducible refine And.intro ?_ ?_|intro hsp))
     all_goals first|(exfalso;omega)|skip
     all_goals exact D6 (i+1,(⟨((g * 16:Nat):Int),Ak6 s.G g true⟩:Su)) [] ⟨by dsimp only;omega,hst.1,hst.2.symm,fun h=>(by dsimp only at h;omega),fun _=>by dsimp only;rw [Nat.add_sub_cancel,he]⟩ (by first|omega|(dsimp only;omega)) rfl (by exact O4)
    ·rw [decide_eq_false hk] at za
     have hN:=hN (.inr (.inr (by rw [Int.toNat_natCast];exact hk)))
     (refine wwb ?_;repeat' (first|with_reducible refine And.intro ?_ ?_|intro hsp))
     all_goals first|exact AE9 hN rfl|(exfalso;omega)
   ·rw [decide_eq_false hf] at z1
    have hN:=hN (.inr (.inl hf))
    (refine wwb ?_;repeat' (first|with_reducible refine And.intro ?_ ?_|intro hsp))
    all_goals first|exact AE9 hN rfl|(exfalso;omega)
  ·have hx1:inA (nth 0 U (((i:Nat):Int) - 1).toNat)=[.int .i64 lo]:=by rw [show (((i:Nat):Int) - 1).toNat=i - 1 by omega,← hlo1 i0];rfl
   have hil1:(((i:Nat):Int) - 1).toNat < U.length:=by omega
   by_cases hle:u≤lo
   ·have hN:=hN (.inl hle)
    (refine wwb ?_;repeat' (first|with_reducible refine And.intro ?_ ?_|intro hsp))
    all_goals first|exact AE9 hN rfl|(exfalso;omega)
   by_cases hf:fst u
   ·obtain ⟨g,rfl,hg⟩:=BN1 hf
    rw [decide_eq_true hf] at z1
    have za:j6 36 [.int .i64 (g * 16:Nat),.int .i64 16,.fn 37 [] []] (sysB K (fun p=>s.G (p / 16)) (fun _ _=>0) P) (.bool (decide (okC K (g * 16) 16))) (sysB K (fun p=>s.G (p / 16)) (fun _ _=>0) P):=k_allL P hPp (g * 16) 16 (by omega)
    have zb:j6 38 [.int .i64 (g * 16:Nat),.int .i64 16,.fn 39 [] []] (sysB K (fun p=>s.G (p / 16)) (fun _ _=>0) P) (.tup []) (sysB K (Aq1 (fun p=>s.G (p / 16)) (g * 16) 16 true) (fun _ _=>0) P):=k_eachL P hPp (g * 16) 16 (by omega)
    rw [setM_g] at zb
    by_cases hk:okC K (g * 16) 16
    ·rw [decide_eq_true hk] at za
     have hst:=foI_s (d:=(0:Int)) (s':=⟨((g * 16:Nat):Int),Ak6 s.G g true⟩) hfo hil (by
      rw [← hs,he]
      unfold stU
      rw [if_neg,Int.toNat_natCast,show g * 16 / 16=g by omega]
      rw [Int.toNat_natCast,hlo]
      rintro (h|h|h)
      ·omega
      ·exact h hf
      ·exact h hk)
     (refine wwb ?_;repeat' (first|with_reducible refine And.intro ?_ ?_|intro hsp))
     all_goals first|(exfalso;omega)|skip
     all_goals exact D6 (i+1,(⟨((g * 16:Nat):Int),Ak6 s.G g true⟩:Su)) [] ⟨by dsimp only;omega,hst.1,hst.2.symm,fun h=>(by dsimp only at h;omega),fun _=>by dsimp only;rw [Nat.add_sub_cancel,he]⟩ (by first|omega|(dsimp only;omega)) rfl (by exact O4)
    ·rw [decide_eq_false hk] at za
     have hN:=hN (.inr (.inr (by rw [Int.toNat_natCast];exact hk)))
     (refine wwb ?_;repeat' (first|with_reducible refine And.intro ?_ ?_|intro hsp))
     all_goals first|exact AE9 hN rfl|(exfalso;omega)
   ·rw [decide_eq_false hf] at z1
    have hN:=hN (.inr (.inl hf))
    (refine wwb ?_;repeat' (first|with_reducible refine And.intro ?_ ?_|intro hsp))
    all_goals first|exact AE9 hN rfl|(exfalso;omega)
 have hu:=BN2 hfo (by omega)
 rw [← hs] at hu
 obtain ⟨lo,G⟩:=s
 dsimp only at hu ⊢
 clear hs hfo hlo0 hlo1 hi
 (refine wwb ?_;repeat' (first|with_reducible refine And.intro ?_ ?_|intro hsp))
 all_goals first|(exfalso;omega)|skip
 (refine F9 [1,5,142,143] (fun (q:Nat × Sd)=>[(144,.int .i64 (q.1:Nat))]) (fun (q:Nat × Sd)=>⟨[(0,.cells (.isl (R.map rnA) :: .isl (U.map inA) :: .isl (D.map dtA)::P)),(1,.cells (sysB K (fun p=>G (p / 16)) q.2.B P))],2⟩) (fun (q:Nat × Sd)=>q.1≤D.length∧foI (stD K) D d0 q.1∧q.2=foA (stD K) D d0 q.1∧(q.1=0→q.2.lo = -1)∧(q.1 ≠ 0→q.2.lo=(nth dDt D (q.1 - 1)).p)) (fun (q:Nat × Sd)=>D.length - q.1) ((0,(⟨-1,fun _ _=>0⟩:Sd))) [] rfl (fun _=>by first|exact Nat.zero_le _|(dsimp only;omega)) ?_ (by ((try (conv=>whnf));exact O4)) ?_)
 ·exact ⟨Nat.zero_le _,foI_0,foA_0.symm,fun _=>rfl,fun h=>absurd rfl h⟩
 rintro ⟨i,s⟩ ⟨hi,hfo,hs,hlo0,hlo1⟩
 dsimp only at hi hfo hs hlo0 hlo1 ⊢
 by_cases hil:i < D.length
 ·obtain ⟨p,b,he⟩:∃ p b,nth dDt D i=⟨p,b⟩:=⟨_,_,rfl⟩
  have hx:dtA (nth dDt D i) = .int .i64 p::byA b:=by rw [he];rfl
  obtain ⟨lo,hlo⟩:∃ lo,s.lo=lo:=⟨_,rfl⟩
  have hN:=fun h=>stD_none (l:=l) (C:=C) (H:=H) hr hu (Aw7 (d:=dDt) hfo hil (by rw [← hs,he];exact if_pos h))
  dsimp only at hN
  rw [hlo] at hN hlo0 hlo1
  have hyl:=by_len b
  have hyz:=AK3 b
  have hset:=fun (a:Nat) (ha:a < 1024)=>BB5 (K:=K) (M:=fun p=>G (p / 16)) (B:=s.B) (P:=P) (b:=b) ha
  generalize byA b=y at *
  by_cases i0:i=0
  ·have hlo1:=hlo0 i0
   by_cases hp:p < 0∨1024≤p
   ·have hN:=hN (.inr (by omega))
    (refine wwb ?_;repeat' (first|with_reducible refine And.intro ?_ ?_|intro hsp))
    all_goals first|exact AE9 hN rfl|(exfalso;omega)
   ·obtain ⟨a,rfl⟩:∃ a:Nat,p=(a:Nat):=⟨p.toNat,by omega⟩
    rw [Int.toNat_natCast] at hN
    have ha:a < 1024:=by omega
    have hset:=hset a ha
    have hkk:(sysB K (fun p=>G (p / 16)) s.B P)[1+a * 66+0]? = some (.int .i64 (K a)):=AL1 ha
    by_cases hK:K a=2
    ·rw [hK] at hkk
     by_cases hz:l5 b
     ·rw [decide_eq_true hz] at hyz
      have hN:=hN (.inr (.inr (.inr (.inr hz))))
      (refine wwb ?_;repeat' (first|with_reducible refine And.intro ?_ ?_|intro hsp))
      all_goals first|exact AE9 hN rfl|(exfalso;omega)
     ·rw [decide_eq_false hz] at hyz
      have hst:=foI_s (d:=dDt) (s':=⟨((a:Nat):Int),AA7 s.B a b⟩) hfo hil (by
       rw [← hs,he]
       unfold stD
       dsimp only
       rw [if_neg,Int.toNat_natCast]
       rw [Int.toNat_natCast,hlo]
       rintro (h|h|h|h|h)
       ·omega
       ·omega
       ·omega
       ·exact h hK
       ·exact hz h)
      (refine wwb ?_;repeat' (first|with_reducible refine And.intro ?_ ?_|intro hsp))
      all_goals first|(exfalso;omega)|skip
      all_goals exact D6 (i+1,(⟨((a:Nat):Int),AA7 s.B a b⟩:Sd)) [] ⟨by dsimp only;omega,hst.1,hst.2.symm,fun h=>(by dsimp only at h;omega),fun _=>by dsimp only;rw [Nat.add_sub_cancel,he]⟩ (by first|omega|(dsimp only;omega)) rfl (by exact O4)
    ·have hN:=hN (.inr (.inr (.inr (.inl hK))))
     (refine wwb ?_;repeat' (first|with_reducible refine And.intro ?_ ?_|intro hsp))
     all_goals first|exact AE9 hN rfl|(exfalso;omega)
  ·have hx1:∃ y1:List AV,dtA (nth dDt D (((i:Nat):Int) - 1).toNat) = .int .i64 lo::y1:=⟨_,by rw [show (((i:Nat):Int) - 1).toNat=i - 1 by omega,hlo1 i0];rfl⟩
   obtain ⟨y1,hx1⟩:=hx1
   have hil1:(((i:Nat):Int) - 1).toNat < D.length:=by omega
   by_cases hle:p≤lo
   ·have hN:=hN (.inl hle)
    (refine wwb ?_;repeat' (first|with_reducible refine And.intro ?_ ?_|intro hsp))
    all_goals first|exact AE9 hN rfl|(exfalso;omega)
   by_cases hp:p < 0∨1024≤p
   ·have hN:=hN (.inr (by omega))
    (refine wwb ?_;repeat' (first|with_reducible refine And.intro ?_ ?_|intro hsp))
    all_goals first|exact AE9 hN rfl|(exfalso;omega)
   ·obtain ⟨a,rfl⟩:∃ a:Nat,p=(a:Nat):=⟨p.toNat,by omega⟩
    rw [Int.toNat_natCast] at hN
    have ha:a < 1024:=by omega
    have hset:=hset a ha
    have hkk:(sysB K (fun p=>G (p / 16)) s.B P)[1+a * 66+0]? = some (.int .i64 (K a)):=AL1 ha
    by_cases hK:K a=2
    ·rw [hK] at hkk
     by_cases hz:l5 b
     ·rw [decide_eq_true hz] at hyz
      have hN:=hN (.inr (.inr (.inr (.inr hz))))
      (refine wwb ?_;repeat' (first|with_reducible refine And.intro ?_ ?_|intro hsp))
      all_goals first|exact AE9 hN rfl|(exfalso;omega)
     ·rw [decide_eq_false hz] at hyz
      have hst:=foI_s (d:=dDt) (s':=⟨((a:Nat):Int),AA7 s.B a b⟩) hfo hil (by
       rw [← hs,he]
       unfold stD
       dsimp only
       rw [if_neg,Int.toNat_natCast]
       rw [Int.toNat_natCast,hlo]
       rintro (h|h|h|h|h)
       ·omega
       ·omega
       ·omega
       ·exact h hK
       ·exact hz h)
      (refine wwb ?_;repeat' (first|with_reducible refine And.intro ?_ ?_|intro hsp))
      all_goals first|(exfalso;omega)|skip
      all_goals exact D6 (i+1,(⟨((a:Nat):Int),AA7 s.B a b⟩:Sd)) [] ⟨by dsimp only;omega,hst.1,hst.2.symm,fun h=>(by dsimp only at h;omega),fun _=>by dsimp only;rw [Nat.add_sub_cancel,he]⟩ (by first|omega|(dsimp only;omega)) rfl (by exact O4)
    ·have hN:=hN (.inr (.inr (.inr (.inl hK))))
     (refine wwb ?_;repeat' (first|with_reducible refine And.intro ?_ ?_|intro hsp))
     all_goals first|exact AE9 hN rfl|(exfalso;omega)
 have hd:=BN2 hfo (by omega)
 rw [← hs] at hd
 obtain ⟨lo,B⟩:=s
 dsimp only at hd ⊢
 have hS:ldP ⟨R,U,D,l,C,H⟩=some ⟨K,G,B,l,C,H⟩:=ldP_of.2 ⟨_,_,_,hr,hu,hd,rfl⟩
 (refine wwb ?_;repeat' (first|with_reducible refine And.intro ?_ ?_|intro hsp))
 all_goals first|(exfalso;omega)|skip
 all_goals exact end_ldS hS rfl (by unfold Sy.a;rw [← hP];rfl) rfl
end
end Go.Proofs.YtbhgfoikbkaohaaGreat
namespace Go.Pol
open Go.Am
theorem runs_wf {K:Nat→Int} (hk:∀ p,0≤K p∧K p≤3):∀ n,∀ r,r ∈ G8 K n→(0≤r.p∧r.p≤(n:Nat))∧(0≤r.n∧r.n≤(n:Nat))∧(0≤r.k∧r.k≤3)
 | 0,r,h=>by cases h
 | n+1,r,h=>by
  have ih:=runs_wf hk n
  have hkn:=hk n
  have e:G8 K (n+1)=if K n=0 then G8 K n else if 0 < n∧K (n - 1)=K n then bump (G8 K n) else G8 K n++[⟨(n:Nat),1,K n⟩]:=rfl
  rw [e] at h
  split at h
  ·have:=ih r h;omega
  ·rename_i h0
   split at h
   ·rename_i h1
    obtain ⟨L,m,e,m1,m2⟩:=AF8 (K:=K) h1.1 (by rw [h1.2];exact h0)
    rw [e] at h ih
    rw [AI3] at h
    rcases List.mem_append.1 h with h|h
    ·have:=ih r (List.mem_append_left _ h);omega
    ·obtain rfl:=List.mem_singleton.1 h
     have:=ih _ (List.mem_append_right _ (List.mem_singleton.2 rfl))
     dsimp only at this ⊢
     omega
   ·rcases List.mem_append.1 h with h|h
    ·have:=ih r h;omega
    ·obtain rfl:=List.mem_singleton.1 h
     dsimp only;omega
theorem GoodS.pg {s:Sy} (h:GoodS s):Pg s:=⟨h.kind,h.huge,h.zero,h.cK,h.cB⟩
def Free (s:Sy) (k:Nat) (r r':Int × Sy):Prop :=
 (∃ e,e ≠ 0∧r.1=e∧r'=(e,s))∨(r.1=0∧((isR s.l s.C k=true∧r'=(60,s.ref k))∨(isR s.l s.C k=false∧∃ s',r'=(0,s')∧s'.l=s.l∧s'.C=C1 s.C k∧s'.H=H1 s.l s.C s.H k)))
section
variable {s:Sy}
def Sy.free (s:Sy):Sy:=⟨s.K,s.G,s.B,[],fun _=>0,fun _=>0⟩
end
end Go.Pol
namespace Go.Proofs.YtbhgfoikbkaohaaGreat
open Go Go.Am Go.Pol
theorem p_load {s:Sy} (hg:GoodS s):LocN 10 [.agg (vsA s.save)] 0 s.a:=by
 have h:=p_loadC (R:=G8 s.K 1024) (U:=Q6 s.G 1024) (D:=AG1 s.B 1024) hg.hv (fun r hr=>by have:=runs_wf hg.kind _ r hr;unfold W64;omega) (Nat.le_trans X3 (by decide)) (Nat.le_trans X6 (by decide)) (Nat.le_trans X8 (by decide))
 have e:ldP ⟨G8 s.K 1024,Q6 s.G 1024,AG1 s.B 1024,s.l,s.C,s.H⟩=some s:=ld_save hg.pg
 rw [e] at h
 exact LocN.mk h F7 (X9 AT3)
end Go.Proofs.YtbhgfoikbkaohaaGreat
namespace Go.Proofs.YtbhgfoikbkaohaaGreat.Sh
open Go Go.Am Go.Pol
theorem plx_Skg {p:Prop} (h:p:=by ((first|exact plw|(with_reducible first|apply O7|apply N8 _|apply N9 _|apply M6 _|apply Y7|apply N7|apply L9|apply U3|apply AZ5 _|apply AJ8 _|apply AM6|apply V3|apply F8 Q8|apply F8 Y8|apply G6 H7|apply AM5|apply AT3|fail)|fail);first|done|fail)):p:=h
theorem ppx_Skg {p:Prop} (h:p:=by ((first|with_reducible assumption|(with_reducible first|apply F7|apply E9|apply AC0|apply AB0|apply AN3|apply AM2 _|apply AJ4 _|apply hpp|apply H7|apply AY2 _|apply hpz|fail)|exact ppw|fail);first|done|fail)):p:=h
open Go.Proofs.YtbhgfoikbkaohaaGreat.Sh renaming plx_Skg → plx
open Go.Proofs.YtbhgfoikbkaohaaGreat.Sh renaming ppx_Skg → ppx
theorem wx_Skg {p q:Prop} (hq:q) (h:Y3 q→p:=by (intro hQz;((repeat' ((try (conv=>whnf));first|refine sxA ?_|refine Z7 (d:=dSA) BQ7 (by first|assumption|omega) (by with_reducible assumption) ?_|refine AE7 (by with_reducible assumption) ?_|refine sxF ?_|refine M0 hf ?_|refine M0 hsh ?_|refine Ay5 hnq ?_|refine cx_VN h2 rfl (by decide) ?_|refine Ay6 hV rfl rfl (by decide) rfl ?_|refine AX4 hV rfl rfl rfl rfl ?_|refine K3 v2 rfl (by decide) ?_|refine Ay5 hpl ?_|refine K3 hL rfl (by decide) ?_|refine K3 hV rfl (by decide) ?_|refine K3 h2 rfl (by decide) ?_|refine M0 hnq ?_|refine sxH ?_|((with_reducible first|apply U1 hQz|apply U2 hQz)<;>(try intro hsp hQz))|exact hQz.out))<;>(try (conv=>whnf))))):p:=h ⟨hq⟩
theorem wx_Skgn {p q:Prop} (hq:q) (h:Y3 q→p:=by (intro hQz;((repeat' ((try (conv=>whnf));first|refine sxA ?_|refine sxN ?_|refine K3 v2 rfl (by decide) ?_|refine Ay5 hpl ?_|refine M0 hsh ?_|refine cx_WN hL rfl (by decide) ?_|refine cx_VL hV rfl (by decide) ?_|refine Ab0 hS rfl rfl rfl rfl rfl (by decide) rfl ?_|refine dcx_wk hS rfl rfl rfl rfl rfl rfl rfl ?_|refine M0 hm ?_|refine R5 hm ?_|refine R5 hsh ?_|refine sxH ?_|((with_reducible first|apply U1 hQz|apply U2 hQz)<;>(try intro hsp hQz))|exact hQz.out))<;>(try (conv=>whnf))))):p:=h ⟨hq⟩
set_option maxRecDepth 20000 in
theorem k_loads (p:SPy) (hl:p.X.length≤maxLen) (hwf:∀ x ∈ p.X,0≤x.w) (a n pg sl i o:Int) (W:List (Int × Int × Int × Int)) (D:List (Int × (Nat→Int))) (hlW:W.length≤maxLen) (hlD:D.length≤maxLen):J8 3 [.agg (BA0 p),.agg (T9 a n pg sl W D i o)] (.bool true):=by
 have hl:p.X.length≤9223372036854775807:=hl
 have hlW:W.length≤9223372036854775807:=hlW
 have hlD:D.length≤9223372036854775807:=hlD
 obtain ⟨b,hf,hfb⟩:=k_far p hl
 have hsh:=k_shown
 have hpp:=AJ4 p
 have hpz:=H7 (a:=a) (n:=n) (pg:=pg) (sl:=sl) (W:=W) (D:=D) (i:=i) (o:=o)
 refine J8.mk (R9 G9 b3 J3 ⟨AJ8 p,G6 H7,trivial⟩ D5 rfl ?_)
 unfold c3
 rw [show T9 a n pg sl W D i o=[.int .i64 a,.int .i64 n,.int .i64 pg,.int .i64 sl,.isl (W.map swA),.isl (D.map swD),.int .i64 i,.int .i64 o] from rfl]
 unfold T9 at hpz
 cases b with
 | true =>
  unfold BA0 at *
  (refine wx_Skg ?_;repeat' (first|with_reducible refine And.intro ?_ ?_|intro hsp))
  all_goals first|exact K6 rfl|(exfalso;omega)
 | false =>
 clear hfb
 by_cases hW6:W.length≤600
 rotate_left
 ·unfold BA0 at *
  (refine wx_Skg ?_;repeat' (first|with_reducible refine And.intro ?_ ?_|intro hsp))
  all_goals first|exact K6 rfl|(exfalso;omega)
 by_cases hD6:D.length≤600
 rotate_left
 ·unfold BA0 at *
  (refine wx_Skg ?_;repeat' (first|with_reducible refine And.intro ?_ ?_|intro hsp))
  all_goals first|exact K6 rfl|(exfalso;omega)
 by_cases hc:(AK4 p.l).2=0
 ·have hnq:=q_new (l:=p.l) (i:=(AK4 p.l).1) (Prod.ext rfl hc)
  have hg:=Aw5 hc
  by_cases hst:O5 p.a p.n p.pg p.sl
  ·by_cases he:((Sy.new p.l).chg p.a p.n 0 1 0).1=0
   ·have h2:=v_New hg hst he
    have h0:F5 p.b:=by
     obtain ⟨n1,n2,n3,n4,n5,n6,n7,n8⟩:=hst
     exact (BE2 (l:=p.l) (a:=p.a) (n:=p.n) (pg:=p.pg.toNat) (sl:=p.sl.toNat) hc ⟨n1,n3,by omega⟩ ⟨by omega,by omega,by omega⟩ he p.b rfl).1
    rw [show Sw.nw ((Sy.new p.l).chg p.a p.n 0 1 0).2 p.a p.n p.pg p.sl=p.b from rfl] at h2
    clear hc hst he hg
    generalize p.b=b0 at *
    generalize Sy.new p.l=s0 at *
    unfold BA0 at *
    (refine wx_Skg ?_;repeat' (first|with_reducible refine And.intro ?_ ?_|intro hsp))
    all_goals first|(exfalso;omega)|skip
    (refine F9 [2,3,5,6,7] (fun (z:Nat × Sw)=>[(8,.int .i64 (z.1:Nat))]) (fun (z:Nat × Sw)=>⟨[(0,.cells [.int .i64 p.a,.int .i64 p.n,.int .i64 p.pg,.int .i64 p.sl,.isl (p.l.map rlA),.isl (p.X.map sacE)]),(1,.cells [.int .i64 a,.int .i64 n,.int .i64 pg,.int .i64 sl,.isl (W.map swA),.isl (D.map swD),.int .i64 i,.int .i64 o])]++[(3,.cells (rfC 2 z.2)),(2,.cells z.2.s.b)],4⟩) (fun (z:Nat × Sw)=>z.1≤p.X.length∧F5 z.2) (fun (z:Nat × Sw)=>p.X.length - z.1) ((0,b0)) [] rfl (fun _=>by first|exact Nat.zero_le _|(dsimp only;omega)) ?_ (by ((try (conv=>whnf));exact BA6)) ?_)
    ·exact ⟨Nat.zero_le _,h0⟩
    rintro ⟨k,q⟩ ⟨hk,hG⟩
    dsimp only at hk hG ⊢
    clear h0 h2 hnq
    by_cases hkl:k < p.X.length
    ·have hw0:=hwf _ (AE5 (d:=dSA) hkl)
     generalize hx:nth dSA p.X k=x at *
     have e0:x.w.tmod 14=x.w % 14:=Int.tmod_eq_emod_of_nonneg hw0
     obtain ⟨w,hwe⟩:∃ w:Nat,w=x.w.toNat % 14:=⟨_,rfl⟩
     have hm':x.w.tmod 14=((w:Nat):Int):=by rw [e0];omega
     have hwl:w < 14:=by omega
     have hV:=v_Write hG x.t x.n x.v
     have hG':=AK2 hG x.t x.n x.v
     generalize q.write x.t x.n x.v=r at *
     clear hwe hwf e0
     by_cases h6:w < 6
     ·(refine wx_Skg ?_;repeat' (first|with_reducible refine And.intro ?_ ?_|intro hsp))
      all_goals first|(exfalso;omega)|exact D6 ((k+1,r.2)) [] ⟨hkl,hG'⟩ (by first|omega|(dsimp only;omega)) rfl (by exact BA6)
     ·(refine wx_Skg ?_;repeat' (first|with_reducible refine And.intro ?_ ?_|intro hsp))
      all_goals first|(exfalso;omega)|exact D6 ((k+1,q)) [] ⟨hkl,hG⟩ (by first|omega|(dsimp only;omega)) rfl (by exact BA6)
    ·clear hwf
     have v2:=q_save hG.good
     have hpl:=p_load hG.good
     by_cases hstz:O5 a n pg sl
     ·by_cases hld:LdZ q.s (T9 a n pg sl W D i o)
      ·obtain ⟨q1,hq,hqs,hz⟩:=hld
       have hL:=w_Load hq
       have hS:=BP7 hq (AS7 hq)
       have hm:=BM7 hq
       obtain ⟨q2,hV⟩:=v_Load hq hW6 hD6 hz
       rw [hqs] at hV
       rw [hz] at hL hS hm
       rw [hqs] at hL
       unfold T9 at hL hS hm hV
       clear hz hq
       generalize (⟨q1.whr,q1.dsk,Aa3 q1 q1.pages.length⟩:WS)=tl at *
       generalize vsA (q.s).save=sv at *
       (refine wx_Skgn ?_;repeat' (first|with_reducible refine And.intro ?_ ?_|intro hsp))
       all_goals first|(exfalso;omega)|exact K6 rfl
      ·have hL:=Ak2 hG.good hstz hW6 hD6 hld
       obtain ⟨a',rfl⟩:=Int.eq_ofNat_of_zero_le hstz.1
       obtain ⟨n',rfl⟩:=Int.eq_ofNat_of_zero_le (by have:=hstz.2.2.1;omega:0≤n)
       obtain ⟨pg',rfl⟩:=Int.eq_ofNat_of_zero_le (by have:=hstz.2.2.2.2.1;omega:0≤pg)
       obtain ⟨sl',rfl⟩:=Int.eq_ofNat_of_zero_le hstz.2.2.2.2.2.2.1
       have hV:=Ak4 hG.good hstz hW6 hD6 hld
       unfold T9 at hL hV
       clear hld
       generalize vsA (q.s).save=sv at *
       (refine wx_Skg ?_;repeat' (first|with_reducible refine And.intro ?_ ?_|intro hsp))
       all_goals first|(exfalso;omega)|exact K6 rfl|(exfalso;simp at hsp;done)
     ·have hL:=Ab8 hG.good (W:=W) (D:=D) (i:=i) (o:=o) hstz
      have hV:=Ab9 (s:=q.s) (W:=W) (D:=D) (i:=i) (o:=o) hstz
      unfold T9 at hL hV
      generalize vsA (q.s).save=sv at *
      (refine wx_Skg ?_;repeat' (first|with_reducible refine And.intro ?_ ?_|intro hsp))
      all_goals first|(exfalso;omega)|exact K6 rfl|(exfalso;simp at hsp;done)
   ·have h2:=v_New_no hg hst he
    have hg2:GoodS ((Sy.new p.l).chg p.a p.n 0 1 0).2:=BU9 hg (by decide)
    clear hg hst hwf hc
    unfold BA0 at *
    generalize Sy.new p.l=s0 at *
    generalize s0.chg p.a p.n 0 1 0=r at *
    (refine wx_Skg ?_;repeat' (first|with_reducible refine And.intro ?_ ?_|intro hsp))
    all_goals first|(exfalso;omega)|skip
    (refine F9 [2,3,5,6] (fun (u:Nat)=>[(8,.int .i64 0)]) (fun (u:Nat)=>⟨[(0,.cells [.int .i64 p.a,.int .i64 p.n,.int .i64 p.pg,.int .i64 p.sl,.isl (p.l.map rlA),.isl (p.X.map sacE)]),(1,.cells [.int .i64 a,.int .i64 n,.int .i64 pg,.int .i64 sl,.isl (W.map swA),.isl (D.map swD),.int .i64 i,.int .i64 o])]++[(2,.cells r.2.b)],3⟩) (fun (u:Nat)=>u=0) (fun (u:Nat)=>0) (0) [] rfl (fun _=>by first|exact Nat.zero_le _|(dsimp only;omega)) ?_ (by ((try (conv=>whnf));exact BA6)) ?_)
    ·rfl
    rintro u rfl
    have v2:=q_save hg2
    have hpl:=p_load hg2
    by_cases hstz:O5 a n pg sl
    ·by_cases hld:LdZ r.2 (T9 a n pg sl W D i o)
     ·obtain ⟨q1,hq,hqs,hz⟩:=hld
      have hL:=w_Load hq
      have hS:=BP7 hq (AS7 hq)
      have hm:=BM7 hq
      obtain ⟨q2,hV⟩:=v_Load hq hW6 hD6 hz
      rw [hqs] at hV
      rw [hz] at hL hS hm
      rw [hqs] at hL
      unfold T9 at hL hS hm hV
      clear hz hq
      generalize (⟨q1.whr,q1.dsk,Aa3 q1 q1.pages.length⟩:WS)=tl at *
      generalize vsA (r.2).save=sv at *
      (refine wx_Skgn ?_;repeat' (first|with_reducible refine And.intro ?_ ?_|intro hsp))
      all_goals first|(exfalso;omega)|exact K6 rfl
     ·have hL:=Ak2 hg2 hstz hW6 hD6 hld
      obtain ⟨a',rfl⟩:=Int.eq_ofNat_of_zero_le hstz.1
      obtain ⟨n',rfl⟩:=Int.eq_ofNat_of_zero_le (by have:=hstz.2.2.1;omega:0≤n)
      obtain ⟨pg',rfl⟩:=Int.eq_ofNat_of_zero_le (by have:=hstz.2.2.2.2.1;omega:0≤pg)
      obtain ⟨sl',rfl⟩:=Int.eq_ofNat_of_zero_le hstz.2.2.2.2.2.2.1
      have hV:=Ak4 hg2 hstz hW6 hD6 hld
      unfold T9 at hL hV
      clear hld
      generalize vsA (r.2).save=sv at *
      (refine wx_Skg ?_;repeat' (first|with_reducible refine And.intro ?_ ?_|intro hsp))
      all_goals first|(exfalso;omega)|exact K6 rfl|(exfalso;simp at hsp;done)
    ·have hL:=Ab8 hg2 (W:=W) (D:=D) (i:=i) (o:=o) hstz
     have hV:=Ab9 (s:=r.2) (W:=W) (D:=D) (i:=i) (o:=o) hstz
     unfold T9 at hL hV
     generalize vsA (r.2).save=sv at *
     (refine wx_Skg ?_;repeat' (first|with_reducible refine And.intro ?_ ?_|intro hsp))
     all_goals first|(exfalso;omega)|exact K6 rfl|(exfalso;simp at hsp;done)
  ·have h2:=v_New_far (s:=Sy.new p.l) hst
   clear hst hwf hc
   unfold BA0 at *
   generalize Sy.new p.l=s0 at *
   (refine wx_Skg ?_;repeat' (first|with_reducible refine And.intro ?_ ?_|intro hsp))
   all_goals first|(exfalso;omega)|skip
   (refine F9 [2,3,5,6] (fun (u:Nat)=>[(8,.int .i64 0)]) (fun (u:Nat)=>⟨[(0,.cells [.int .i64 p.a,.int .i64 p.n,.int .i64 p.pg,.int .i64 p.sl,.isl (p.l.map rlA),.isl (p.X.map sacE)]),(1,.cells [.int .i64 a,.int .i64 n,.int .i64 pg,.int .i64 sl,.isl (W.map swA),.isl (D.map swD),.int .i64 i,.int .i64 o])]++[(2,.cells s0.b)],3⟩) (fun (u:Nat)=>u=0) (fun (u:Nat)=>0) (0) [] rfl (fun _=>by first|exact Nat.zero_le _|(dsimp only;omega)) ?_ (by ((try (conv=>whnf));exact BA6)) ?_)
   ·rfl
   rintro u rfl
   have v2:=q_save hg
   have hpl:=p_load hg
   by_cases hstz:O5 a n pg sl
   ·by_cases hld:LdZ s0 (T9 a n pg sl W D i o)
    ·obtain ⟨q1,hq,hqs,hz⟩:=hld
     have hL:=w_Load hq
     have hS:=BP7 hq (AS7 hq)
     have hm:=BM7 hq
     obtain ⟨q2,hV⟩:=v_Load hq hW6 hD6 hz
     rw [hqs] at hV
     rw [hz] at hL hS hm
     rw [hqs] at hL
     unfold T9 at hL hS hm hV
     clear hz hq
     generalize (⟨q1.whr,q1.dsk,Aa3 q1 q1.pages.length⟩:WS)=tl at *
     generalize vsA (s0).save=sv at *
     (refine wx_Skgn ?_;repeat' (first|with_reducible refine And.intro ?_ ?_|intro hsp))
     all_goals first|(exfalso;omega)|exact K6 rfl
    ·have hL:=Ak2 hg hstz hW6 hD6 hld
     obtain ⟨a',rfl⟩:=Int.eq_ofNat_of_zero_le hstz.1
     obtain ⟨n',rfl⟩:=Int.eq_ofNat_of_zero_le (by have:=hstz.2.2.1;omega:0≤n)
     obtain ⟨pg',rfl⟩:=Int.eq_ofNat_of_zero_le (by have:=hstz.2.2.2.2.1;omega:0≤pg)
     obtain ⟨sl',rfl⟩:=Int.eq_ofNat_of_zero_le hstz.2.2.2.2.2.2.1
     have hV:=Ak4 hg hstz hW6 hD6 hld
     unfold T9 at hL hV
     clear hld
     generalize vsA (s0).save=sv at *
     (refine wx_Skg ?_;repeat' (first|with_reducible refine And.intro ?_ ?_|intro hsp))
     all_goals first|(exfalso;omega)|exact K6 rfl|(exfalso;simp at hsp;done)
   ·have hL:=Ab8 hg (W:=W) (D:=D) (i:=i) (o:=o) hstz
    have hV:=Ab9 (s:=s0) (W:=W) (D:=D) (i:=i) (o:=o) hstz
    unfold T9 at hL hV
    generalize vsA (s0).save=sv at *
    (refine wx_Skg ?_;repeat' (first|with_reducible refine And.intro ?_ ?_|intro hsp))
    all_goals first|(exfalso;omega)|exact K6 rfl|(exfalso;simp at hsp;done)
 ·have hnq:=q_new_no (l:=p.l) (i:=(AK4 p.l).1) (e:=(AK4 p.l).2) rfl hc
  unfold BA0 at *
  generalize (AK4 p.l).2=e at *
  (refine wx_Skg ?_;repeat' (first|with_reducible refine And.intro ?_ ?_|intro hsp))
  all_goals first|exact K6 rfl|(exfalso;omega)
end Go.Proofs.YtbhgfoikbkaohaaGreat.Sh
namespace Go.Am
open Go.ChangeShapes Go.WideShapes Go.ChangeAt Go.RowKit
inductive Ty where
 | bool|int (k:IntKind)|str|slice (e:Ty)|nil|cons (a b:Ty)|struct (T:Ty)|arr (k:IntKind) (n:Nat)
def Ty.size:Ty→Nat
 | .bool=>1
 | .int _=>1
 | .str=>1
 | .slice _=>1
 | .nil=>0
 | .cons a b=>a.size+b.size
 | .struct T=>T.size
 | .arr _ n=>n
def Aq3 (P:Program):Ty→(TypeId→Bool) × (Nat→List Field→Bool)
 | .bool=>(fun t=>match P.underlying t with|some .bool=>true|_=>false,fun _ _=>false)
 | .int k=>(fun t=>match P.underlying t with|some (.int k')=>decide (k=k')|_=>false,fun _ _=>false)
 | .str=>(fun t=>match P.underlying t with|some .string=>true|_=>false,fun _ _=>false)
 | .slice e=>(fun t=>match P.underlying t with|some (.slice e')=>(Aq3 P e).1 e' && decide (P.cellsOf e'=e.size) && decide (0 < e.size)|_=>false,fun _ _=>false)
 | .nil=>(fun _=>false,fun _ fs=>match fs with | []=>true|_::_=>false)
 | .cons a b=>(fun _=>false,fun off fs=>match fs with | []=>false|f::r=>decide (f.offset=off) && decide (P.cellsOf f.type=a.size) && (Aq3 P a).1 f.type && (Aq3 P b).2 (off+a.size) r)
 | .struct T=>(fun t=>match P.underlying t with|some (.struct fs)=>decide (P.cellsOf t=T.size) && (Aq3 P T).2 0 fs.toList|_=>false,fun _ _=>false)
 | .arr k n=>(fun t=>match P.underlying t with|some (.array n' e)=>decide (n'=n) && decide (P.cellsOf t=n) && decide (P.cellsOf e=1) && (match P.underlying e with|some (.int k')=>decide (k=k')|_=>false)|_=>false,fun _ _=>false)
def Shp:Ty→List AV→Prop
 | .bool,xs=>∃ b,xs=[.bool b]
 | .int k,xs=>∃ n,xs=[.int k n]∧(Lit.int k n).wf=true
 | .str,xs=>∃ s,xs=[.str s]∧s.size≤maxLen
 | .slice e,xs=>∃ els:List (List AV),xs=[.isl els]∧els.length≤maxLen∧∀ el ∈ els,Shp e el
 | .nil,xs=>xs=[]
 | .cons a b,xs=>∃ ys zs,xs=ys++zs∧Shp a ys∧Shp b zs
 | .struct T,xs=>Shp T xs
 | .arr k n,xs=>∃ l:List Int,xs=l.map (AV.int k)∧l.length=n∧∀ x ∈ l,(Lit.int k x).wf=true
theorem AX5 {α:Type} {p:Nat→α→Prop}:∀ n:Nat,(∀ i,i < n→∃ x,p i x)→∃ l:List α,l.length=n∧∀ i x,l[i]? = some x→p i x
 | 0,_=>⟨[],rfl,fun i x h=>by simp at h⟩
 | n+1,h=>by
  obtain ⟨l,hl,hp⟩:=AX5 n fun i hi=>h i (by omega)
  obtain ⟨x,hx⟩:=h n (by omega)
  refine ⟨l++[x],by simp [hl],fun i y hy=>?_⟩
  rcases Nat.lt_trichotomy i n with hi|rfl|hi
  ·rw [List.getElem?_append_left (by omega)] at hy;exact hp i y hy
  ·rw [List.getElem?_append_right (by omega),hl,Nat.sub_self] at hy;cases hy;exact hx
  ·rw [List.getElem?_eq_none (by simp [hl];omega)] at hy;cases hy
theorem one_int {k:IntKind} {n:Int}:One (.int k n):=⟨fun _ e=>(by cases e),fun _ e=>(by cases e)⟩
theorem one_bool {b:Bool}:One (.bool b):=⟨fun _ e=>(by cases e),fun _ e=>(by cases e)⟩
theorem one_str {b:ByteArray}:One (.string b):=⟨fun _ e=>(by cases e),fun _ e=>(by cases e)⟩
theorem Al8 {A:Option Addr} {n m:Nat}:One (.slice A n m):=⟨fun _ e=>(by cases e),fun _ e=>(by cases e)⟩
theorem Ad1 {c:Cx} {x:AV} {v:Value} {look:Nat→Option Value} (h:RR c x v) (ho:One v) (hl:look 0=some v):RC1 (RR c) [x] look:=fun j y hy=>by
 cases j with
 | zero=>cases hy;exact ⟨v,hl,h,ho⟩
 | succ j=>cases hy
theorem rc1_app {c:Cx} {xs ys:List AV} {look:Nat→Option Value} (h:RC1 (RR c) xs look) (h':RC1 (RR c) ys fun j=>look (xs.length+j)):RC1 (RR c) (xs++ys) look:=fun j y hy=>by
 by_cases hj:j < xs.length
 ·rw [List.getElem?_append_left hj] at hy;exact h j y hy
 ·rw [List.getElem?_append_right (by omega)] at hy
  obtain ⟨u,hu,hr⟩:=h' _ _ hy
  exact ⟨u,by rw [← hu];congr 1;omega,hr⟩
section
variable {P:Program} {H:Type} {enc:TypeId × Value→H} {spare:Nat→Bool} {held:Bool} {W:World}
def Rd1 (P:Program) (enc:TypeId × Value→H) (spare:Nat→Bool) (held:Bool) (W:World) (T:Ty):Prop:=∀ t,(Aq3 P T).1 t=true→∀ (fuel:Nat) (cs:List Value) (x:DataW H × List MemPlace),DataW.trod enc P W 0 spare held fuel t cs=some x →
  ∃ xs,Shp T xs∧xs.length=T.size∧cs.length=xs.length∧RC1 (RR (AK5 W)) xs fun j=>cs[j]?
def Rd2 (P:Program) (enc:TypeId × Value→H) (spare:Nat→Bool) (held:Bool) (W:World) (T:Ty):Prop:=∀ (off:Nat) (fs:List Field),(Aq3 P T).2 off fs=true→∀ (n:Nat) (cs:List Value),
  (∀ (i:Nat) (f:Field),fs[i]? = some f→∃ x,DataW.trod enc P W 0 spare held n f.type ((cs.drop f.offset).take (P.cellsOf f.type))=some x) →
  ∃ xs,Shp T xs∧xs.length=T.size∧RC1 (RR (AK5 W)) xs fun j=>cs[off+j]?
theorem read_slice {e:Ty} (ih:Rd1 P enc spare held W e):Rd1 P enc spare held W (.slice e):=fun t ht fuel cs x hx=>by
 simp only [Aq3] at ht
 split at ht
 case h_2=>cases ht
 case h_1 e' he' =>
 simp only [Bool.and_eq_true,decide_eq_true_eq] at ht
 obtain ⟨⟨h1,h2⟩,h3⟩:=ht
 rcases DataW.trod_slice he' hx with ⟨rfl,-⟩ | ⟨a,len,cap,elems,rest,n,-,rfl,-,-,hlc,hcm,hel,hE,-,-⟩
 ·refine ⟨[.isl []],⟨[],rfl,Nat.zero_le _,fun el h=>(by cases h)⟩,rfl,rfl,Ad1 (AD0.2 ⟨none,0,rfl,Nat.le_refl _,Nat.zero_le _,fun h=>absurd rfl h⟩) Al8 rfl⟩
 ·rw [h2] at hE
  have hget:∀ i,i < len→∃ ds y,W.cells? 0 (a.add (i * e.size)) e.size=some ds∧DataW.trod enc P W 0 spare held n e' ds=some y:=fun i hi=>by
   have hEi:=hE i hi
   obtain ⟨y,hy⟩:∃ y,elems[i]? = some y:=⟨elems[i]'(by omega),List.getElem?_eq_getElem _⟩
   rw [hy] at hEi
   obtain ⟨ds,hds,hd⟩:=Option.bind_eq_some_iff.1 hEi
   exact ⟨ds,y,hds,hd⟩
  rcases Nat.eq_zero_or_pos len with rfl|hpos
  ·exact ⟨[.isl []],⟨[],rfl,Nat.zero_le _,fun el h=>(by cases h)⟩,rfl,rfl,Ad1 (AD0.2 ⟨some a,cap,rfl,Nat.zero_le _,hcm,fun h=>absurd rfl h⟩) Al8 rfl⟩
  obtain ⟨ab,ao,asp⟩:=a
  have hsp:asp=none:=by
   obtain ⟨ds,y,hds,-⟩:=hget 0 hpos
   obtain ⟨-,hlen,hcell⟩:=World.cells?_some hds
   have hc0:=hcell 0 h3
   rw [List.getElem?_eq_getElem (by omega:0 < ds.length),Nat.zero_mul] at hc0
   have h8:=World.cell?_spot hc0
   simpa [Addr.add] using h8
  subst hsp
  have hx':∀ i,i < len→∃ el,Shp e el∧el.length=e.size∧ab < W.heap.size∧RC1 (RR (AK5 W)) el fun j=>W.cell? ⟨ab,ao+i * e.size+j,none⟩:=fun i hi=>by
   obtain ⟨ds,y,hds,hd⟩:=hget i hi
   obtain ⟨-,hlen,hcell⟩:=World.cells?_some hds
   obtain ⟨el,s1,s2,s3,s4⟩:=ih e' h1 n ds y hd
   have hcell':∀ j,j < e.size→W.cell? ⟨ab,ao+i * e.size+j,none⟩=ds[j]?:=fun j hj=>by
    have:=hcell j hj
    rwa [add_plain,add_plain] at this
   have hc0:=hcell' 0 h3
   rw [List.getElem?_eq_getElem (by omega:0 < ds.length)] at hc0
   have hbl:ab < W.heap.size:=by
    refine Classical.byContradiction fun hlt=>?_
    have hn:W.heap[ab]? = none:=by simp;omega
    simp [World.cell?,hn] at hc0
   refine ⟨el,s1,s2,hbl,s4.imp (fun _ _ h=>h) fun j u hu=>?_⟩
   have hj:j < ds.length:=(List.getElem?_eq_some_iff.1 hu).1
   rw [hcell' j (by omega)]
   exact hu
  obtain ⟨els,hl,hp⟩:=AX5 len hx'
  refine ⟨[.isl els],⟨els,rfl,by omega,fun el h=>?_⟩,rfl,rfl,Ad1 (AD0.2 ⟨some ⟨ab,ao,none⟩,cap,by rw [hl],by omega,hcm,fun hne=>?_⟩) Al8 rfl⟩
  ·obtain ⟨i,hi⟩:=List.mem_iff_getElem?.1 h
   exact (hp i el hi).1
  ·obtain ⟨e0,he0⟩:∃ e0,els[0]? = some e0:=by
    cases els with
    | nil=>exact absurd rfl hne
    | cons y ys=>exact ⟨y,rfl⟩
   exact ⟨ab,ao,e.size,rfl,BH2 (hp 0 e0 he0).2.2.1,fun k el hk=>⟨(hp k el hk).2.1,(hp k el hk).2.2.2⟩⟩
theorem read_all (T:Ty):Rd1 P enc spare held W T∧Rd2 P enc spare held W T:=by
 induction T with
 | bool =>
  refine ⟨fun t ht fuel cs x hx=>?_,fun off fs h=>by cases h⟩
  simp only [Aq3] at ht
  split at ht
  case h_2=>cases ht
  case h_1 he =>
  obtain ⟨b,rfl,-⟩:=DataW.trod_bool he hx
  exact ⟨[.bool b],⟨b,rfl⟩,rfl,rfl,Ad1 (RR_bool.2 rfl) one_bool rfl⟩
 | int k =>
  refine ⟨fun t ht fuel cs x hx=>?_,fun off fs h=>by cases h⟩
  simp only [Aq3] at ht
  split at ht
  case h_2=>cases ht
  case h_1 k' he =>
  obtain rfl:=of_decide_eq_true ht
  obtain ⟨n,rfl,-,hw⟩:=DataW.trod_int he hx
  exact ⟨[.int k n],⟨n,rfl,hw⟩,rfl,rfl,Ad1 (RR_int.2 rfl) one_int rfl⟩
 | str =>
  refine ⟨fun t ht fuel cs x hx=>?_,fun off fs h=>by cases h⟩
  simp only [Aq3] at ht
  split at ht
  case h_2=>cases ht
  case h_1 he =>
  obtain ⟨s,rfl,-,hw⟩:=DataW.trod_string he hx
  exact ⟨[.str s],⟨s,rfl,hw⟩,rfl,rfl,Ad1 (RR_str.2 rfl) one_str rfl⟩
 | slice e ih=>exact ⟨read_slice ih.1,fun off fs h=>by cases h⟩
 | nil =>
  refine ⟨fun t ht=>(by cases ht),fun off fs h n cs hcs=>?_⟩
  exact ⟨[],rfl,rfl,fun j x hx=>by simp at hx⟩
 | cons a b iha ihb =>
  refine ⟨fun t ht=>(by cases ht),fun off fs h n cs hcs=>?_⟩
  cases fs with
  | nil=>cases h
  | cons f r =>
   simp only [Aq3,Bool.and_eq_true,decide_eq_true_eq] at h
   obtain ⟨⟨⟨h1,h2⟩,h3⟩,h4⟩:=h
   obtain ⟨x,hx⟩:=hcs 0 f rfl
   obtain ⟨ys,s1,s2,s3,s4⟩:=iha.1 f.type h3 n _ x hx
   obtain ⟨zs,r1,r2,r3⟩:=ihb.2 _ r h4 n cs fun i g hg=>hcs (i+1) g hg
   refine ⟨ys++zs,⟨ys,zs,rfl,s1,r1⟩,by simp [s2,r2,Ty.size],rc1_app (s4.imp (fun _ _ h=>h) fun j u hu=>?_) (r3.imp (fun _ _ h=>h) fun j u hu=>?_)⟩
   ·rw [List.getElem?_take] at hu
    split at hu
    ·rw [List.getElem?_drop,h1] at hu;exact hu
    ·cases hu
   ·rw [s2,← hu];congr 1;omega
 | struct T ih =>
  refine ⟨fun t ht fuel cs x hx=>?_,fun off fs h=>by cases h⟩
  simp only [Aq3] at ht
  split at ht
  case h_2=>cases ht
  case h_1 fs he =>
  simp only [Bool.and_eq_true,decide_eq_true_eq] at ht
  obtain ⟨h1,h2⟩:=ht
  obtain ⟨xs,n,-,-,hl,hxl,hf⟩:=DataW.trod_struct he hx
  obtain ⟨ys,s1,s2,s3⟩:=ih.2 0 fs.toList h2 n cs fun i f hfi=>by
   have hfi':fs[i]? = some f:=by simpa using hfi
   have hi:i < fs.size:=(Array.getElem?_eq_some_iff.1 hfi').1
   exact ⟨xs[i]'(by omega),by rw [hf i f hfi'];exact List.getElem?_eq_getElem _⟩
  exact ⟨ys,s1,s2,by rw [hl,h1,s2],s3.imp (fun _ _ h=>h) fun j u hu=>by simpa using hu⟩
 | arr k n =>
  refine ⟨fun t ht fuel cs x hx=>?_,fun off fs h=>by cases h⟩
  simp only [Aq3] at ht
  split at ht
  case h_2=>cases ht
  case h_1 n' e he =>
  simp only [Bool.and_eq_true,decide_eq_true_eq] at ht
  obtain ⟨⟨⟨h1,h2⟩,h3⟩,h4⟩:=ht
  subst h1
  split at h4
  case h_2=>cases h4
  case h_1 k' hk' =>
  obtain rfl:=of_decide_eq_true h4
  obtain ⟨xs,m,-,-,hcl,hn,hel⟩:=DataW.trod_array he hx
  have hget:∀ i,i < n'→∃ z:Int,cs[i]? = some (.int k z)∧(Lit.int k z).wf=true:=fun i hi=>by
   have h0:=hel i hi
   rw [h3,Nat.mul_one] at h0
   obtain ⟨y,hy⟩:∃ y,xs[i]? = some y:=⟨xs[i]'(by omega),List.getElem?_eq_getElem _⟩
   rw [hy] at h0
   obtain ⟨z,e1,-,e3⟩:=DataW.trod_int hk' h0
   refine ⟨z,?_,e3⟩
   have h5:((cs.drop i).take 1)[0]? = some (.int k z):=by rw [e1];rfl
   rwa [List.getElem?_take,if_pos (by omega),List.getElem?_drop,Nat.add_zero] at h5
  obtain ⟨l,hl,hp⟩:=AX5 n' hget
  refine ⟨l.map (AV.int k),⟨l,rfl,hl,fun x hx=>?_⟩,by simp [hl,Ty.size],by rw [hcl,h2];simp [hl],fun j y hy=>?_⟩
  ·obtain ⟨i,hi⟩:=List.mem_iff_getElem?.1 hx
   exact (hp i x hi).2
  ·rw [List.getElem?_map] at hy
   obtain ⟨z,hz,rfl⟩:=Option.map_eq_some_iff.1 hy
   exact ⟨_,(hp j z hz).1,RR_int.2 rfl,one_int⟩
def argV:Ty→List AV→AV
 | .struct _,xs=>.agg xs
 | .arr _ _,xs=>.agg xs
 | _,x::_=>x
 | _,[]=>.undef
theorem Az3 {T:Ty} {xs:List AV} {v:Value} (hx:xs.length=1) (hv:v.cells.toList=[v]) (h:RC1 (RR (AK5 W)) xs fun j=>v.cells.toList[j]?):∃ x,xs=[x]∧RR (AK5 W) x v:=by
 match xs,hx with
 | [x],_ =>
  obtain ⟨u,hu,hr,-⟩:=h 0 x rfl
  rw [hv] at hu
  cases hu
  exact ⟨x,rfl,hr⟩
theorem arg_rr {T:Ty} {t:TypeId} {v:Value} {r:Reach} {base:Nat} {d:DataW H} {p:List MemPlace} (hT:(Aq3 P T).1 t=true) (hval:Value.okWide P W r base t v) (hd:DataW.Trod enc P W 0 spare held t v d p):∃ xs,Shp T xs∧RR (AK5 W) (argV T xs) v:=by
 obtain ⟨fuel,hf⟩:=hd
 obtain ⟨xs,s1,s2,s3,s4⟩:=(read_all T).1 t hT fuel _ _ hf
 refine ⟨xs,s1,?_⟩
 cases T with
 | nil=>cases hT
 | cons a b=>cases hT
 | bool =>
  simp only [Aq3] at hT
  split at hT
  case h_2=>cases hT
  case h_1 he =>
  obtain ⟨b,rfl⟩:=okWide_bool he hval
  obtain ⟨x,rfl,hr⟩:=Az3 (T:=.bool) s2 rfl s4
  exact hr
 | int k =>
  simp only [Aq3] at hT
  split at hT
  case h_2=>cases hT
  case h_1 k' he =>
  obtain ⟨b,rfl⟩:=okWide_int he hval
  obtain ⟨x,rfl,hr⟩:=Az3 (T:=.bool) s2 rfl s4
  exact hr
 | str =>
  simp only [Aq3] at hT
  split at hT
  case h_2=>cases hT
  case h_1 he =>
  obtain ⟨b,rfl⟩:=okWide_string he hval
  obtain ⟨x,rfl,hr⟩:=Az3 (T:=.bool) s2 rfl s4
  exact hr
 | slice e =>
  simp only [Aq3] at hT
  split at hT
  case h_2=>cases hT
  case h_1 k' he =>
  obtain ⟨a,l,c,rfl⟩:=okWide_slice he hval
  obtain ⟨x,rfl,hr⟩:=Az3 (T:=.bool) s2 rfl s4
  exact hr
 | struct T =>
  simp only [Aq3] at hT
  split at hT
  case h_2=>cases hT
  case h_1 fs he =>
  obtain ⟨cs,rfl,hcs⟩:=okWide_struct he hval
  exact AB4.2 ⟨cs,rfl,by simpa [Value.cells] using s3,s4.imp (fun _ _ h=>h) fun j u hu=>by simpa [Value.cells] using hu⟩
 | arr k n =>
  simp only [Aq3] at hT
  split at hT
  case h_2=>cases hT
  case h_1 n' e he =>
  have hcs:∃ cs,v = .agg cs∧cs.size=P.cellsOf t:=by
   simp only [Value.okWide,he] at hval
   obtain ⟨cs,h1,h2,_⟩:=hval
   exact ⟨cs,h1,h2⟩
  obtain ⟨cs,rfl,hcs⟩:=hcs
  exact AB4.2 ⟨cs,rfl,by simpa [Value.cells] using s3,s4.imp (fun _ _ h=>h) fun j u hu=>by simpa [Value.cells] using hu⟩
def ShpAll:List Ty→List (List AV)→Prop
 | [],[]=>True
 | T::Ts,xs::r=>Shp T xs∧ShpAll Ts r
 | _,_=>False
def tysOk (P:Program):List Ty→List TypeId→Bool
 | [],[]=>true
 | T::Ts,t::ts=>(Aq3 P T).1 t && tysOk P Ts ts
 | _,_=>false
def argVs:List Ty→List (List AV)→List AV
 | T::Ts,xs::r=>argV T xs::argVs Ts r
 | _, _ => []
theorem args_rr {r:Reach} {base:Nat}:∀ {Ts:List Ty} {ts:List TypeId} {vs:List Value} {ds:List (DataW H)} {ps:List MemPlace},tysOk P Ts ts=true→(∀ (j:Nat) t v,ts[j]? = some t→vs[j]? = some v→Value.okWide P W r base t v) →
  DataW.TrodAll enc P W 0 spare held ts vs ds ps→∃ xss,ShpAll Ts xss∧vs.length=(argVs Ts xss).length∧RCs (RR (AK5 W)) (argVs Ts xss) fun j=>vs[j]?
 | [],[],vs,ds,ps,_,_,hd=>by
  obtain ⟨rfl,rfl,rfl⟩:=trodAll_nil hd
  exact ⟨[],trivial,rfl,fun j x hx=>by cases hx⟩
 | T::Ts,t::ts,vs,ds,ps,hT,hv,hd=>by
  obtain ⟨v,vs',d,ds',p,q,rfl,rfl,rfl,h1,h2⟩:=trodAll_cons hd
  simp only [tysOk,Bool.and_eq_true] at hT
  obtain ⟨xs,s1,s2⟩:=arg_rr hT.1 (hv 0 t v rfl rfl) h1
  obtain ⟨xss,r1,r2,r3⟩:=args_rr hT.2 (fun j t v h h'=>hv (j+1) t v h h') h2
  refine ⟨xs::xss,⟨s1,r1⟩,by simp [argVs,r2],fun j x hx=>?_⟩
  cases j with
  | zero=>cases hx;exact ⟨v,rfl,s2⟩
  | succ j=>exact r3 j x hx
theorem BH5 (hl:laidOutB P=true) {W':World} (hb:Below W.heap.size W W') {sp:Nat→Bool}:∀ {ts:List TypeId} {vs:List Value} {ds:List (DataW H)} {ps:List MemPlace},(∀ t ∈ ts,P.readableRec t=true∧t < P.types.size) →
  DataW.TrodAll enc P W 0 (fun _=>true) true ts vs ds ps→(∀ x ∈ ps,x.block < W.heap.size)→(∀ x ∈ ps,sp x.block=true)→DataW.TrodAll enc P W' 0 sp true ts vs ds ps
 | [],vs,ds,ps,_,hd,_,_=>by
  obtain ⟨rfl,rfl,rfl⟩:=trodAll_nil hd
  rfl
 | t::ts,vs,ds,ps,ht,hd,hlt,hsp=>by
  obtain ⟨v,vs',d,ds',p,q,rfl,rfl,rfl,h1,h2⟩:=trodAll_cons hd
  have ht0:=ht t (by simp)
  exact ⟨p,q,WideElems.Trod_stays hl ht0.1 ht0.2 h1 (fun x hx=>hb.same (hlt x (by simp [hx]))) (fun x hx=>hsp x (by simp [hx])),BH5 hl hb (fun t' h'=>ht t' (by simp [h'])) h2 (fun x hx=>hlt x (by simp [hx])) (fun x hx=>hsp x (by simp [hx])),rfl⟩
end
end Go.Am
namespace Go.Proofs.YtbhgfoikbkaohaaGreat
open Go Go.Am Go.Pol
open Go.ChangeShapes Go.WideShapes Go.ChangeAt Go.WideElems Go.RowKit
theorem own:ownKnob Tryz.prog.godebug=none:=by kernel_rfl
theorem glo (c:Cx):AV2 G0 c:=fun n cs h=>by cases h
theorem BE3 {α:Type} {f:α→List AV} {q:α→Prop}:∀ {els:List (List AV)},(∀ el ∈ els,∃ c,el=f c∧q c)→∃ l:List α,els=l.map f∧∀ c ∈ l,q c
 | [],_=>⟨[],rfl,fun c hc=>by cases hc⟩
 | el::els,h=>by
  obtain ⟨c,rfl,hq⟩:=h el (List.mem_cons_self ..)
  obtain ⟨l,rfl,hl⟩:=BE3 fun e he=>h e (List.mem_cons_of_mem _ he)
  exact ⟨c::l,rfl,fun d hd=>(List.mem_cons.1 hd).elim (fun e=>e▸hq) (hl d)⟩
theorem wf_u8 {n:Int} (h:(Lit.int .u8 n).wf=true):∃ m:Nat,n=(m:Int)∧m < 256:=by
 simp [Lit.wf,IntKind.min,IntKind.max,IntKind.signed,IntKind.bits] at h
 exact ⟨n.toNat,by omega,by omega⟩
theorem wf_i64 {n:Int} (h:(Lit.int .i64 n).wf=true):-9223372036854775808≤n∧n≤9223372036854775807:=by
 simp [Lit.wf,IntKind.min,IntKind.max,IntKind.signed,IntKind.bits] at h
 omega
def i64 (n:Int):Prop:=-9223372036854775808≤n∧n≤9223372036854775807
theorem shp_two {T U:Ty}:∀ {xss:List (List AV)},ShpAll [T,U] xss→∃ xs ys,xss=[xs,ys]∧Shp T xs∧Shp U ys
 | [xs,ys],h=>⟨xs,ys,rfl,h.1,h.2.1⟩
 | [],h=>h.elim
 | [_],h=>h.2.elim
 | _::_::_::_,h=>h.2.2.elim
def rlT:Ty:=.struct (.cons (.int .i64) (.cons (.int .i64) (.cons (.int .i64) (.cons (.int .i64) .nil))))
def planT:Ty:=.struct (.cons (.slice rlT) .nil)
def actT:Ty:=.struct (.cons (.int .u8) (.cons (.int .i64) (.cons (.int .i64) (.cons (.int .i64) (.cons (.int .u8) (.cons planT .nil))))))
def playT:Ty:=.struct (.cons (.int .i64) (.cons (.int .i64) (.cons (.int .i64) (.cons (.int .i64) (.cons planT (.cons (.slice actT) .nil))))))
def okA (x:SAc):Prop:=0≤x.w∧0≤x.v∧x.v < 256
theorem shp_rl {xs:List AV} (h:Shp rlT xs):∃ x:Rl,xs=rlA x:=by
 obtain ⟨y1,z1,rfl,⟨a,rfl,-⟩,y2,z2,rfl,⟨b,rfl,-⟩,y3,z3,rfl,⟨c,rfl,-⟩,y4,z4,rfl,⟨d,rfl,-⟩,rfl⟩:=h
 exact ⟨⟨a,b,c,d⟩,rfl⟩
theorem BQ5 {xs:List AV} (h:Shp planT xs):∃ l:List Rl,xs=[AV.isl (l.map rlA)]:=by
 obtain ⟨y1,z1,rfl,⟨els,rfl,hl,he⟩,rfl⟩:=h
 obtain ⟨l,rfl,-⟩:=BE3 (f:=rlA) (q:=fun _=>True) fun el hel=>(shp_rl (he el hel)).imp fun _ h=>⟨h,trivial⟩
 exact ⟨l,rfl⟩
theorem shp_act {xs:List AV} (h:Shp actT xs):∃ x:SAc,xs=sacE x∧okA x:=by
 obtain ⟨y1,z1,rfl,⟨w,rfl,hw⟩,y2,z2,rfl,⟨p,rfl,-⟩,y3,z3,rfl,⟨n,rfl,-⟩,y4,z4,rfl,⟨t,rfl,-⟩,y5,z5,rfl,⟨b,rfl,hb⟩,y6,z6,rfl,h6,rfl⟩:=h
 obtain ⟨m,rfl,hm⟩:=wf_u8 hw
 obtain ⟨v,rfl,hv⟩:=wf_u8 hb
 obtain ⟨l,rfl⟩:=BQ5 h6
 exact ⟨⟨(m:Nat),p,n,t,(v:Nat),l⟩,rfl,Int.natCast_nonneg m,Int.natCast_nonneg v,by show ((v:Nat):Int) < 256;omega⟩
theorem shp_play {xs:List AV} (h:Shp playT xs):∃ p:SPy,xs=BA0 p∧p.X.length≤maxLen∧(∀ x ∈ p.X,okA x)∧i64 p.n:=by
 obtain ⟨y1,z1,rfl,⟨a,rfl,-⟩,y2,z2,rfl,⟨n,rfl,hn⟩,y3,z3,rfl,⟨pg,rfl,-⟩,y4,z4,rfl,⟨sl,rfl,-⟩,y5,z5,rfl,h5,y6,z6,rfl,⟨els,rfl,hl,he⟩,rfl⟩:=h
 obtain ⟨l,rfl⟩:=BQ5 h5
 obtain ⟨X,rfl,hq⟩:=BE3 (f:=sacE) (q:=okA) fun el hel=>shp_act (he el hel)
 exact ⟨⟨a,n,pg,sl,l,X⟩,rfl,by rw [List.length_map] at hl;exact hl,hq,wf_i64 hn⟩
end Go.Proofs.YtbhgfoikbkaohaaGreat
