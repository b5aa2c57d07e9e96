/-
 The program's Load,of a state that cannot be loaded.
 Two states are compared.
 The document's store: its memory.
 The document's store: contracts of its calls.
 The document's store: looks.
-/
import Derived.Test.YtbhgfoikbkaohaaGreatQar
set_option linter.unusedSimpArgs false
set_option linter.unusedVariables false
set_option maxHeartbeats 12800000
namespace Go.Pol
open Go.Am Go.Proofs.YtbhgfoikbkaohaaGreat.Sh
def keyS (D:List (Int × (Nat→Int))) (k:Nat):Int:=(nth d5 D k).1
def keyW (W:List (Int × Int × Int × Int)) (k:Nat):Int:=(nth d4 W k).1
theorem use_or {W:List (Int × Int × Int × Int)} {j:Nat} {k:Int}:mgI (Ac0 W j) k=none∨mgI (Ac0 W j) k=some true:=by
 cases h:mgI (Ac0 W j) k with
 | none=>exact .inl rfl
 | some b =>
  obtain ⟨_,_,_,_,_,rfl⟩:=Au7 (As7 h)
  exact .inr rfl
theorem lastK_0 {K:Nat→Int}:Aw2 K 0 = -1:=rfl
theorem takeS_0 {D:List (Int × (Nat→Int))}:D.take 0=[]:=rfl
theorem takeW_0 {W:List (Int × Int × Int × Int)}:W.take 0=[]:=rfl
end Go.Pol
namespace Go.Proofs.YtbhgfoikbkaohaaGreat.Sh
open Go Go.Am Go.Pol
theorem plx_Skb {p:Prop} (h:p:=by ((first|exact plw|(with_reducible first|apply O7|apply N8 _|apply N9 _|apply M6 _|apply Al4 _|apply Y7|apply N7|apply L9|apply U3|apply V3|apply F8 Q8|apply F8 Y8|apply G6 H7|apply AM5|apply H9|fail)|fail);first|done|fail)):p:=h
theorem ppx_Skb {p:Prop} (h:p:=by ((first|with_reducible assumption|(with_reducible first|apply F7|apply E9|apply AC0|apply AB0|apply AN3|apply H7|fail)|exact ppw|fail);first|done|fail)):p:=h
open Go.Proofs.YtbhgfoikbkaohaaGreat.Sh renaming plx_Skb → plx
open Go.Proofs.YtbhgfoikbkaohaaGreat.Sh renaming ppx_Skb → ppx
theorem wx_Skb {p q:Prop} (hq:q) (h:Y3 q→p:=by (intro hQz;((repeat' ((try (conv=>whnf));first|refine sxA ?_|refine Z7 (d:=d4) AG4 (by first|assumption|omega) hnt ?_|refine AH5 hp rfl ?_|refine AC5 hp rfl ?_|refine sxF ?_|refine K3 hc rfl (by decide) ?_|refine M0 hstd ?_|refine K3 hkd rfl (by decide) ?_|refine sxH ?_|((with_reducible first|apply U1 hQz|apply U2 hQz)<;>(try intro hsp hQz))|exact hQz.out))<;>(try (conv=>whnf))))):p:=h ⟨hq⟩
theorem wx_Skbn {p q:Prop} (hq:q) (h:Y3 q→p:=by (intro hQz;((repeat' ((try (conv=>whnf));first|(with_reducible first|refine P6 ?_|refine K4 ?_|refine P9 ?_|refine Q5 ?_|refine K9 ?_|refine U9 ?_|refine O9 ?_|refine U8 rfl ?_|refine P5 ?_|refine I5 ?_|refine K7 ?_|refine K8 ?_|refine Q0 ?_|refine I4 ?_|refine K5 (by decide +kernel) ?_|refine J6 (by decide +kernel) ?_|refine AG2 ?_|refine AG3 ?_|refine Aj5 ?_|refine r9 ?_|refine AI4 ?_|refine Ag9 (by assumption) ?_|refine Ah0 (by assumption) ?_|refine p9 (by omega) ?_|refine AI2 ?_)|((with_reducible refine AI5 ?_ ?_);focus omega)|((with_reducible refine AI6 ?_ ?_);focus omega)|((with_reducible apply U1 hQz)<;>(try intro hsp hQz))|((with_reducible refine Aj3 ?_ ?_);focus (first|omega|rfl|assumption|decide|(simp only [List.length_map,List.length_cons,List.length_nil];omega)|(simp only [List.length_cons];omega)))|(with_reducible first|refine AH9 ?_|refine p8 ?_|refine o9 ?_|refine AI1 ?_|refine AI0 ?_|refine AH7 ?_|refine Aj0 ?_|refine I6 ?_|refine l9 ?_|refine P8 ?_|refine P7 ?_|refine I7 ?_|refine AH8 (by omega) ?_|refine o8 (by omega) ?_)|refine Z7 (d:=d5) R6 (by first|assumption|omega) hnt ?_|refine R4 (by rw [R6];omega) List.drop_zero (J7 (by rw [R6];omega) (List.take_of_length_le (by rw [R6];omega)) ?_)|refine J7 (cs:=bcA x) (m:=64) (Nat.le_of_eq L8.symm) AG9 ?_|refine R4 (cs:=bcA x) (Nat.zero_le _) List.drop_zero (J7 (cs:=bcA x) (m:=64) (Nat.le_of_eq L8.symm) AG9 ?_)|refine U4 (by first|(simp only [List.length_cons,List.length_nil];omega)|fail) (Ad5 hyl) ?_|refine AM8 rfl x rfl ?_|refine Z7 (d:=d4) AG4 (by first|assumption|omega) hnt ?_|refine AH5 hH rfl ?_|refine Am1 hD Aj6 rfl ?_|refine ⟨L8,?_⟩|refine U4 (by simp only [List.length_replicate,L8];omega) hov ?_|refine AM8 rfl e.1 rfl ?_|refine AM8 rfl e.2 rfl ?_|refine AC5 hD rfl ?_|refine Am2 hU rfl ?_|refine AM8 rfl true rfl ?_|refine AC4 hU rfl ?_|refine AC5 hH rfl ?_|refine BT3 rfl ?_|refine sxN ?_|refine sxH ?_|((with_reducible apply U2 hQz)<;>(try intro hsp hQz))|exact hQz.out))<;>(try (conv=>whnf))))):p:=h ⟨hq⟩
section
variable {s:Sy} {a n pg sl i o:Int} {W:List (Int × Int × Int × Int)} {D:List (Int × (Nat→Int))}
theorem Ab8 (hg:GoodS s) (hst:¬ O5 a n pg sl):j6 12 [.agg (T9 a n pg sl W D i o)] s.a (.tup [.nilp,.int .i64 7]) s.a:=by
 have hc:=Ai1 hg
 have hstd:=Ai6 a n pg sl
 rw [decide_eq_false hst] at hstd
 unfold Sy.counts at hc
 refine j6.mk (I8 G9 b12 rfl ?_) F7 F7 (R3 (G6 H7)) H9
 unfold c12
 unfold T9
 generalize AU5 s.K 0 1024=n0 at *
 generalize AU5 s.K 1 1024=n1 at *
 generalize AU5 s.K 2 1024=n2 at *
 generalize AU5 s.K 3 1024=n3 at *
 generalize cntG s.G 64=n4 at *
 (refine wx_Skb ?_;repeat' (first|with_reducible refine And.intro ?_ ?_|intro hsp))
 all_goals first|(exfalso;omega)|exact O6 rfl H9 rfl F7
set_option maxRecDepth 20000 in
theorem Ak2 (hg:GoodS s) (hst:O5 a n pg sl) (hlW:W.length≤600) (hlD:D.length≤600) (hno:¬ LdZ s (T9 a n pg sl W D i o)):j6 12 [.agg (T9 a n pg sl W D i o)] s.a (.tup [.nilp,.int .i64 6]) s.a:=by
 have hc:=Ai1 hg
 have hstd:=Ai6 a n pg sl
 rw [decide_eq_true hst] at hstd
 unfold Sy.counts at hc
 have hst':=hst
 obtain ⟨z1,z2,z3,z4,z5,z6,z7,z8⟩:=hst'
 refine j6.mk (I8 G9 b12 rfl ?_) F7 F7 (R3 (G6 H7)) H9
 unfold c12
 unfold T9
 generalize AU5 s.K 0 1024=n0 at *
 generalize AU5 s.K 1 1024=n1 at *
 generalize AU5 s.K 2 1024=n2 at *
 generalize AU5 s.K 3 1024=n3 at *
 generalize cntG s.G 64=n4 at *
 have hd0:=takeS_0 (D:=D)
 have hz0:=lastK_0 (K:=keyS D)
 (refine wx_Skb ?_;repeat' (first|with_reducible refine And.intro ?_ ?_|intro hsp))
 (refine F9 [0,3,8,62,63] (fun (j:Nat)=>[(9,.int .i64 (Aw2 (keyS D) j)),(64,.int .i64 (j:Nat))]) (fun (j:Nat)=>⟨[(6,.cells [.ptr 0 0,.int .i64 a,.int .i64 n,.int .i64 pg,.int .i64 sl,.mapr 3,.mapr 4,.mapr 5,.int .i64 i,.int .i64 o]),(3,.maps (encW pgE [])),(4,.maps (encW byE (D.take j))),(5,.maps (encW nuE [])),(0,.cells s.a),(1,.cells [.int .i64 a,.int .i64 n,.int .i64 pg,.int .i64 sl,.isl (W.map swA),.isl (D.map swD),.int .i64 i,.int .i64 o])],7⟩) (fun (j:Nat)=>j≤D.length∧Asc (keyS D) j∧∀ k,k < j→keyS D k < sl) (fun (j:Nat)=>D.length - j) (0) [] rfl (fun _=>by first|exact Nat.zero_le _|(dsimp only;omega)) ?_ (by ((try (conv=>whnf));(rw [hd0,hz0,Y1,Y1,Y1]);exact AN6)) ?_)
 ·exact ⟨Nat.zero_le _,fun i hi=>absurd hi (Nat.not_lt_zero _),fun i hi=>absurd hi (Nat.not_lt_zero _)⟩
 rintro j ⟨hj,hA,hB⟩
 clear hd0 hz0
 by_cases hjl:j < D.length
 ·have hke:keyS D j=(nth d5 D j).1:=rfl
  have hnx:Aw2 (keyS D) (j+1)=keyS D j:=rfl
  have hws:=Ac1 (d:=d5) hjl
  by_cases hok:Aw2 (keyS D) j < keyS D j∧keyS D j < sl
  ·have hA1:=asc_s hA hok.1
   have hmn:=BX0 (d:=d5) hA1 hjl
   have hnext:j+1≤D.length∧Asc (keyS D) (j+1)∧∀ k,k < j+1→keyS D k < sl:=⟨hjl,hA1,fun k hk=>by
    by_cases ek:k=j
    ·rw [ek];exact hok.2
    ·exact hB k (by omega)⟩
   clear hA hB
   rw [hke] at hnx hok
   obtain ⟨⟨k,x⟩,hnt⟩:∃ e,nth d5 D j=e:=⟨_,rfl⟩
   rw [hnt] at hmn hws hnx hok
   have hmp:=AP1 (v:=x) hmn
   dsimp only at hmp hnx hok
   have hyl:(bcA x).length=64:=L8
   (refine wx_Skbn ?_;repeat' (first|with_reducible refine And.intro ?_ ?_|intro hsp))
   all_goals first|(exfalso;omega)|(exfalso;dsimp only at hsp;omega)|exact D6 (j+1) [] hnext (by first|omega|(dsimp only;omega)) rfl (by ((try dsimp only);rw [hws,hmp,hnx]);exact AN6)
  ·clear hA hB
   rw [hke] at hok
   obtain ⟨⟨k,x⟩,hnt⟩:∃ e,nth d5 D j=e:=⟨_,rfl⟩
   rw [hnt] at hok
   dsimp only at hok
   have hyl:(bcA x).length=64:=L8
   (refine wx_Skbn ?_;repeat' (first|with_reducible refine And.intro ?_ ?_|intro hsp))
   all_goals first|exact O6 rfl H9 rfl F7|(exfalso;omega)|(exfalso;dsimp only at *;omega)
 ·obtain rfl:j=D.length:=by omega
  rw [List.take_length]
  have hw0:=takeW_0 (W:=W)
  have hl0:=lastK_0 (K:=keyW W)
  have hh0:=helW_0 (W:=W)
  have hu0:=useW_0 (W:=W)
  have hAD:=hA
  have hBD:=hB
  clear hA hB
  (refine wx_Skb ?_;repeat' (first|with_reducible refine And.intro ?_ ?_|intro hsp))
  all_goals first|(exfalso;omega)|skip
  (refine F9 [0,3,8,12,92,93] (fun (j:Nat)=>[(9,.int .i64 (Aw2 (keyW W) j)),(94,.int .i64 (j:Nat))]) (fun (j:Nat)=>⟨[(6,.cells [.ptr 0 0,.int .i64 a,.int .i64 n,.int .i64 pg,.int .i64 sl,.mapr 3,.mapr 4,.mapr 5,.int .i64 i,.int .i64 o]),(3,.maps (encW pgE (W.take j))),(4,.maps (encW byE D)),(5,.maps (encW nuE (At2 W j))),(7,.maps (encW boE (Ac0 W j))),(0,.cells s.a),(1,.cells [.int .i64 a,.int .i64 n,.int .i64 pg,.int .i64 sl,.isl (W.map swA),.isl (D.map swD),.int .i64 i,.int .i64 o])],8⟩) (fun (j:Nat)=>j≤W.length∧Asc (keyW W) j∧∀ k,k < j→okW a n pg W D k) (fun (j:Nat)=>W.length - j) (0) [] rfl (fun _=>by first|exact Nat.zero_le _|(dsimp only;omega)) ?_ (by ((try (conv=>whnf));(rw [hw0,hl0,hh0,hu0,Y1,Y1,Y1]);exact AN6)) ?_)
  ·exact ⟨Nat.zero_le _,fun i hi=>absurd hi (Nat.not_lt_zero _),fun i hi=>absurd hi (Nat.not_lt_zero _)⟩
  rintro j ⟨hj,hA,hok⟩
  clear hw0 hl0 hh0 hu0
  by_cases hjl:j < W.length
  ·have hke:keyW W j=(nth d4 W j).1:=rfl
   have hnx:Aw2 (keyW W) (j+1)=keyW W j:=rfl
   have sW:=Ac1 (d:=d4) hjl
   by_cases hpp:Aw2 (keyW W) j < keyW W j∧(nth d4 W j).1 < pg∧0≤(nth d4 W j).2.2.2∧(nth d4 W j).2.2.2≤1000000000000
   ·have hA1:=asc_s hA hpp.1
    have hmn:=BX0 (d:=d4) hA1 hjl
    clear hA
    rw [hke] at hnx hpp
    obtain ⟨e,hnt⟩:∃ e,nth d4 W j=e:=⟨_,rfl⟩
    rw [hnt] at hmn sW hnx hpp
    have mW:=AP1 (v:=e.2) hmn
    cases hH:mgI (At2 W j) e.2.1 with
    | none =>
     by_cases cF:e.2.2.1 = -1∧a≤e.2.1∧e.2.1 < a+n
     ·have h0F:0≤e.2.1:=by omega
      have sH:=helW_f hjl (by rw [hnt];exact h0F)
      have sU:=useW_f hjl (by rw [hnt];exact h0F)
      rw [hnt] at sH
      have mH:=AP1 (v:=e.1) hH
      have hnext:j+1≤W.length∧Asc (keyW W) (j+1)∧∀ k,k < j+1→okW a n pg W D k:=⟨hjl,hA1,fun k hk=>by
       by_cases ek:k=j
       ·rw [ek];unfold okW;rw [hnt];exact ⟨⟨hpp.2.1,hpp.2.2.1,hpp.2.2.2⟩,.inl ⟨cF.1,cF.2.1,cF.2.2,hH⟩⟩
       ·exact hok k (by omega)⟩
      cases hD:mgI D e.2.2.1 with
      | none =>
       have hov:=Z4 (x:=fun _=>0)
       (refine wx_Skbn ?_;repeat' (first|with_reducible refine And.intro ?_ ?_|intro hsp))
       all_goals first|(exfalso;omega)|exact D6 (j+1) [] hnext (by first|omega|(dsimp only;omega)) rfl (by ((try dsimp only);rw [sW,mW,sH,mH,sU,hnx]);exact AN6)
      | some x =>
       have hov:=Z4 (x:=x)
       (refine wx_Skbn ?_;repeat' (first|with_reducible refine And.intro ?_ ?_|intro hsp))
       all_goals first|(exfalso;omega)|exact D6 (j+1) [] hnext (by first|omega|(dsimp only;omega)) rfl (by ((try dsimp only);rw [sW,mW,sH,mH,sU,hnx]);exact AN6)
     ·cases hD:mgI D e.2.2.1 with
      | none =>
       have hov:=Z4 (x:=fun _=>0)
       (refine wx_Skbn ?_;repeat' (first|with_reducible refine And.intro ?_ ?_|intro hsp))
       all_goals first|(exfalso;omega)|exact O6 rfl H9 rfl F7
      | some x =>
       rcases (show mgI (Ac0 W j) e.2.2.1=none∨mgI (Ac0 W j) e.2.2.1=some true from use_or) with hU|hU
       ·by_cases cT:e.2.1 = -1
        ·have h0F:¬ 0≤e.2.1:=by omega
         have sH:=helW_t hjl (by rw [hnt];exact h0F)
         have sU:=useW_t hjl (by rw [hnt];exact h0F)
         rw [hnt] at sU
         have mU:=AP1 (v:=true) hU
         have hnext:j+1≤W.length∧Asc (keyW W) (j+1)∧∀ k,k < j+1→okW a n pg W D k:=⟨hjl,hA1,fun k hk=>by
          by_cases ek:k=j
          ·rw [ek];unfold okW;rw [hnt];exact ⟨⟨hpp.2.1,hpp.2.2.1,hpp.2.2.2⟩,.inr ⟨cT,⟨x,hD⟩,hU⟩⟩
          ·exact hok k (by omega)⟩
         have hov:=Z4 (x:=x)
         (refine wx_Skbn ?_;repeat' (first|with_reducible refine And.intro ?_ ?_|intro hsp))
         all_goals first|(exfalso;omega)|exact D6 (j+1) [] hnext (by first|omega|(dsimp only;omega)) rfl (by ((try dsimp only);rw [sW,mW,sH,sU,mU,hnx]);exact AN6)
        ·have hov:=Z4 (x:=x)
         (refine wx_Skbn ?_;repeat' (first|with_reducible refine And.intro ?_ ?_|intro hsp))
         all_goals first|(exfalso;omega)|exact O6 rfl H9 rfl F7
       ·have hov:=Z4 (x:=x)
        (refine wx_Skbn ?_;repeat' (first|with_reducible refine And.intro ?_ ?_|intro hsp))
        all_goals first|(exfalso;omega)|exact O6 rfl H9 rfl F7
    | some y =>
     cases hD:mgI D e.2.2.1 with
     | none =>
      have hov:=Z4 (x:=fun _=>0)
      (refine wx_Skbn ?_;repeat' (first|with_reducible refine And.intro ?_ ?_|intro hsp))
      all_goals first|(exfalso;omega)|exact O6 rfl H9 rfl F7
     | some x =>
      rcases (show mgI (Ac0 W j) e.2.2.1=none∨mgI (Ac0 W j) e.2.2.1=some true from use_or) with hU|hU
      ·by_cases cT:e.2.1 = -1
       ·have h0F:¬ 0≤e.2.1:=by omega
        have sH:=helW_t hjl (by rw [hnt];exact h0F)
        have sU:=useW_t hjl (by rw [hnt];exact h0F)
        rw [hnt] at sU
        have mU:=AP1 (v:=true) hU
        have hnext:j+1≤W.length∧Asc (keyW W) (j+1)∧∀ k,k < j+1→okW a n pg W D k:=⟨hjl,hA1,fun k hk=>by
         by_cases ek:k=j
         ·rw [ek];unfold okW;rw [hnt];exact ⟨⟨hpp.2.1,hpp.2.2.1,hpp.2.2.2⟩,.inr ⟨cT,⟨x,hD⟩,hU⟩⟩
         ·exact hok k (by omega)⟩
        have hov:=Z4 (x:=x)
        (refine wx_Skbn ?_;repeat' (first|with_reducible refine And.intro ?_ ?_|intro hsp))
        all_goals first|(exfalso;omega)|exact D6 (j+1) [] hnext (by first|omega|(dsimp only;omega)) rfl (by ((try dsimp only);rw [sW,mW,sH,sU,mU,hnx]);exact AN6)
       ·have hov:=Z4 (x:=x)
        (refine wx_Skbn ?_;repeat' (first|with_reducible refine And.intro ?_ ?_|intro hsp))
        all_goals first|(exfalso;omega)|exact O6 rfl H9 rfl F7
      ·have hov:=Z4 (x:=x)
       (refine wx_Skbn ?_;repeat' (first|with_reducible refine And.intro ?_ ?_|intro hsp))
       all_goals first|(exfalso;omega)|exact O6 rfl H9 rfl F7
   ·clear hA
    rw [hke] at hpp
    obtain ⟨e,hnt⟩:∃ e,nth d4 W j=e:=⟨_,rfl⟩
    rw [hnt] at hpp
    (refine wx_Skb ?_;repeat' (first|with_reducible refine And.intro ?_ ?_|intro hsp))
    all_goals first|exact O6 rfl H9 rfl F7|(exfalso;omega)
  ·obtain rfl:j=W.length:=by omega
   rw [List.take_length]
   by_cases hus:(Ac0 W W.length).length=D.length
   ·by_cases hmn:0≤i∧i≤1000000000∧0≤o∧o≤1000000000
    ·(refine wx_Skbn ?_;repeat' (first|with_reducible refine And.intro ?_ ?_|intro hsp))
     all_goals first|(exfalso;omega)|skip
     obtain ⟨a,rfl⟩:=Int.eq_ofNat_of_zero_le z1
     obtain ⟨n,rfl⟩:=Int.eq_ofNat_of_zero_le (by omega:0≤n)
     (refine F9 [0,3,8] (fun (v:Nat)=>[(19,.int .i64 ((a+v:Nat):Int))]) (fun (v:Nat)=>⟨[(6,.cells [.ptr 0 0,.int .i64 (a:Nat),.int .i64 (n:Nat),.int .i64 pg,.int .i64 sl,.mapr 3,.mapr 4,.mapr 5,.int .i64 i,.int .i64 o]),(3,.maps (encW pgE W)),(4,.maps (encW byE D)),(5,.maps (encW nuE (At2 W W.length))),(0,.cells s.a),(1,.cells [.int .i64 (a:Nat),.int .i64 (n:Nat),.int .i64 pg,.int .i64 sl,.isl (W.map swA),.isl (D.map swD),.int .i64 i,.int .i64 o])],7⟩) (fun (v:Nat)=>v≤n∧∀ k,k < v→s.M (a+k)=false∧(s.K (a+k)=2∨(s.K (a+k)=1∧mgI (At2 W W.length) ((a+k:Nat):Int)=none))) (fun (v:Nat)=>n - v) (0) [] rfl (fun _=>by first|exact Nat.zero_le _|(dsimp only;omega)) ?_ (by ((try (conv=>whnf));exact AN6)) ?_)
     ·exact ⟨Nat.zero_le _,fun i hi=>absurd hi (Nat.not_lt_zero _)⟩
     rintro v ⟨hv,hfr⟩
     by_cases hvl:v < n
     ·have hkd:=BS5 (s:=s) (a:=(a+v:Nat))
      rw [AA9 (by omega) rfl] at hkd
      by_cases hfo:s.M (a+v)=false∧(s.K (a+v)=2∨(s.K (a+v)=1∧mgI (At2 W W.length) ((a+v:Nat):Int)=none))
      ·have hnext:v+1≤n∧∀ k,k < v+1→s.M (a+k)=false∧(s.K (a+k)=2∨(s.K (a+k)=1∧mgI (At2 W W.length) ((a+k:Nat):Int)=none)):=⟨hvl,fun k hk=>by
        by_cases ek:k=v
        ·rw [ek];exact hfo
        ·exact hfr k (by omega)⟩
       obtain ⟨hM,hK⟩:=hfo
       clear hfr
       rw [hM] at hkd
       generalize s.K (a+v)=kk at *
       cases hp:mgI (At2 W W.length) ((a+v:Nat):Int) with
       | none =>
        have hK2:kk=2∨kk=1:=hK.imp_right fun h=>h.1
        clear hK
        (refine wx_Skb ?_;repeat' (first|with_reducible refine And.intro ?_ ?_|intro hsp))
        all_goals first|(exfalso;omega)|exact D6 (v+1) [] hnext (by first|omega|(dsimp only;omega)) rfl (by exact AN6)
       | some y =>
        have hK2:kk=2:=hK.resolve_right fun h=>by rw [hp] at h;cases h.2
        clear hK
        (refine wx_Skb ?_;repeat' (first|with_reducible refine And.intro ?_ ?_|intro hsp))
        all_goals first|(exfalso;omega)|exact D6 (v+1) [] hnext (by first|omega|(dsimp only;omega)) rfl (by exact AN6)
      ·clear hfr
       generalize s.K (a+v)=kk at *
       cases hM:s.M (a+v) with
       | true =>
        rw [hM] at hkd
        clear hfo
        cases hp:mgI (At2 W W.length) ((a+v:Nat):Int) with
        | none =>
         (refine wx_Skb ?_;repeat' (first|with_reducible refine And.intro ?_ ?_|intro hsp))
         all_goals first|(exfalso;omega)|exact O6 rfl H9 rfl F7
        | some y =>
         (refine wx_Skb ?_;repeat' (first|with_reducible refine And.intro ?_ ?_|intro hsp))
         all_goals first|(exfalso;omega)|exact O6 rfl H9 rfl F7
       | false =>
        rw [hM] at hkd
        cases hp:mgI (At2 W W.length) ((a+v:Nat):Int) with
        | none =>
         have hK2:¬ kk=2∧¬ kk=1:=⟨fun h=>hfo ⟨hM,.inl h⟩,fun h=>hfo ⟨hM,.inr ⟨h,hp⟩⟩⟩
         clear hfo
         (refine wx_Skb ?_;repeat' (first|with_reducible refine And.intro ?_ ?_|intro hsp))
         all_goals first|(exfalso;omega)|exact O6 rfl H9 rfl F7
        | some y =>
         have hK2:¬ kk=2:=fun h=>hfo ⟨hM,.inl h⟩
         clear hfo
         (refine wx_Skb ?_;repeat' (first|with_reducible refine And.intro ?_ ?_|intro hsp))
         all_goals first|(exfalso;omega)|exact O6 rfl H9 rfl F7
     ·obtain rfl:v=n:=by omega
      exact absurd (ld_build hg ⟨hst,hAD,hBD,hA,hok,hus,hmn,fun f f1 f2=>by
       have:=hfr (f - a) (by omega)
       rwa [show a+(f - a)=f by omega] at this⟩) hno
    ·(refine wx_Skbn ?_;repeat' (first|with_reducible refine And.intro ?_ ?_|intro hsp))
     all_goals first|exact O6 rfl H9 rfl F7|(exfalso;omega)
   ·(refine wx_Skbn ?_;repeat' (first|with_reducible refine And.intro ?_ ?_|intro hsp))
    all_goals first|exact O6 rfl H9 rfl F7|(exfalso;omega)
end
end Go.Proofs.YtbhgfoikbkaohaaGreat.Sh
namespace Go.Pol
open Go.Am Go.Proofs.YtbhgfoikbkaohaaGreat.Sh
def sameK:List AV→List AV→Prop
 | [],[]=>True
 | .int k _::r,.int k' _::s=>k=k'∧sameK r s
 | _,_=>False
theorem Ao5:∀ {r s:List AV},sameK r s→∃ b,eqL (List.replicate r.length 0) r s=some b∧(b=true ↔ r=s)
 | [],[],_=>⟨true,rfl,Iff.intro (fun _=>rfl) fun _=>rfl⟩
 | .int k m::r,.int k' m'::s,h=>by
  obtain ⟨rfl,h2⟩:=h
  obtain ⟨b,e,hb⟩:=Ao5 h2
  refine ⟨(m == m') && b,?_,?_⟩
  ·rw [List.length_cons,List.replicate_succ]
   simp only [eqL,eq1,if_true,e,Option.bind_some,Option.map_some]
  ·rw [Bool.and_eq_true,hb,beq_iff_eq]
   simp
theorem BC2 {f g:Nat→Int}:∀ l:List Nat,sameK (l.map fun j=>AV.int .u8 (f j)) (l.map fun j=>AV.int .u8 (g j))
 | []=>trivial
 | _::l=>⟨rfl,BC2 l⟩
theorem eq_swA (x y:Int × Int × Int × Int):∃ b,eqL [0,0,0,0] (swA x) (swA y)=some b∧(b=true ↔ swA x=swA y):=Ao5 (r:=swA x) (s:=swA y) ⟨rfl,rfl,rfl,rfl,trivial⟩
theorem eq_swD (x y:Int × (Nat→Int)):∃ b,eqL (List.replicate 65 0) (swD x) (swD y)=some b∧(b=true ↔ swD x=swD y):=by
 have:=Ao5 (r:=swD x) (s:=swD y) ⟨rfl,by unfold bcA memA;exact BC2 _⟩
 rwa [R6] at this
section
variable {β:Type} {f:β→List AV} {d:β} {L L':List β}
theorem Am6:L.map f=L'.map f ↔ L.length=L'.length∧∀ k,k < L.length→f (nth d L k)=f (nth d L' k):=by
 constructor
 ·intro h
  have hl:L.length=L'.length:=by have:=congrArg List.length h;rwa [List.length_map,List.length_map] at this
  refine ⟨hl,fun k hk=>?_⟩
  have h1:(L.map f)[k]? = (L'.map f)[k]?:=by rw [h]
  rw [List.getElem?_map,List.getElem?_map,List.getElem?_eq_getElem hk,List.getElem?_eq_getElem (by omega)] at h1
  rw [I9 hk,I9 (by omega)]
  exact Option.some.inj h1
 ·rintro ⟨hl,h⟩
  refine List.ext_getElem (by rw [List.length_map,List.length_map,hl]) fun k h1 h2=>?_
  rw [List.length_map] at h1 h2
  rw [List.getElem_map,List.getElem_map]
  have:=h k h1
  rwa [I9 h1,I9 h2] at this
end
theorem st_iff {a n pg sl i o a' n' pg' sl' i' o':Int} {W W':List (Int × Int × Int × Int)} {D D':List (Int × (Nat→Int))}:T9 a n pg sl W D i o=T9 a' n' pg' sl' W' D' i' o' ↔ (a=a'∧n=n'∧pg=pg'∧sl=sl'∧i=i'∧o=o')∧W.map swA=W'.map swA∧D.map swD=D'.map swD:=by
 unfold T9
 simp only [List.cons.injEq,AV.int.injEq,AV.isl.injEq,true_and,and_true]
 constructor
 ·rintro ⟨h1,h2,h3,h4,h5,h6,h7,h8⟩
  exact ⟨⟨h1,h2,h3,h4,h7,h8⟩,h5,h6⟩
 ·rintro ⟨⟨h1,h2,h3,h4,h7,h8⟩,h5,h6⟩
  exact ⟨h1,h2,h3,h4,h5,h6,h7,h8⟩
end Go.Pol
namespace Go.Proofs.YtbhgfoikbkaohaaGreat.Sh
open Go Go.Am Go.Pol
theorem plx_Skc {p:Prop} (h:p:=by ((first|exact plw|(with_reducible first|apply O7|apply Y7|apply N7|apply L9|apply U3|apply V3|apply F8 Q8|apply F8 Y8|apply G6 H7|fail)|fail);first|done|fail)):p:=h
theorem ppx_Skc {p:Prop} (h:p:=by ((first|with_reducible assumption|(with_reducible first|apply F7|apply E9|apply AC0|apply AB0|apply H7|apply Q8 _|fail)|exact ppw|fail);first|done|fail)):p:=h
open Go.Proofs.YtbhgfoikbkaohaaGreat.Sh renaming plx_Skc → plx
open Go.Proofs.YtbhgfoikbkaohaaGreat.Sh renaming ppx_Skc → ppx
theorem wx_Skc {p q:Prop} (hq:q) (h:Y3 q→p:=by (intro hQz;((repeat' ((try (conv=>whnf));first|refine sxA ?_|refine Z7 (d:=d4) AG4 (by first|assumption|omega) (by with_reducible assumption) ?_|refine Af0 hq1 ?_|refine Z7 (d:=d5) R6 (by first|assumption|omega) (by with_reducible assumption) ?_|refine R4 (by rw [R6];omega) List.drop_zero (J7 (by rw [R6];omega) (List.take_of_length_le (by rw [R6];omega)) ?_)|refine J7 (cs:=bcA x.2) (m:=64) (Nat.le_of_eq L8.symm) AG9 ?_|refine J7 (cs:=bcA x'.2) (m:=64) (Nat.le_of_eq L8.symm) AG9 ?_|refine Af0 hq2 ?_|refine sxF ?_|refine sxH ?_|((with_reducible first|apply U1 hQz|apply U2 hQz)<;>(try intro hsp hQz))|exact hQz.out))<;>(try (conv=>whnf))))):p:=h ⟨hq⟩
section
variable {a n pg sl i o a' n' pg' sl' i' o':Int} {W W':List (Int × Int × Int × Int)} {D D':List (Int × (Nat→Int))}
set_option maxRecDepth 20000 in
theorem k_sameG (hW:W.length≤600) (hD:D.length≤600) (hW':W'.length≤600) (hD':D'.length≤600) {b:Bool} (hb:b=true ↔ T9 a n pg sl W D i o=T9 a' n' pg' sl' W' D' i' o'):J8 14 [.agg (T9 a n pg sl W D i o),.agg (T9 a' n' pg' sl' W' D' i' o')] (.bool b):=by
 refine J8.mk (R9 G9 b14 J3 ⟨G6 H7,G6 H7,trivial⟩ D5 rfl ?_)
 unfold c14
 rw [st_iff,Am6 (d:=d4),Am6 (d:=d5)] at hb
 have hfalse:(¬ ((a=a'∧n=n'∧pg=pg'∧sl=sl'∧i=i'∧o=o')∧(W.length=W'.length∧∀ k,k < W.length→swA (nth d4 W k)=swA (nth d4 W' k))∧D.length=D'.length∧∀ k,k < D.length→swD (nth d5 D k)=swD (nth d5 D' k)))→b=false:=fun h=>by
  cases b with
  | false=>rfl
  | true=>exact absurd (hb.1 rfl) h
 unfold T9
 by_cases h0:(a=a'∧n=n'∧pg=pg'∧sl=sl'∧i=i'∧o=o')∧W.length=W'.length∧D.length=D'.length
 ·obtain ⟨⟨rfl,rfl,rfl,rfl,rfl,rfl⟩,hlW,hlD⟩:=h0
  (refine wx_Skc ?_;repeat' (first|with_reducible refine And.intro ?_ ?_|intro hsp))
  all_goals first|(exfalso;omega)|skip
  (refine F9 [2,3] (fun (j:Nat)=>[(5,.int .i64 (j:Nat))]) (fun (j:Nat)=>⟨[(0,.cells [.int .i64 a,.int .i64 n,.int .i64 pg,.int .i64 sl,.isl (W.map swA),.isl (D.map swD),.int .i64 i,.int .i64 o]),(1,.cells [.int .i64 a,.int .i64 n,.int .i64 pg,.int .i64 sl,.isl (W'.map swA),.isl (D'.map swD),.int .i64 i,.int .i64 o])],2⟩) (fun (j:Nat)=>j≤W.length∧∀ k,k < j→swA (nth d4 W k)=swA (nth d4 W' k)) (fun (j:Nat)=>W.length - j) (0) [] rfl (fun _=>by first|exact Nat.zero_le _|(dsimp only;omega)) ?_ (by ((try (conv=>whnf));exact O4)) ?_)
  ·exact ⟨Nat.zero_le _,fun k hk=>absurd hk (Nat.not_lt_zero _)⟩
  rintro j ⟨hj,hall⟩
  by_cases hjl:j < W.length
  ·obtain ⟨c,hq1,hc⟩:=eq_swA (nth d4 W j) (nth d4 W' j)
   have hjl':j < W'.length:=by omega
   cases c with
   | true =>
    have hnext:j+1≤W.length∧∀ k,k < j+1→swA (nth d4 W k)=swA (nth d4 W' k):=⟨hjl,fun k hk=>by
     by_cases ek:k=j
     ·rw [ek];exact hc.1 rfl
     ·exact hall k (by omega)⟩
    clear hall hc hfalse hb
    generalize hx:nth d4 W j=x at *
    generalize hx':nth d4 W' j=x' at *
    (refine wx_Skc ?_;repeat' (first|with_reducible refine And.intro ?_ ?_|intro hsp))
    all_goals first|(exfalso;omega)|exact D6 (j+1) [] hnext (by first|omega|(dsimp only;omega)) rfl (by exact O4)
   | false =>
    have hbf:b=false:=hfalse fun h=>by
     have:=hc.2 (h.2.1.2 j hjl)
     cases this
    subst hbf
    clear hall hc hfalse hb
    generalize hx:nth d4 W j=x at *
    generalize hx':nth d4 W' j=x' at *
    (refine wx_Skc ?_;repeat' (first|with_reducible refine And.intro ?_ ?_|intro hsp))
    all_goals first|(exfalso;omega)|exact K6 rfl
  ·obtain rfl:j=W.length:=by omega
   (refine wx_Skc ?_;repeat' (first|with_reducible refine And.intro ?_ ?_|intro hsp))
   all_goals first|(exfalso;omega)|skip
   (refine F9 [2,3] (fun (j2:Nat)=>[(6,.int .i64 (j2:Nat))]) (fun (j2:Nat)=>⟨[(0,.cells [.int .i64 a,.int .i64 n,.int .i64 pg,.int .i64 sl,.isl (W.map swA),.isl (D.map swD),.int .i64 i,.int .i64 o]),(1,.cells [.int .i64 a,.int .i64 n,.int .i64 pg,.int .i64 sl,.isl (W'.map swA),.isl (D'.map swD),.int .i64 i,.int .i64 o])],2⟩) (fun (j2:Nat)=>j2≤D.length∧∀ k,k < j2→swD (nth d5 D k)=swD (nth d5 D' k)) (fun (j2:Nat)=>D.length - j2) (0) [] rfl (fun _=>by first|exact Nat.zero_le _|(dsimp only;omega)) ?_ (by ((try (conv=>whnf));exact O4)) ?_)
   ·exact ⟨Nat.zero_le _,fun k hk=>absurd hk (Nat.not_lt_zero _)⟩
   rintro j2 ⟨hj2,hall2⟩
   by_cases hjl2:j2 < D.length
   ·obtain ⟨c,hq2,hc⟩:=eq_swD (nth d5 D j2) (nth d5 D' j2)
    have hjl2':j2 < D'.length:=by omega
    cases c with
    | true =>
     have hnext:j2+1≤D.length∧∀ k,k < j2+1→swD (nth d5 D k)=swD (nth d5 D' k):=⟨hjl2,fun k hk=>by
      by_cases ek:k=j2
      ·rw [ek];exact hc.1 rfl
      ·exact hall2 k (by omega)⟩
     clear hall hall2 hc hfalse hb
     generalize hx:nth d5 D j2=x at *
     generalize hx':nth d5 D' j2=x' at *
     (refine wx_Skc ?_;repeat' (first|with_reducible refine And.intro ?_ ?_|intro hsp))
     all_goals first|(exfalso;omega)|exact D6 (j2+1) [] hnext (by first|omega|(dsimp only;omega)) rfl (by exact O4)
    | false =>
     have hbf:b=false:=hfalse fun h=>by
      have:=hc.2 (h.2.2.2 j2 hjl2)
      cases this
     subst hbf
     clear hall hall2 hc hfalse hb
     generalize hx:nth d5 D j2=x at *
     generalize hx':nth d5 D' j2=x' at *
     (refine wx_Skc ?_;repeat' (first|with_reducible refine And.intro ?_ ?_|intro hsp))
     all_goals first|(exfalso;omega)|exact K6 rfl
   ·obtain rfl:j2=D.length:=by omega
    have hbt:b=true:=hb.2 ⟨⟨rfl,rfl,rfl,rfl,rfl,rfl⟩,⟨hlW,hall⟩,hlD,hall2⟩
    subst hbt
    clear hall hall2 hfalse hb
    (refine wx_Skc ?_;repeat' (first|with_reducible refine And.intro ?_ ?_|intro hsp))
    all_goals first|(exfalso;omega)|exact K6 rfl
 ·have hbf:b=false:=hfalse fun h=>h0 ⟨h.1,h.2.1.1,h.2.2.1⟩
  subst hbf
  clear hfalse hb
  (refine wx_Skc ?_;repeat' (first|with_reducible refine And.intro ?_ ?_|intro hsp))
  all_goals first|exact K6 rfl|(exfalso;omega)
end
end Go.Proofs.YtbhgfoikbkaohaaGreat.Sh
namespace Go.Pol
open Go.Am Go.Proofs.YtbhgfoikbkaohaaGreat.Sh
def rfF (F T Z:Nat→Int) (D:Nat→Nat→Int) (i:Nat):AV:=if i < 256 then .int .i64 (F i) else if i < 512 then .int .i64 (T (i - 256)) else if i < 768 then .int .i64 (Z (i - 512)) else .int .u8 (D ((i - 768) / 64) ((i - 768) % 64))
def rfC (s:Nat) (q:Sw):List AV:=.ptr s 0 :: .int .i64 (q.a:Nat) :: .int .i64 (q.n:Nat) :: .int .i64 (q.pg:Nat) :: .int .i64 (q.sl:Nat)::(memA 17152 (rfF q.F q.T q.Z q.D)++[.int .i64 q.ins,.int .i64 q.outs])
theorem rfF_plain {F T Z:Nat→Int} {D:Nat→Nat→Int} {i:Nat}:Plain (rfF F T Z D i):=by
 unfold rfF
 repeat' split
 all_goals exact A8
section
variable {s:Nat} {q:Sw}
theorem Y9:(rfC s q).length=17159:=by
 unfold rfC
 simp only [List.length_cons,List.length_append,U0,List.length_nil]
theorem rf_0:(rfC s q)[0]? = some (.ptr s 0):=rfl
theorem rf_1:(rfC s q)[1]? = some (.int .i64 (q.a:Nat)):=rfl
theorem rf_2:(rfC s q)[2]? = some (.int .i64 (q.n:Nat)):=rfl
theorem rf_3:(rfC s q)[3]? = some (.int .i64 (q.pg:Nat)):=rfl
theorem rf_4:(rfC s q)[4]? = some (.int .i64 (q.sl:Nat)):=rfl
theorem Ar8 {i:Nat} (h:i < 17152):(rfC s q)[5+i]? = some (rfF q.F q.T q.Z q.D i):=by
 rw [show 5+i=i+1+1+1+1+1 by omega]
 unfold rfC
 simp only [List.getElem?_cons_succ]
 rw [List.getElem?_append_left (by rw [U0];exact h),M8 h]
theorem rf_set {i:Nat} {v:AV} {q':Sw} (h:i < 17152) (e0:q'.a=q.a∧q'.n=q.n∧q'.pg=q.pg∧q'.sl=q.sl∧q'.ins=q.ins∧q'.outs=q.outs) (e:∀ j,j < 17152→rfF q'.F q'.T q'.Z q'.D j=if j=i then v else rfF q.F q.T q.Z q.D j):(rfC s q).set (5+i) v=rfC s q':=by
 obtain ⟨e1,e2,e3,e4,e5,e6⟩:=e0
 rw [show 5+i=i+1+1+1+1+1 by omega]
 unfold rfC
 simp only [List.set_cons_succ]
 rw [List.set_append_left _ _ (by rw [U0];exact h),AL4,e1,e2,e3,e4,e5,e6]
 have : memA 17152 (fun j=>if j=i then v else rfF q.F q.T q.Z q.D j)=memA 17152 (rfF q'.F q'.T q'.Z q'.D):=AB2 fun j hj=>(e j hj).symm
 rw [this]
theorem rf_F {p:Nat} (h:p < 256):(rfC s q)[5+p]? = some (.int .i64 (q.F p)):=by
 rw [Ar8 (by omega)];unfold rfF;rw [if_pos h]
theorem rf_T {p:Nat} (h:p < 256):(rfC s q)[261+p]? = some (.int .i64 (q.T p)):=by
 rw [show 261+p=5+(256+p) by omega,Ar8 (by omega)];unfold rfF
 rw [if_neg (by omega),if_pos (by omega),Nat.add_sub_cancel_left]
theorem rf_Z {p:Nat} (h:p < 256):(rfC s q)[517+p]? = some (.int .i64 (q.Z p)):=by
 rw [show 517+p=5+(512+p) by omega,Ar8 (by omega)];unfold rfF
 rw [if_neg (by omega),if_neg (by omega),if_pos (by omega),Nat.add_sub_cancel_left]
theorem Ad0 {p:Nat} {v:Int} (h:p < 256):(rfC s q).set (5+p) (.int .i64 v)=rfC s { q with F:=F4 q.F p v }:=by
 refine rf_set (by omega) ⟨rfl,rfl,rfl,rfl,rfl,rfl⟩ fun j hj=>?_
 unfold rfF
 by_cases e:j=p
 ·subst e;rw [if_pos h,if_pos rfl];show AV.int .i64 (if j=j then v else q.F j)=_;rw [if_pos rfl]
 ·rw [if_neg e]
  split
  ·dsimp only;rw [show F4 q.F p v j=q.F j from upd_ne e]
  ·rfl
theorem Ac9 {p:Nat} {v:Int} (h:p < 256):(rfC s q).set (261+p) (.int .i64 v)=rfC s { q with T:=F4 q.T p v }:=by
 rw [show 261+p=5+(256+p) by omega]
 refine rf_set (by omega) ⟨rfl,rfl,rfl,rfl,rfl,rfl⟩ fun j hj=>?_
 unfold rfF
 by_cases e:j=256+p
 ·subst e;rw [if_neg (by omega),if_pos (by omega),if_pos rfl,Nat.add_sub_cancel_left];show AV.int .i64 (if p=p then v else q.T p)=_;rw [if_pos rfl]
 ·rw [if_neg e]
  split
  ·rfl
  ·split
   ·dsimp only;rw [show F4 q.T p v (j - 256)=q.T (j - 256) from upd_ne (by omega)]
   ·rfl
theorem Av1 {p:Nat} {v:Int} (h:p < 256):(rfC s q).set (517+p) (.int .i64 v)=rfC s { q with Z:=F4 q.Z p v }:=by
 rw [show 517+p=5+(512+p) by omega]
 refine rf_set (by omega) ⟨rfl,rfl,rfl,rfl,rfl,rfl⟩ fun j hj=>?_
 unfold rfF
 by_cases e:j=512+p
 ·subst e;rw [if_neg (by omega),if_neg (by omega),if_pos (by omega),if_pos rfl,Nat.add_sub_cancel_left];show AV.int .i64 (if p=p then v else q.Z p)=_;rw [if_pos rfl]
 ·rw [if_neg e]
  split
  ·rfl
  ·split
   ·rfl
   ·split
    ·dsimp only;rw [show F4 q.Z p v (j - 512)=q.Z (j - 512) from upd_ne (by omega)]
    ·rfl
theorem rf_D {k:Nat} (h:k < 256):((rfC s q).drop (773+k * 64)).take 64=bcA (q.D k):=by
 refine List.ext_getElem? fun i=>?_
 by_cases hi:i < 64
 ·rw [List.getElem?_take_of_lt hi,List.getElem?_drop,show 773+k * 64+i=5+(768+k * 64+i) by omega,Ar8 (by omega)]
  unfold bcA rfF
  rw [M8 hi,if_neg (by omega),if_neg (by omega),if_neg (by omega),show (768+k * 64+i - 768) / 64=k by omega,show (768+k * 64+i - 768) % 64=i by omega]
 ·rw [List.getElem?_eq_none (by rw [List.length_take];omega),List.getElem?_eq_none (by rw [L8];omega)]
theorem BS7:∀ (vs cs:List AV) (o j:Nat),o+vs.length≤cs.length→(over cs o vs)[j]? = if o≤j∧j < o+vs.length then vs[j - o]? else cs[j]?
 | [],cs,o,j,_=>by show cs[j]? = _;rw [if_neg (by rw [List.length_nil];omega)]
 | v::vs,cs,o,j,h=>by
  show (over (cs.set o v) (o+1) vs)[j]? = _
  rw [List.length_cons] at h ⊢
  rw [BS7 vs (cs.set o v) (o+1) j (by rw [List.length_set];omega),List.getElem?_set]
  by_cases e:o=j
  ·subst e;rw [if_neg (by omega),if_pos rfl,if_pos (by omega),if_pos (by omega),Nat.sub_self];rfl
  ·by_cases h1:o+1≤j∧j < o+1+vs.length
   ·rw [if_pos h1,if_pos (by omega),show j - o=(j - (o+1))+1 by omega];rfl
   ·rw [if_neg h1,if_neg e,if_neg (by omega)]
theorem updP_self {D:Nat→Nat→Int} {k j:Nat} {x:Nat→Int} (h:j=k):AA7 D k x j=x:=if_pos h
theorem updP_ne {D:Nat→Nat→Int} {k j:Nat} {x:Nat→Int} (h:j ≠ k):AA7 D k x j=D j:=if_neg h
theorem rf_low {j:Nat} {D':Nat→Nat→Int} (h:j < 5):(rfC s q)[j]? = (rfC s { q with D:=D' })[j]?:=by
 unfold rfC
 rcases (show j=0∨j=1∨j=2∨j=3∨j=4 by omega) with rfl|rfl|rfl|rfl|rfl
 all_goals simp only [List.getElem?_cons_zero,List.getElem?_cons_succ,Nat.reduceAdd]
theorem BR1 {m:Nat}:(rfC s q)[5+(17152+m)]? = [AV.int .i64 q.ins,.int .i64 q.outs][m]?:=by
 rw [show 5+(17152+m)=(17152+m)+1+1+1+1+1 by omega]
 unfold rfC
 simp only [List.getElem?_cons_succ]
 rw [List.getElem?_append_right (by rw [U0];omega),U0,Nat.add_sub_cancel_left]
theorem rf_high {m:Nat} {D':Nat→Nat→Int}:(rfC s q)[5+(17152+m)]? = (rfC s { q with D:=D' })[5+(17152+m)]?:=by
 rw [BR1,BR1]
theorem rf_midD {i k:Nat} {x:Nat→Int} (h:k < 256) (hi:i < 17152):(if 773+k * 64≤5+i∧5+i < 773+k * 64+64 then (bcA x)[5+i - (773+k * 64)]? else some (rfF q.F q.T q.Z q.D i))=some (rfF q.F q.T q.Z (AA7 q.D k x) i):=by
 by_cases hb:773+k * 64≤5+i∧5+i < 773+k * 64+64
 ·rw [if_pos hb]
  unfold bcA rfF
  rw [M8 (by omega),if_neg (by omega),if_neg (by omega),if_neg (by omega),updP_self (by omega),show (i - 768) % 64=5+i - (773+k * 64) by omega]
 ·rw [if_neg hb]
  unfold rfF
  by_cases h1:i < 256
  ·rw [if_pos h1,if_pos h1]
  ·rw [if_neg h1,if_neg h1]
   by_cases h2:i < 512
   ·rw [if_pos h2,if_pos h2]
   ·rw [if_neg h2,if_neg h2]
    by_cases h3:i < 768
    ·rw [if_pos h3,if_pos h3]
    ·rw [if_neg h3,if_neg h3,updP_ne (by omega)]
theorem rf_setD {k:Nat} {x:Nat→Int} (h:k < 256):over (rfC s q) (773+k * 64) (bcA x)=rfC s { q with D:=AA7 q.D k x }:=by
 refine List.ext_getElem? fun j=>?_
 rw [BS7 _ _ _ _ (by rw [L8,Y9];omega),L8]
 by_cases hj:j < 5
 ·rw [if_neg (by omega)]
  exact rf_low hj
 ·obtain ⟨i,rfl⟩:∃ i,j=5+i:=⟨j - 5,by omega⟩
  by_cases hi:i < 17152
  ·rw [Ar8 hi,Ar8 hi]
   exact rf_midD h hi
  ·rw [if_neg (by omega)]
   obtain ⟨m,rfl⟩:∃ m,i=17152+m:=⟨i - 17152,by omega⟩
   exact rf_high
theorem rf_ins {o:Nat} (h:o=17157):(rfC s q)[o]? = some (.int .i64 q.ins):=by rw [h];exact BR1 (m:=0)
theorem rf_outs {o:Nat} (h:o=17158):(rfC s q)[o]? = some (.int .i64 q.outs):=by rw [h];exact BR1 (m:=1)
theorem rf_insE {o:Nat} (h:o=17157) {x:Int} (e:q.ins=x):(rfC s q)[o]? = some (.int .i64 x):=by rw [← e];exact rf_ins h
theorem rf_outsE {o:Nat} (h:o=17158) {x:Int} (e:q.outs=x):(rfC s q)[o]? = some (.int .i64 x):=by rw [← e];exact rf_outs h
theorem rf_FE {p:Nat} (h:p < 256) {x:Int} (e:q.F p=x):(rfC s q)[5+p]? = some (.int .i64 x):=by rw [← e];exact rf_F h
theorem rf_TE {p:Nat} (h:p < 256) {x:Int} (e:q.T p=x):(rfC s q)[261+p]? = some (.int .i64 x):=by rw [← e];exact rf_T h
theorem BC6 {m:Nat} {v:AV}:(rfC s q).set (5+(17152+m)) v = .ptr s 0 :: .int .i64 (q.a:Nat) :: .int .i64 (q.n:Nat) :: .int .i64 (q.pg:Nat) :: .int .i64 (q.sl:Nat)::(memA 17152 (rfF q.F q.T q.Z q.D)++[AV.int .i64 q.ins,.int .i64 q.outs].set m v):=by
 rw [show 5+(17152+m)=(17152+m)+1+1+1+1+1 by omega]
 unfold rfC
 simp only [List.set_cons_succ]
 rw [List.set_append_right _ _ (by rw [U0];omega),U0,Nat.add_sub_cancel_left]
theorem BC5 {o:Nat} (h:o=17157) {v:Int}:(rfC s q).set o (.int .i64 v)=rfC s { q with ins:=v }:=by rw [h];exact BC6 (m:=0)
theorem Ar7 {o:Nat} (h:o=17158) {v:Int}:(rfC s q).set o (.int .i64 v)=rfC s { q with outs:=v }:=by rw [h];exact BC6 (m:=1)
end
end Go.Pol
namespace Go.Proofs.YtbhgfoikbkaohaaGreat.Sh
open Go Go.Am Go.Pol
def rfN (q:Sw) (o s:Nat):List (Nat × AObj):=[(o,.cells (rfC s q)),(s,.cells q.s.b)]
theorem rf_tail {q:Sw}:∀ x ∈ AV.int .i64 (q.a:Nat) :: .int .i64 (q.n:Nat) :: .int .i64 (q.pg:Nat) :: .int .i64 (q.sl:Nat)::(memA 17152 (rfF q.F q.T q.Z q.D)++[.int .i64 q.ins,.int .i64 q.outs]),Plain x:=fun x hx=>by
 simp only [List.mem_cons,List.mem_append,List.not_mem_nil,or_false] at hx
 rcases hx with rfl|rfl|rfl|rfl|hx|rfl|rfl
 ·exact A8
 ·exact A8
 ·exact A8
 ·exact A8
 ·exact AM9 (fun _ _=>rfF_plain) x hx
 ·exact A8
 ·exact A8
theorem Al1 {p:Nat→Nat→Prop} {q:Sw} {s s':Nat} (e:p s s'):RnL p (rfC s q) (rfC s' q):=⟨Z9 e,D8 rf_tail⟩
theorem wkl_rfC {σ:Nat→Nat} {h h':Hp} {q:Sw} {s s':Nat} (hs:AL9 σ h h') (e:σ s'=s) (hl:s' < h'.next):WkL Tryz.prog σ h h' (rfC s q) (rfC s' q):=C9 (u7 e hl) (AX8 hs rf_tail)
theorem AV5 {σ:Nat→Nat} {h h':Hp} {q:Sw} {i s s':Nat} {r:List (Nat × AObj)} (hs:AL9 σ h h') (h1:i < h'.next) (h2:lk h.l (σ i)=some (.cells (rfC s q))) (e:σ s'=s) (hl:s' < h'.next) (h4:WkO Tryz.prog σ h h' r):WkO Tryz.prog σ h h' ((i,.cells (rfC s' q))::r):=U6 h1 h2 (wkl_rfC hs e hl) h4
structure Ah2 (f:Nat) (avs:List AV) (q:Sw) (r:AV) (q':Sw):Prop where
 out:Ab5 Tryz.prog G0 f (.ptr 0 0::avs) (rfN q 0 1) 2 fun x h1=>x=r∧h1=⟨rfN q' 0 1,2⟩
 pa:∀ x ∈ avs,Plain x
 pr:Plain r
theorem end_VV {top:Bool} {h:Hp} {N0:Nat} {x r:AV} {q:Sw} (hr:AL9 (rn []) h ⟨rfN q 0 1,2⟩→WkV Tryz.prog (rn []) h ⟨rfN q 0 1,2⟩ x r) (h0:lk h.l 0=some (.cells (rfC 1 q))) (h1:lk h.l 1=some (.cells q.s.b)) (hN0:N0≤2:=by decide) :
  AV3 top Tryz.prog N0 h x (fun r' h'=>r'=r∧h'=⟨rfN q 0 1,2⟩):=by
 have hs:AL9 (rn []) h ⟨rfN q 0 1,2⟩:=fun i o hi=>by
  simp only [rfN,lk] at hi
  show ∃ o',lk h.l i=some o'
  split at hi
  ·rename_i e;subst e;exact ⟨_,h0⟩
  ·split at hi
   ·rename_i e;subst e;exact ⟨_,h1⟩
   ·cases hi
 refine AE8 [] rfl hN0 (R7 rfl) (hr hs) ?_ ⟨rfl,rfl⟩
 exact AV5 hs (show 0 < 2 by decide) h0 (s':=1) rfl (show 1 < 2 by decide) (J2 hs (show 1 < 2 by decide) h1 rfl E9 J5)
theorem AG8 {top:Bool} {h:Hp} {N0:Nat} {x r:AV} {q:Sw} (hx:x=r) (hp:Plain r) (h0:lk h.l 0=some (.cells (rfC 1 q))) (h1:lk h.l 1=some (.cells q.s.b)) (hN0:N0≤2:=by decide) :
  AV3 top Tryz.prog N0 h x (fun r' h'=>r'=r∧h'=⟨rfN q 0 1,2⟩):=by
 subst hx
 exact end_VV (fun hs=>X0 hs hp) h0 h1 hN0
theorem Ay6 {f:Nat} {avs:List AV} {q q':Sw} {r:AV} {o g nx:Nat} {l:List (Nat × AObj)} {K:AV→Hp→Prop} (hc:Ah2 f avs q r q')
  (h0:lk l o=some (.cells (rfC g q))) (h1:lk l g=some (.cells q.s.b))
  (hlt:o < nx∧g < nx) (hd:Ad7 [o,g]=true)
  (hk:AP4 [o,g] l fun l2=>K r ⟨([(o,.cells (rfC g q')),(g,.cells q'.s.b)]:List (Nat × AObj))++l2,nx⟩):AN4 Tryz.prog G0 (.fn f [] []) (.ptr o 0::avs) ⟨l,nx⟩ K:=by
 have e0:enter [o,g] o 0:=rfl
 have e1:enter [o,g] g 1:=rfl
 have k0:back [o,g] nx 0 o:=rfl
 have k1:back [o,g] nx 1 g:=rfl
 refine AS3 (l1:=rfN q' o g) [o,g] hc.out J3 hd
  (.cons e0 h0 (Al1 e1) (.cons e1 h1 (D8 E9) .nil))
  ?_ (by intro x hx;simp only [List.mem_cons,List.not_mem_nil,or_false] at hx;omega) (G5 hc.pr)
  (.cons k0 (Al1 k1) (.cons k1 (D8 E9) .nil)) hk
 simp only [List.nil_append,List.append_nil]
 exact ⟨Z9 e0,D8 hc.pa⟩
theorem AX4 {f:Nat} {avs:List AV} {q q':Sw} {r:AV} {o g:Nat} {h:Hp} {K:AV→Up→List Nat→Prop} (hc:Ah2 f avs q r q')
  (h0:lk h.l o=some (.cells (rfC g q))) (h1:lk h.l g=some (.cells q.s.b))
  (hd:Ad7 [o,g]=true) (hnx':[o,g].contains h.next=false)
  (hk:K r [(o,some (.cells (rfC g q'))),(g,some (.cells q'.s.b))] [o,g]):AP2 Tryz.prog G0 f (.ptr o 0::avs) h K:=by
 have hnx:h.next ∉ [o,g]:=fun hm=>by rw [List.contains_eq_mem,decide_eq_false_iff_not] at hnx';exact hnx' hm
 have e0:enter [o,g] o 0:=rfl
 have e1:enter [o,g] g 1:=rfl
 have k0:j4 [o,g] 0 o:=rfl
 have k1:j4 [o,g] 1 g:=rfl
 refine Ay2 (l1:=rfN q' o g) [o,g] hc.out J3 hd
  (.cons e0 h0 (Al1 e1) (.cons e1 h1 (D8 E9) .nil))
  hnx ?_ ?_ ⟨Z9 e0,D8 hc.pa⟩ (G5 hc.pr)
  (.cons k0 (Al1 k1) (.cons k1 (D8 E9) .nil)) hk
 ·intro x hx
  simp only [rfN,lk]
  repeat' split
  all_goals first|exact ⟨_,rfl⟩|(exfalso;simp only [List.mem_cons,List.not_mem_nil,or_false] at hx;omega)
 ·intro j x hx
  have : j < 2:=(List.getElem?_eq_some_iff.1 hx).1
  simp only [rfN,lk]
  repeat' split
  all_goals first|exact ⟨_,rfl⟩|(exfalso;omega)
theorem dcx_Vk {f:Nat} {avs:List AV} {q:Sw} {r:AV} {o g:Nat} {h:Hp} {K:AV→Up→List Nat→Prop} (hc:Ah2 f avs q r q)
  (h0:lk h.l o=some (.cells (rfC g q))) (h1:lk h.l g=some (.cells q.s.b))
  (hd:Ad7 [o,g]=true) (hnx':[o,g].contains h.next=false)
  (hk:K r [] [o,g]):AP2 Tryz.prog G0 f (.ptr o 0::avs) h K:=by
 refine Ay3 (AX4 hc h0 h1 hd hnx' ⟨fun j x hx=>?_,fun hm=>by rw [List.contains_eq_mem,decide_eq_false_iff_not] at hnx';exact hnx' hm,hk⟩)
 simp only [List.mem_cons,Prod.mk.injEq,List.not_mem_nil,or_false] at hx ⊢
 rcases hx with ⟨rfl,rfl⟩ | ⟨rfl,rfl⟩
 ·exact ⟨.inl rfl,h0⟩
 ·exact ⟨.inr rfl,h1⟩
end Go.Proofs.YtbhgfoikbkaohaaGreat.Sh
namespace Go.Pol
open Go.Am Go.Proofs.YtbhgfoikbkaohaaGreat.Sh
def Sw.inF (q:Sw) (f:Int):Int:=opA ((List.range q.pg).find? fun p=>decide (q.F p=f))
def Sw.inT (q:Sw) (f:Int):Int:=opA ((List.range q.pg).find? fun p=>decide (q.T p=f))
section
variable {q:Sw} {f:Int} {p:Nat}
theorem Aw8 {n p:Nat} {c:Nat→Bool} (hp:p < n) (h1:∀ j,j < p→c j=false) (h2:c p=true):(List.range n).find? c=some p:=by
 have:=Ax0 (a:=0) (n:=n) (p:=c) hp (fun j hj=>by rw [Nat.zero_add];exact h1 j hj) (by rw [Nat.zero_add];exact h2)
 rw [Nat.zero_add] at this
 rw [List.range_eq_range'];exact this
theorem BN3 {n:Nat} {c:Nat→Bool} (h1:∀ j,j < n→c j=false):(List.range n).find? c=none:=by
 rw [List.range_eq_range'];exact Aw9 fun j hj=>by rw [Nat.zero_add];exact h1 j hj
theorem inF_yes (hp:p < q.pg) (h1:∀ j,j < p→q.F j ≠ f) (h2:q.F p=f):q.inF f=(p:Nat):=by
 unfold Sw.inF;rw [Aw8 hp (fun j hj=>decide_eq_false (h1 j hj)) (decide_eq_true h2)];rfl
theorem inF_no (h1:∀ j,j < q.pg→q.F j ≠ f):q.inF f = -1:=by
 unfold Sw.inF;rw [BN3 (fun j hj=>decide_eq_false (h1 j hj))];rfl
theorem inT_yes (hp:p < q.pg) (h1:∀ j,j < p→q.T j ≠ f) (h2:q.T p=f):q.inT f=(p:Nat):=by
 unfold Sw.inT;rw [Aw8 hp (fun j hj=>decide_eq_false (h1 j hj)) (decide_eq_true h2)];rfl
theorem inT_no (h1:∀ j,j < q.pg→q.T j ≠ f):q.inT f = -1:=by
 unfold Sw.inT;rw [BN3 (fun j hj=>decide_eq_false (h1 j hj))];rfl
theorem BS9 {n:Nat} {c:Nat→Bool}:(0≤opA ((List.range n).find? c) ↔ ∃ p,p < n∧c p=true) ∧ -1≤opA ((List.range n).find? c)∧opA ((List.range n).find? c) < (n:Nat):=by
 cases h:(List.range n).find? c with
 | none =>
  refine ⟨⟨fun h0=>absurd h0 (by decide),fun ⟨p,h1,h2⟩=>?_⟩,by decide,by show (-1:Int) < _;omega⟩
  have:=List.find?_eq_none.1 h p (List.mem_range.2 h1)
  exact absurd h2 this
 | some p =>
  have h1:=List.find?_some h
  have h2:=List.mem_range.1 (List.mem_of_find?_eq_some h)
  exact ⟨⟨fun _=>⟨p,h2,h1⟩,fun _=>Int.natCast_nonneg _⟩,by show -1≤((p:Nat):Int);omega,by show ((p:Nat):Int) < _;omega⟩
theorem Aa2 {f:Nat}:0≤q.inF f ↔ q.heldF f:=by
 unfold Sw.inF Sw.heldF
 rw [BS9.1]
 simp only [decide_eq_true_eq]
theorem Ai7 {f:Nat}:0≤q.inT f ↔ q.heldT f:=by
 unfold Sw.inT Sw.heldT
 rw [BS9.1]
 simp only [decide_eq_true_eq]
end
end Go.Pol
namespace Go.Proofs.YtbhgfoikbkaohaaGreat.Sh
open Go Go.Am Go.Pol
theorem plx_Sxt {p:Prop} (h:p:=by ((first|exact plw|(with_reducible first|apply O7|apply Y7|apply N7|apply L9|apply U3|apply V3|fail)|fail);first|done|fail)):p:=h
theorem ppx_Sxt {p:Prop} (h:p:=by ((first|with_reducible assumption|(with_reducible first|apply F7|apply E9|apply AC0|apply AB0|fail)|exact ppw|fail);first|done|fail)):p:=h
open Go.Proofs.YtbhgfoikbkaohaaGreat.Sh renaming plx_Sxt → plx
open Go.Proofs.YtbhgfoikbkaohaaGreat.Sh renaming ppx_Sxt → ppx
theorem wx_Sxt {p q:Prop} (hq:q) (h:Y3 q→p:=by (intro hQz;((repeat' ((try (conv=>whnf));first|refine sxA ?_|refine C8 rf_3 ?_|refine C8 hrd ?_|refine sxF ?_|refine sxH ?_|((with_reducible first|apply U1 hQz|apply U2 hQz)<;>(try intro hsp hQz))|exact hQz.out))<;>(try (conv=>whnf))))):p:=h ⟨hq⟩
section
variable {q:Sw}
theorem v_inF (hpg:q.pg≤256) (f:Int):Ah2 43 [.int .i64 f] q (.int .i64 (q.inF f)) q:=by
 refine Ah2.mk (I8 G9 b43 rfl ?_) (R3 A8) A8
 unfold c43
 unfold rfN
 (refine wx_Sxt ?_;repeat' (first|with_reducible refine And.intro ?_ ?_|intro hsp))
 (refine F9 [0,1] (fun (p:Nat)=>[(5,.int .i64 (p:Nat))]) (fun (p:Nat)=>⟨[(0,.cells (rfC 1 q)),(1,.cells q.s.b)],2⟩) (fun (p:Nat)=>p≤q.pg∧∀ j,j < p→q.F j ≠ f) (fun (p:Nat)=>q.pg - p) (0) [] rfl (fun _=>by first|exact Nat.zero_le _|(dsimp only;omega)) ?_ (by ((try (conv=>whnf));exact Y4)) ?_)
 ·exact ⟨Nat.zero_le _,fun j hj=>absurd hj (Nat.not_lt_zero _)⟩
 intro p hp
 obtain ⟨hp,hall⟩:=hp
 by_cases hpl:p < q.pg
 ·have hrd:=rf_F (s:=1) (q:=q) (p:=p) (by omega)
  by_cases he:q.F p=f
  ·rw [inF_yes hpl hall he]
   (refine wx_Sxt ?_;repeat' (first|with_reducible refine And.intro ?_ ?_|intro hsp))
   all_goals first|(exfalso;omega)|exact AG8 rfl A8 rfl rfl
  ·have hnext:p+1≤q.pg∧∀ j,j < p+1→q.F j ≠ f:=⟨hpl,fun j hj=>by
    by_cases e:j=p
    ·rw [e];exact he
    ·exact hall j (by omega)⟩
   (refine wx_Sxt ?_;repeat' (first|with_reducible refine And.intro ?_ ?_|intro hsp))
   all_goals first|(exfalso;omega)|exact D6 (p+1) [] hnext (by first|omega|(dsimp only;omega)) rfl (by exact Y4)
 ·obtain rfl:p=q.pg:=by omega
  rw [inF_no hall]
  (refine wx_Sxt ?_;repeat' (first|with_reducible refine And.intro ?_ ?_|intro hsp))
  all_goals first|(exfalso;omega)|exact AG8 rfl A8 rfl rfl
theorem v_inT (hpg:q.pg≤256) (f:Int):Ah2 44 [.int .i64 f] q (.int .i64 (q.inT f)) q:=by
 refine Ah2.mk (I8 G9 b44 rfl ?_) (R3 A8) A8
 unfold c44
 unfold rfN
 (refine wx_Sxt ?_;repeat' (first|with_reducible refine And.intro ?_ ?_|intro hsp))
 (refine F9 [0,1] (fun (p:Nat)=>[(5,.int .i64 (p:Nat))]) (fun (p:Nat)=>⟨[(0,.cells (rfC 1 q)),(1,.cells q.s.b)],2⟩) (fun (p:Nat)=>p≤q.pg∧∀ j,j < p→q.T j ≠ f) (fun (p:Nat)=>q.pg - p) (0) [] rfl (fun _=>by first|exact Nat.zero_le _|(dsimp only;omega)) ?_ (by ((try (conv=>whnf));exact Y4)) ?_)
 ·exact ⟨Nat.zero_le _,fun j hj=>absurd hj (Nat.not_lt_zero _)⟩
 intro p hp
 obtain ⟨hp,hall⟩:=hp
 by_cases hpl:p < q.pg
 ·have hrd:=rf_T (s:=1) (q:=q) (p:=p) (by omega)
  by_cases he:q.T p=f
  ·rw [inT_yes hpl hall he]
   (refine wx_Sxt ?_;repeat' (first|with_reducible refine And.intro ?_ ?_|intro hsp))
   all_goals first|(exfalso;omega)|exact AG8 rfl A8 rfl rfl
  ·have hnext:p+1≤q.pg∧∀ j,j < p+1→q.T j ≠ f:=⟨hpl,fun j hj=>by
    by_cases e:j=p
    ·rw [e];exact he
    ·exact hall j (by omega)⟩
   (refine wx_Sxt ?_;repeat' (first|with_reducible refine And.intro ?_ ?_|intro hsp))
   all_goals first|(exfalso;omega)|exact D6 (p+1) [] hnext (by first|omega|(dsimp only;omega)) rfl (by exact Y4)
 ·obtain rfl:p=q.pg:=by omega
  rw [inT_no hall]
  (refine wx_Sxt ?_;repeat' (first|with_reducible refine And.intro ?_ ?_|intro hsp))
  all_goals first|(exfalso;omega)|exact AG8 rfl A8 rfl rfl
end
end Go.Proofs.YtbhgfoikbkaohaaGreat.Sh
