/-
 The document's answer: find,count,view,Find,Count,Where.
 The document's answer: a view is put in,or taken out.
 The document's answer: Map,Unmap,Protect,Split.
 The document's answer: Fork.
 Protect;what Fork,Drop and where refuse;calls on no table.
-/
import Derived.Test.YtphggldkligldaaGreatQar
set_option linter.unusedSimpArgs false
set_option linter.unusedVariables false
set_option maxHeartbeats 1600000
namespace Go.Proofs.YtphggldkligldaaGreat.Sh
open Go Go.Am Go.Pol
theorem ppx_Bf {p:Prop} (h:p:=by ((first|with_reducible assumption|(with_reducible first|apply V8|apply I7 AA3|fail)|exact ppw|fail);first|done|fail)):p:=h
open Go.Proofs.YtphggldkligldaaGreat.Sh renaming plx_Yo → plx
open Go.Proofs.YtphggldkligldaaGreat.Sh renaming ppx_Bf → ppx
theorem wx_Bf {p q:Prop} (hq:q) (h:X0 q→p:=by (intro hQz;((repeat' ((try (conv=>whnf));first|refine sxA ?_|refine o7 (d:=dV) K3 (by first|assumption|omega) (by with_reducible assumption) ?_|refine AC2 (by with_reducible assumption) ?_|refine sxF ?_|refine G9 (by assumption) ?_|refine K5 (by assumption) ?_|(refine M7 E9 b127 rfl ?_;unfold c127)|(refine M7 E9 b128 rfl ?_;unfold c128)|refine O1 (by assumption) ?_|refine sxH ?_|((with_reducible first|apply M9 hQz|apply N7 hQz)<;>(try intro hsp hQz))|exact hQz.out))<;>(try (conv=>whnf))))):p:=h ⟨hq⟩
theorem Az1 {A B:List Vw} {v:Vw}:nth dV (A++v::B) A.length=v:=by
 rw [K9 (by simp),List.getElem_append_right (by omega)];simp
theorem nth_lo {A B:List Vw} {i:Nat} (h:i < A.length):nth dV (A++B) i=nth dV A i:=by
 rw [K9 (by simp;omega),K9 h,List.getElem_append_left h]
theorem cnt_take2 {L:List Vw} {i:Nat} (f:Int) (hi:i < L.length):((L.take (i+1)).filter fun v=>decide ((v.2.2.1:Int)=f)).length=((L.take i).filter fun v=>decide ((v.2.2.1:Int)=f)).length+if ((nth dV L i).2.2.1:Int)=f then 1 else 0:=by
 rw [Z9 (d:=dV) hi,List.filter_append,List.length_append,List.filter_cons]
 by_cases h:((nth dV L i).2.2.1:Int)=f<;>simp [h]
def cntI (L:List Vw) (f:Int):Nat:=(L.filter fun v=>decide ((v.2.2.1:Int)=f)).length
theorem cntI_nil (f:Int):cntI [] f=0:=rfl
theorem cntI_nat (L:List Vw) (f:Nat):cntI L (f:Nat)=cntF L f:=by unfold cntI cntF;congr 2;funext v;exact decide_eq_decide.2 (by omega)
theorem el_vw {L:List Vw} {i:Nat} {K:List AV→Prop} {va vk vf:Nat} {vw:Bool} (hj:i < L.length) (hx:nth dV L i=(va,vk,vf,vw)) (hk:K [.int .i64 (va:Nat),.int .i64 (vk:Nat),.int .i64 (vf:Nat),.bool vw]):ElX (L.map vwC) i 4 K:=o7 K3 hj hx hk
section
variable {L A B:List Vw} {v:Vw}
theorem q_find (a k:Nat) (hL:L=A++v::B) (hA:∀ u ∈ A,¬ atV (a,k) u) (hv:atV (a,k) v) (hl:L.length≤4000):F4 129 [.agg [.isl (L.map vwC)],.int .i64 (a:Nat),.int .i64 (k:Nat)] (.int .i64 (A.length:Nat)):=by
 refine F4.mk (I6 E9 b129 F6 ⟨H9,A8,A8,trivial⟩ A8 rfl ?_)
 unfold c129
 have hle:A.length < L.length:=by rw [hL];simp
 (refine wx_Bf ?_;repeat' (first|with_reducible refine And.intro ?_ ?_|intro hsp))
 (refine G8 [1,2,3] (fun (i:Nat)=>[(7,.int .i64 (i:Nat))]) (fun (i:Nat)=>⟨[(0,.cells [.isl (L.map vwC)])],1⟩) (fun (i:Nat)=>i≤A.length) (fun (i:Nat)=>A.length - i) (0) [] rfl (fun _=>by first|exact Nat.zero_le _|(dsimp only;omega)) ?_ (by ((try (conv=>whnf));exact K8)) ?_)
 ·exact Nat.zero_le _
 intro i hi
 have hil:i < L.length:=by omega
 by_cases hia:i < A.length
 ·have hx:nth dV L i=nth dV A i:=by rw [hL,nth_lo hia]
  have hne:=hA _ (Z6 (d:=dV) hia)
  rw [← hx] at hne
  unfold atV at hne
  clear hx
  generalize hx:nth dV L i=u at *
  dsimp only at hne
  (refine wx_Bf ?_;repeat' (first|with_reducible refine And.intro ?_ ?_|intro hsp))
  all_goals exact D9 (i+1) [] (by (try dsimp only);omega) (by first|omega|(dsimp only;omega)) rfl (by exact K8)
 ·obtain rfl:i=A.length:=by omega
  have hx:nth dV L A.length=v:=by rw [hL,Az1]
  unfold atV at hv
  dsimp only at hv
  (refine wx_Bf ?_;repeat' (first|with_reducible refine And.intro ?_ ?_|intro hsp))
  all_goals exact AC9 rfl
theorem An8 (a k:Nat) (hA:∀ u ∈ L,¬ atV (a,k) u) (hl:L.length≤4000):F4 129 [.agg [.isl (L.map vwC)],.int .i64 (a:Nat),.int .i64 (k:Nat)] (.int .i64 (-1)):=by
 refine F4.mk (I6 E9 b129 F6 ⟨H9,A8,A8,trivial⟩ A8 rfl ?_)
 unfold c129
 (refine wx_Bf ?_;repeat' (first|with_reducible refine And.intro ?_ ?_|intro hsp))
 (refine G8 [1,2,3] (fun (i:Nat)=>[(7,.int .i64 (i:Nat))]) (fun (i:Nat)=>⟨[(0,.cells [.isl (L.map vwC)])],1⟩) (fun (i:Nat)=>i≤L.length) (fun (i:Nat)=>L.length - i) (0) [] rfl (fun _=>by first|exact Nat.zero_le _|(dsimp only;omega)) ?_ (by ((try (conv=>whnf));exact K8)) ?_)
 ·exact Nat.zero_le _
 intro i hi
 by_cases hia:i < L.length
 ·have hne:=hA _ (Z6 (d:=dV) hia)
  unfold atV at hne
  generalize hx:nth dV L i=u at *
  dsimp only at hne
  (refine wx_Bf ?_;repeat' (first|with_reducible refine And.intro ?_ ?_|intro hsp))
  all_goals exact D9 (i+1) [] (by (try dsimp only);omega) (by first|omega|(dsimp only;omega)) rfl (by exact K8)
 ·(refine wx_Bf ?_;repeat' (first|with_reducible refine And.intro ?_ ?_|intro hsp))
  all_goals exact AC9 rfl
theorem q_count (f:Int) (hl:L.length≤4000):F4 133 [.agg [.isl (L.map vwC)],.int .i64 f] (.int .i64 (cntI L f:Nat)):=by
 refine F4.mk (I6 E9 b133 F6 ⟨H9,A8,trivial⟩ A8 rfl ?_)
 unfold c133
 (refine wx_Bf ?_;repeat' (first|with_reducible refine And.intro ?_ ?_|intro hsp))
 (refine G8 [1,2] (fun (i:Nat)=>[(5,.int .i64 (cntI (L.take i) f:Nat)),(6,.int .i64 (i:Nat))]) (fun (i:Nat)=>⟨[(0,.cells [.isl (L.map vwC)])],1⟩) (fun (i:Nat)=>i≤L.length) (fun (i:Nat)=>L.length - i) (0) [] rfl (fun _=>by first|exact Nat.zero_le _|(dsimp only;omega)) ?_ (by ((try (conv=>whnf));(rw [List.take_zero,cntI_nil]);exact K8)) ?_)
 ·exact Nat.zero_le _
 intro i hi
 have hc:cntI (L.take i) f≤i:=Nat.le_trans (List.length_filter_le ..) (by rw [List.length_take];omega)
 by_cases hia:i < L.length
 ·have ht:cntI (L.take (i+1)) f=cntI (L.take i) f+if ((nth dV L i).2.2.1:Int)=f then 1 else 0:=cnt_take2 f hia
  generalize hx:nth dV L i=u at *
  by_cases hf:(u.2.2.1:Int)=f
  ·rw [if_pos hf] at ht
   (refine wx_Bf ?_;repeat' (first|with_reducible refine And.intro ?_ ?_|intro hsp))
   all_goals exact D9 (i+1) [] (by (try dsimp only);omega) (by first|omega|(dsimp only;omega)) rfl (by exact K8)
  ·rw [if_neg hf] at ht
   (refine wx_Bf ?_;repeat' (first|with_reducible refine And.intro ?_ ?_|intro hsp))
   all_goals exact D9 (i+1) [] (by (try dsimp only);omega) (by first|omega|(dsimp only;omega)) rfl (by exact K8)
 ·(refine wx_Bf ?_;repeat' (first|with_reducible refine And.intro ?_ ?_|intro hsp))
  all_goals exact AC9 (by rw [List.take_of_length_le (by omega)])
theorem BO5 {a k:Nat} (ha:a < 64) (hk:k < 1024) (hA:∀ u ∈ L,¬ atV (a,k) u) (hl:L.length≤4000):F4 124 [.agg [.isl (L.map vwC)],.int .i64 (a:Nat),.int .i64 (k:Nat)] (.tup [.int .i64 0,.int .i64 4]):=by
 refine F4.mk (I6 E9 b124 F6 ⟨H9,A8,A8,trivial⟩ D8 rfl ?_)
 unfold c124
 have hf:=An8 a k hA hl
 (refine wx_Bf ?_;repeat' (first|with_reducible refine And.intro ?_ ?_|intro hsp))
 all_goals first|exact E8 rfl D8|(exfalso;omega)
theorem q_view {a k:Nat} (ha:a < 64) (hk:k < 1024) (hL:L=A++v::B) (hA:∀ u ∈ A,¬ atV (a,k) u) (hv:atV (a,k) v) (hl:L.length≤4000):F4 124 [.agg [.isl (L.map vwC)],.int .i64 (a:Nat),.int .i64 (k:Nat)] (.tup [.int .i64 (A.length:Nat),.int .i64 0]):=by
 refine F4.mk (I6 E9 b124 F6 ⟨H9,A8,A8,trivial⟩ D8 rfl ?_)
 unfold c124
 have hf:=q_find a k hL hA hv hl
 (refine wx_Bf ?_;repeat' (first|with_reducible refine And.intro ?_ ?_|intro hsp))
 all_goals first|exact E8 rfl D8|(exfalso;omega)
theorem q_Find_bad {a k e:Int} (he:e ≠ 0) (h:F4 124 [.agg [.isl (L.map vwC)],.int .i64 a,.int .i64 k] (.tup [.int .i64 0,.int .i64 e])):F4 57 [.agg [.isl (L.map vwC)],.int .i64 a,.int .i64 k] (.tup [.agg [.int .i64 0,.int .i64 0,.int .i64 0,.bool false],.int .i64 e]):=by
 refine F4.mk (I6 E9 b57 F6 ⟨H9,A8,A8,trivial⟩ AW6 rfl ?_)
 unfold c57
 (refine wx_Bf ?_;repeat' (first|with_reducible refine And.intro ?_ ?_|intro hsp))
 all_goals first|exact E8 rfl AW6|(exfalso;omega)
theorem q_Find {a k:Nat} (ha:a < 64) (hk:k < 1024) (hL:L=A++v::B) (hA:∀ u ∈ A,¬ atV (a,k) u) (hv:atV (a,k) v) (hl:L.length≤4000):F4 57 [.agg [.isl (L.map vwC)],.int .i64 (a:Nat),.int .i64 (k:Nat)] (.tup [.agg (vwC v),.int .i64 0]):=by
 refine F4.mk (I6 E9 b57 F6 ⟨H9,A8,A8,trivial⟩ Ac2 rfl ?_)
 unfold c57
 have hf:=q_view ha hk hL hA hv hl
 have hle:A.length < L.length:=by rw [hL];simp
 have hx:nth dV L A.length=v:=by rw [hL,Az1]
 (refine wx_Bf ?_;repeat' (first|with_reducible refine And.intro ?_ ?_|intro hsp))
 all_goals first|exact E8 rfl Ac2|(exfalso;omega)
theorem q_Count (f:Int) (hl:L.length≤4000):F4 132 [.agg [.isl (L.map vwC)],.int .i64 f] (.tup [.int .i64 (if inR 1024 f then (cntI L f:Nat) else 0),.int .i64 (if inR 1024 f then 0 else 7)]):=by
 refine F4.mk (I6 E9 b132 F6 ⟨H9,A8,trivial⟩ D8 rfl ?_)
 unfold c132
 have hc:=q_count (L:=L) f hl
 by_cases hf:inR 1024 f
 ·rw [if_pos hf,if_pos hf]
  unfold inR at hf
  (refine wx_Bf ?_;repeat' (first|with_reducible refine And.intro ?_ ?_|intro hsp))
  all_goals first|exact E8 rfl D8|(exfalso;omega)
 ·rw [if_neg hf,if_neg hf]
  unfold inR at hf
  (refine wx_Bf ?_;repeat' (first|with_reducible refine And.intro ?_ ?_|intro hsp))
  all_goals first|exact E8 rfl D8|(exfalso;omega)
theorem q_Where_no {a at_:Int} (w:Bool) (hn:¬ (inR 64 a∧inR 65536 at_)):F4 134 [.agg [.isl (L.map vwC)],.int .i64 a,.int .i64 at_,.bool w] (.tup [.int .i64 0,.int .i64 7]):=by
 refine F4.mk (I6 E9 b134 F6 ⟨H9,A8,A8,A9,trivial⟩ D8 rfl ?_)
 unfold c134
 unfold inR at hn
 (refine wx_Bf ?_;repeat' (first|with_reducible refine And.intro ?_ ?_|intro hsp))
 all_goals first|exact E8 rfl D8|(exfalso;omega)
theorem BF5 {a at_:Nat} (w:Bool) (ha:a < 64) (hat:at_ < 65536) (hA:∀ u ∈ L,¬ atV (a,at_ / 64) u) (hl:L.length≤4000):F4 134 [.agg [.isl (L.map vwC)],.int .i64 (a:Nat),.int .i64 (at_:Nat),.bool w] (.tup [.int .i64 0,.int .i64 220]):=by
 refine F4.mk (I6 E9 b134 F6 ⟨H9,A8,A8,A9,trivial⟩ D8 rfl ?_)
 unfold c134
 have hq:=q64 (t:=at_) (by omega)
 have hf:=An8 a (at_ / 64) hA hl
 (refine wx_Bf ?_;repeat' (first|with_reducible refine And.intro ?_ ?_|intro hsp))
 all_goals first|exact E8 rfl D8|(exfalso;omega)
end
end Go.Proofs.YtphggldkligldaaGreat.Sh
namespace Go.Am
section
variable {P:Program} {l:List (Nat × AObj)} {nx sz bytes d n m:Nat} {x:AV} {cs src:List AV} {rd:List Nat} {k:AV→Up→List Nat→Prop}
theorem app_0 (hs:Ai1 (lk l) sz x=some ([],0,rd)) (hd:lk l d=some (.cells cs)) (hc:cs.length=n * sz) (hk:k (.sl d 0 n n sz) [(d,some (.cells cs))] (d::rd)):AppX l nx sz bytes (.sl d 0 n n sz) x k:=by
 have e:=appV_in (nx:=nx) (bytes:=bytes) (off:=0) (cp:=n) (len:=n) hs hd (Nat.le_refl _) (by rw [Nat.add_zero];omega)
 rw [Nat.add_zero,show over cs (0+n * sz) []=cs from rfl] at e
 exact app_some e hk
theorem BS7 (hs:Ai1 (lk l) sz x=some (src,m,rd)) (hd:lk l d=some (.cells cs)) (hc:cs.length=n * sz) (h0:0 < m) (hb:(n+m) * bytes≤140737488355328∧n+m≤1000000000000) (hk:k (.sl nx 0 (n+m) (n+m) sz) [(d,none),(nx,some (.cells (cs++src)))] (d::rd)):AppX l nx sz bytes (.sl d 0 n n sz) x k:=app_some (Aa7 hs hd hc h0 hb) hk
end
end Go.Am
namespace Go.Proofs.YtphggldkligldaaGreat.Sh
open Go Go.Am Go.Pol
theorem plx_Bg {p:Prop} (h:p:=by ((first|exact plw|(with_reducible first|apply L9|apply J2|apply H9|apply J7|fail)|fail);first|done|fail)):p:=h
open Go.Proofs.YtphggldkligldaaGreat.Sh renaming plx_Bg → plx
open Go.Proofs.YtphggldkligldaaGreat.Sh renaming ppx_Bf → ppx
theorem wx_Bgn {p q:Prop} (hq:q) (h:X0 q→p:=by (intro hQz;((repeat' ((try (conv=>whnf));first|(with_reducible first|refine U1 ?_|refine O8 ?_|refine U4 ?_|refine U6 ?_|refine P8 ?_|refine Y2 ?_|refine S9 ?_|refine Y1 rfl ?_|refine T9 ?_|refine K7 ?_|refine P6 ?_|refine P7 ?_|refine U5 ?_|refine K6 ?_|refine O9 (by decide +kernel) ?_|refine N9 (by decide +kernel) ?_|refine AJ0 ?_|refine AJ1 ?_|refine As8 ?_|refine AC0 ?_|refine AM8 ?_|refine Al7 (by assumption) ?_|refine Al8 (by assumption) ?_|refine AB9 (by omega) ?_|refine AM7 ?_)|((with_reducible refine AM9 ?_ ?_);focus omega)|((with_reducible refine AN0 ?_ ?_);focus omega)|((with_reducible apply M9 hQz)<;>(try intro hsp hQz))|((with_reducible refine As7 ?_ ?_);focus (first|omega|rfl|assumption|decide|(simp only [List.length_map,List.length_cons,List.length_nil];omega)|(exact ⟨Nat.zero_le _,by simp,Nat.le_refl _,.inl rfl⟩)|(exact ⟨by simp,by simp,Nat.le_refl _,.inr (by first|(simp [vwC];done)|fail)⟩)))|(with_reducible first|refine AM4 ?_|refine AB8 ?_|refine AB7 ?_|refine AM6 ?_|refine AM5 ?_|refine AM2 ?_|refine As6 ?_|refine J8 ?_|refine AB5 ?_|refine U3 ?_|refine U2 ?_|refine J9 ?_|refine AM3 (by omega) ?_|refine AB6 (by omega) ?_)|refine o7 (d:=dV) K3 (by first|assumption|omega) (by with_reducible assumption) ?_|refine BS7 (AH1 rfl (by first|(simp;done)|fail)) rfl (by first|(simp [H8 K3];done)|(simp [H8 K3];omega)|fail) (by first|decide|omega) ⟨by first|decide|omega,by first|decide|omega⟩ ?_|refine BS7 (AI0 X (by first|(rw [← List.map_take,← List.map_drop];congr 1;simp;done)|exact Aj3.trans (congrArg _ List.drop_left)|exact Aj3.trans (congrArg _ Al4)|(simp;done)|fail)) rfl (by first|(simp [H8 K3];done)|(simp [H8 K3];omega)|fail) (by first|decide|omega) ⟨by first|decide|omega,by first|decide|omega⟩ ?_|refine BS7 (AI0 Y (by first|(rw [← List.map_take,← List.map_drop];congr 1;simp;done)|exact Aj3.trans (congrArg _ List.drop_left)|exact Aj3.trans (congrArg _ Al4)|(simp;done)|fail)) rfl (by first|(simp [H8 K3];done)|(simp [H8 K3];omega)|fail) (by first|decide|omega) ⟨by first|decide|omega,by first|decide|omega⟩ ?_|refine BS7 (AI0 L (by first|(rw [← List.map_take,← List.map_drop];congr 1;simp;done)|exact Aj3.trans (congrArg _ List.drop_left)|exact Aj3.trans (congrArg _ Al4)|(simp;done)|fail)) rfl (by first|(simp [H8 K3];done)|(simp [H8 K3];omega)|fail) (by first|decide|omega) ⟨by first|decide|omega,by first|decide|omega⟩ ?_|refine app_0 rfl rfl (by first|(simp [H8 K3];done)|(simp [H8 K3];omega)|fail) ?_|refine app_0 (AI0 [] (by first|(rw [← List.map_take,← List.map_drop];congr 1;simp;done)|exact Aj3.trans (congrArg _ List.drop_left)|exact Aj3.trans (congrArg _ Al4)|(simp;done)|fail)) rfl (by first|(simp [H8 K3];done)|(simp [H8 K3];omega)|fail) ?_|refine AC2 (by with_reducible assumption) ?_|refine sxN ?_|refine K5 (by assumption) ?_|refine O1 (by assumption) ?_|refine G9 (by assumption) ?_|refine sxH ?_|((with_reducible apply N7 hQz)<;>(try intro hsp hQz))|exact hQz.out))<;>(try (conv=>whnf))))):p:=h ⟨hq⟩
theorem AI0 {at_:At} {els:List (List AV)} (l:List Vw) (e:els=l.map vwC):Ai1 at_ 4 (.isl els)=some (flat vwC l,l.length,[]):=by subst e;exact src_map K3
theorem Al4 {s:Vw} {X Y:List Vw}:List.drop (X.length+1) (X++s::Y)=Y:=by
 rw [show X++s::Y=(X++[s])++Y by simp,List.drop_append_of_le_length (by simp),List.drop_of_length_le (by simp)];rfl
theorem Aj3 {L:List Vw} {k:Nat}:List.drop k (List.take (List.map vwC L).length (List.map vwC L))=(L.drop k).map vwC:=by rw [List.take_length,List.map_drop]
theorem Ah7 {h:Hp} {d n:Nat} {k:Nat} {σ:Nat→Nat} {cs:List AV} (l:List Vw) (hi:lk h.l d=some (.cells cs)) (hc:cs=flat vwC l) (hl:n=l.length):WkV Tryz.prog σ h ⟨[],k⟩ (.sl d 0 n n 4) (.isl (l.map vwC)):=by
 subst hc;exact wk_frzS K3 AA3 hi hl
theorem Ap2 (u w:Vw) (b:Bool) (h:b=decide (bef u w)):F4 138 [.agg [.int .i64 (u.1:Nat),.int .i64 (u.2.1:Nat),.int .i64 (u.2.2.1:Nat),.bool u.2.2.2],.agg [.int .i64 (w.1:Nat),.int .i64 (w.2.1:Nat),.int .i64 (w.2.2.1:Nat),.bool w.2.2.2]] (.bool b) :=
 AX6 (rwV u) (rwV w) b (h.trans (decide_eq_decide.2 (by unfold bef AS9 rwV;dsimp only;omega)))
section
variable {L X Y:List Vw} {v:Vw}
theorem q_put (hL:L=X++Y) (hX:∀ u ∈ X,bef u v) (hY:∀ u Y',Y=u::Y'→¬ bef u v) (hl:L.length≤4000):F4 130 [.agg [.isl (L.map vwC)],.agg (vwC v)] (.agg [.isl ((X++v::Y).map vwC)]):=by
 refine F4.mk (I6 E9 b130 F6 ⟨H9,L9,trivial⟩ H9 rfl ?_)
 unfold c130
 have hle:X.length≤L.length:=by rw [hL];simp
 have hll:L.length=X.length+Y.length:=by rw [hL,List.length_append]
 show AI3 _ _ _ _ _ _ _ _ _
 (refine wx_Tc ?_;repeat' (first|with_reducible refine And.intro ?_ ?_|intro hsp))
 (refine G8 [2,3,4] (fun (i:Nat)=>[(5,.int .i64 (i:Nat))]) (fun (i:Nat)=>⟨[(0,.cells [.isl (L.map vwC)]),(1,.cells (vwC v)),(2,.cells [.nils])],3⟩) (fun (i:Nat)=>i≤X.length) (fun (i:Nat)=>X.length - i) (0) [] rfl (fun _=>by first|exact Nat.zero_le _|(dsimp only;omega)) ?_ (by ((try (conv=>whnf));exact K8)) ?_)
 ·exact Nat.zero_le _
 intro i hi
 by_cases hia:i < X.length
 ·have hil:i < L.length:=by omega
  have hx:nth dV L i=nth dV X i:=by rw [hL,nth_lo hia]
  have hne:=hX _ (Z6 (d:=dV) hia)
  rw [← hx] at hne
  have kb:=Ap2 (nth dV L i) v true (decide_eq_true hne).symm
  clear hx
  generalize hx:nth dV L i=u at *
  (refine wx_Bgn ?_;repeat' (first|with_reducible refine And.intro ?_ ?_|intro hsp))
  all_goals exact D9 (i+1) [] (by (try dsimp only);omega) (by first|omega|(dsimp only;omega)) rfl (by exact K8)
 ·obtain rfl:i=X.length:=by omega
  clear hi hle
  by_cases hX0:X=[]
  ·subst hX0
   rw [List.nil_append] at hL
   subst hL
   by_cases hY0:L=[]
   ·subst hY0
    (refine wx_Bgn ?_;repeat' (first|with_reducible refine And.intro ?_ ?_|intro hsp))
    all_goals exact AN8 (AN2 (C8 (Ah7 ([]++v::[]) rfl (by simp [flat,vwC]) (by simp;try omega)) H7))
   ·have hYp:0 < L.length:=List.length_pos_iff.2 hY0
    have hY1:∀ (h:0 < L.length),¬ bef (nth dV L 0) v:=fun h=>hY _ (L.drop 1) (by rw [K9 h];cases L with
     | nil=>exact absurd rfl hY0
     | cons a r=>rfl)
    have hlt:([]:List Vw).length < L.length:=hYp
    have kb:=Ap2 (nth dV L ([]:List Vw).length) v false (decide_eq_false (hY1 hYp)).symm
    clear hY1
    generalize hx:nth dV L ([]:List Vw).length=u at *
    (refine wx_Bgn ?_;repeat' (first|with_reducible refine And.intro ?_ ?_|intro hsp))
    all_goals exact AN8 (AN2 (C8 (Ah7 ([]++v::L) rfl (by simp [flat,vwC]) (by simp;try omega)) H7))
  ·have hXp:0 < X.length:=List.length_pos_iff.2 hX0
   by_cases hY0:Y=[]
   ·subst hY0
    obtain rfl:L=X:=by rw [hL,List.append_nil]
    (refine wx_Bgn ?_;repeat' (first|with_reducible refine And.intro ?_ ?_|intro hsp))
    all_goals exact AN8 (AN2 (C8 (Ah7 (L++v::[]) rfl (by simp [flat,vwC]) (by simp;try omega)) H7))
   ·have hYp:0 < Y.length:=List.length_pos_iff.2 hY0
    have hlt:X.length < L.length:=by omega
    have hx0:nth dV L X.length=nth dV Y 0:=by rw [hL];unfold nth;rw [List.getElem?_append_right (Nat.le_refl _),Nat.sub_self]
    have hY1:¬ bef (nth dV Y 0) v:=hY _ (Y.drop 1) (by rw [K9 hYp];cases Y with
     | nil=>exact absurd rfl hY0
     | cons a r=>rfl)
    have kb:=Ap2 (nth dV L X.length) v false (decide_eq_false (by rw [hx0];exact hY1)).symm
    clear hx0 hY1
    generalize hx:nth dV L X.length=u at *
    subst hL
    rw [List.length_append] at hl hll hlt
    (refine wx_Bgn ?_;repeat' (first|with_reducible refine And.intro ?_ ?_|intro hsp))
    all_goals exact AN8 (AN2 (C8 (Ah7 (X++v::Y) rfl (by simp [flat,vwC]) (by simp;try omega)) H7))
end
end Go.Proofs.YtphggldkligldaaGreat.Sh
namespace Go.Pol
open Go.Am
def prV (b:Bool) (v:Vw):Vw:=(v.1,v.2.1,v.2.2.1,b)
end Go.Pol
namespace Go.Proofs.YtphggldkligldaaGreat.Sh
open Go Go.Am Go.Pol
theorem wx_Bh {p q:Prop} (hq:q) (h:X0 q→p:=by (intro hQz;((repeat' ((try (conv=>whnf));first|refine sxA ?_|refine o7 (d:=dV) K3 (by first|assumption|omega) (by with_reducible assumption) ?_|refine sxF ?_|(refine M7 E9 b127 rfl ?_;unfold c127)|(refine M7 E9 b128 rfl ?_;unfold c128)|refine K5 (by assumption) ?_|refine O1 (by assumption) ?_|refine G9 (by assumption) ?_|refine sxH ?_|((with_reducible first|apply M9 hQz|apply N7 hQz)<;>(try intro hsp hQz))|exact hQz.out))<;>(try (conv=>whnf))))):p:=h ⟨hq⟩
theorem wx_Bhn {p q:Prop} (hq:q) (h:X0 q→p:=by (intro hQz;((repeat' ((try (conv=>whnf));first|refine sxA ?_|refine AH7 (Aa7 (AI0 L rfl) rfl (by first|(simp [H8 K3];done)|(simp [H8 K3];omega)|fail) (by first|decide|omega) ⟨by first|decide|omega,by first|decide|omega⟩) ?_|refine BS7 (AI0 L rfl) rfl (by first|(simp [H8 K3];done)|(simp [H8 K3];omega)|fail) (by first|decide|omega) ⟨by first|decide|omega,by first|decide|omega⟩ ?_|refine E5 (by first|(simp [H8 K3];omega)|fail) hset ?_|refine E5 (by first|(simp [H8 K3];omega)|(rw [H8 K3,hll];omega)|fail) hset2 ?_|refine sxN ?_|(refine M7 E9 b127 rfl ?_;unfold c127)|(refine M7 E9 b128 rfl ?_;unfold c128)|(refine M7 E9 b78 rfl ?_;unfold c78)|refine K5 (by assumption) ?_|refine O1 (by assumption) ?_|refine G9 (by assumption) ?_|refine sxH ?_|((with_reducible first|apply M9 hQz|apply N7 hQz)<;>(try intro hsp hQz))|exact hQz.out))<;>(try (conv=>whnf))))):p:=h ⟨hq⟩
theorem AP7 {L:List Vw} {e:Int}:Plain (.tup [.agg [.isl (L.map vwC)],.int .i64 e]):=G7 fun x hx=>by
 simp only [List.mem_cons,List.not_mem_nil,or_false] at hx
 rcases hx with rfl|rfl
 ·exact H9
 ·exact A8
section
variable {L A B:List Vw} {v:Vw}
theorem q_Map (hv:v.1 < 64∧v.2.1 < 1024∧v.2.2.1 < 1024) (hA:∀ w ∈ L,¬ atV (v.1,v.2.1) w) (hl:L.length < 2000):F4 60 [.agg [.isl (L.map vwC)],.agg [.int .i64 (v.1:Nat),.int .i64 (v.2.1:Nat),.int .i64 (v.2.2.1:Nat),.bool v.2.2.2]] (.tup [.agg [.isl ((AY4 v L).map vwC)],.int .i64 0]):=by
 refine F4.mk (I6 E9 b60 F6 ⟨H9,J7,trivial⟩ AP7 rfl ?_)
 unfold c60
 have hf:=An8 v.1 v.2.1 hA (by omega)
 obtain ⟨X,Y,h1,h2,h3,h4⟩:=w9 v L
 have hp:=q_put h1 h3 h4 (by omega)
 rw [← h2] at hp
 (refine wx_Bh ?_;repeat' (first|with_reducible refine And.intro ?_ ?_|intro hsp))
 all_goals first|exact E8 rfl AP7|(exfalso;omega)
theorem Al0 (A B:List Vw) (v w:Vw) (j:Nat) (x:AV) (h:(vwC v).set j x=vwC w) (hj:j < 4):([]++flat vwC (A++v::B)).set (A.length * 4+j) x=flat vwC (A++w::B):=by
 have e:∀ u:Vw,flat vwC (A++u::B)=flat vwC A++(vwC u++flat vwC B):=fun u=>by simp [flat]
 rw [List.nil_append,e,e,← h,List.set_append_right _ _ (by rw [H8 K3];omega),H8 K3,Nat.add_sub_cancel_left,List.set_append_left _ _ (by rw [K3];exact hj)]
theorem q_Protect (b:Bool) (hv:v.1 < 64∧v.2.1 < 1024) (hL:L=A++v::B) (hA:∀ w ∈ A,¬ atV (v.1,v.2.1) w) (hl:L.length≤2000):F4 63 [.agg [.isl (L.map vwC)],.int .i64 (v.1:Nat),.int .i64 (v.2.1:Nat),.bool b] (.tup [.agg [.isl ((A++prV b v::B).map vwC)],.int .i64 0]):=by
 refine F4.mk (I6 E9 b63 F6 ⟨H9,A8,A8,A9,trivial⟩ AP7 rfl ?_)
 unfold c63
 have hw:=q_view hv.1 hv.2 hL hA ⟨rfl,rfl⟩ (by omega)
 have hle:A.length < L.length:=by rw [hL];simp
 have hpos:0 < L.length:=by omega
 have hset:=Al0 A B v (prV b v) 3 (.bool b) rfl (by decide)
 rw [← hL] at hset
 have hfl:=H8 K3 L
 (refine wx_Bhn ?_;repeat' (first|with_reducible refine And.intro ?_ ?_|intro hsp))
 all_goals exact AN8 (AG9 (C8 (AN2 (C8 (Ah7 (A++prV b v::B) rfl rfl (by rw [hL];simp)) H7)) (C8 (L8 rfl) H7)))
theorem q_Split {f:Nat} (hv:v.1 < 64∧v.2.1 < 1024) (hf:f < 1024) (hL:L=A++v::B) (hA:∀ w ∈ A,¬ atV (v.1,v.2.1) w) (hl:L.length≤2000) (hc:cntF L f=0):F4 65 [.agg [.isl (L.map vwC)],.int .i64 (v.1:Nat),.int .i64 (v.2.1:Nat),.int .i64 (f:Nat)] (.tup [.agg [.isl ((A++frV f v::B).map vwC)],.int .i64 0]):=by
 refine F4.mk (I6 E9 b65 F6 ⟨H9,A8,A8,A8,trivial⟩ AP7 rfl ?_)
 unfold c65
 have hw:=q_view hv.1 hv.2 hL hA ⟨rfl,rfl⟩ (by omega)
 have hn:=q_count (L:=L) (f:Nat) (by omega)
 rw [cntI_nat,hc] at hn
 have hle:A.length < L.length:=by rw [hL];simp
 have hpos:0 < L.length:=by omega
 have hset:=Al0 A B v (v.1,v.2.1,f,v.2.2.2) 2 (.int .i64 (f:Nat)) rfl (by decide)
 have hset2:=Al0 A B (v.1,v.2.1,f,v.2.2.2) (frV f v) 3 (.bool true) rfl (by decide)
 rw [List.nil_append] at hset2
 have hll:(A++(v.1,v.2.1,f,v.2.2.2)::B).length=L.length:=by rw [hL];simp
 rw [← hL] at hset
 (refine wx_Bhn ?_;repeat' (first|with_reducible refine And.intro ?_ ?_|intro hsp))
 all_goals first|exact AN8 (AG9 (C8 (AN2 (C8 (Ah7 (A++frV f v::B) rfl rfl (by rw [hL];simp)) H7)) (C8 (L8 rfl) H7)))|trace_state
end
end Go.Proofs.YtphggldkligldaaGreat.Sh
namespace Go.Pol
open Go.Am
def wnV (a:Nat) (v:Vw):Vw:=(v.1,v.2.1,v.2.2.1,v.2.2.2 && !decide (v.1=a))
def Ai5 (b:Nat) (M:List Vw):List Vw→List Vw
 | []=>M
 | u::O=>Ai5 b (AY4 (cpV b u) M) O
theorem putL_0 (b:Nat) (M:List Vw):Ai5 b M []=M:=rfl
theorem putL_s (b:Nat) (M:List Vw):∀ (O:List Vw) (u:Vw),Ai5 b M (O++[u])=AY4 (cpV b u) (Ai5 b M O):=by
 intro O
 induction O generalizing M with
 | nil=>intro u;rfl
 | cons w O ih=>intro u;exact ih (AY4 (cpV b w) M) u
theorem putL_len (b:Nat) (M:List Vw):∀ O:List Vw,(Ai5 b M O).length=M.length+O.length:=by
 intro O
 induction O generalizing M with
 | nil=>rfl
 | cons w O ih=>rw [show Ai5 b M (w::O)=Ai5 b (AY4 (cpV b w) M) O from rfl,ih,Ag1,List.length_cons];omega
theorem putL_mem (b:Nat) (M:List Vw):∀ (O:List Vw) (v:Vw),v ∈ Ai5 b M O ↔ v ∈ M∨∃ u,u ∈ O∧v=cpV b u:=by
 intro O
 induction O generalizing M with
 | nil=>intro v;exact ⟨.inl,fun h=>h.elim id fun ⟨u,hu,_⟩=>by cases hu⟩
 | cons w O ih =>
  intro v
  rw [show Ai5 b M (w::O)=Ai5 b (AY4 (cpV b w) M) O from rfl,ih,AU6]
  constructor
  ·rintro ((h|h) | ⟨u,h1,h2⟩)
   ·exact .inr ⟨w,List.mem_cons_self ..,h⟩
   ·exact .inl h
   ·exact .inr ⟨u,List.mem_cons_of_mem _ h1,h2⟩
  ·rintro (h | ⟨u,h1,h2⟩)
   ·exact .inl (.inr h)
   ·rcases List.mem_cons.1 h1 with rfl|h1
    ·exact .inl (.inl h2)
    ·exact .inr ⟨u,h1,h2⟩
theorem putL_srt (b:Nat):∀ (O M:List Vw),srt M→(∀ u ∈ O,∀ w ∈ M,¬ atV (b,u.2.1) w)→(O.map (·.2.1)).Nodup→srt (Ai5 b M O):=by
 intro O
 induction O with
 | nil=>intro M h _ _;exact h
 | cons w O ih =>
  intro M h h2 h3
  rw [List.map_cons,List.nodup_cons] at h3
  refine ih _ (Ax8 h (h2 w (List.mem_cons_self ..))) (fun u hu x hx=>?_) h3.2
  rcases AU6.1 hx with rfl|hx
  ·intro ha;exact h3.1 (List.mem_map.2 ⟨u,hu,ha.2.symm⟩)
  ·exact h2 u (List.mem_cons_of_mem _ hu) x hx
theorem BD1 (a:Nat) (v:Vw):(v.1 ≠ a→wnV a v=v)∧(v.1=a→wnV a v=roV v):=by
 obtain ⟨v1,v2,v3,v4⟩:=v
 unfold wnV roV
 exact ⟨fun h=>by have : decide (v1=a)=false:=decide_eq_false h;dsimp only;rw [this];simp,fun h=>by have : decide (v1=a)=true:=decide_eq_true h;dsimp only;rw [this];simp⟩
theorem fork_same {L M:List Vw} {a b:Nat} (hL:srt L) (hM:srt M) (hb:ofA b L=[]) (h:Frk L (ofA a L) b (ofA a L).length M):M=Ai5 b (L.map (wnV a)) (ofA a L):=by
 have hm:∀ v,v ∈ M ↔ (v ∈ L∧v ∉ ofA a L)∨∃ u,u ∈ ofA a L∧(v=roV u∨v=cpV b u):=fun v=>by rw [h.mem,List.take_length]
 have hnb:∀ v ∈ L,v.1 ≠ b:=fun v hv e=>by
  have : v ∈ ofA b L:=R4.2 ⟨hv,e⟩
  rw [hb] at this;cases this
 have hO:srt (ofA a L):=hL.sublist List.filter_sublist
 have hOa:∀ u ∈ ofA a L,u.1=a:=fun u hu=>(R4.1 hu).2
 have hs1:srt (L.map (wnV a)):=List.Pairwise.map _ (fun u v hb=>by unfold bef wnV at *;exact hb) hL
 have hnd:((ofA a L).map (·.2.1)).Nodup:=by
  refine List.Pairwise.map _ (R:=fun u v=>bef u v∧u.1=v.1) (fun u v huv=>by obtain ⟨hb,he⟩:=huv;unfold bef at hb;show u.2.1 ≠ v.2.1;omega) ?_
  exact List.Pairwise.imp_of_mem (R:=bef) (fun {u v} hu hv hb=>⟨hb,by rw [hOa u hu,hOa v hv]⟩) hO
 refine Ax9 hM (putL_srt b _ _ hs1 (fun u hu w hw=>?_) hnd) fun v=>?_
 ·obtain ⟨x,hx,rfl⟩:=List.mem_map.1 hw
  intro ha;exact hnb x hx ha.1
 ·rw [hm,putL_mem,List.mem_map]
  constructor
  ·rintro (⟨h1,h2⟩ | ⟨u,h1,h2|h2⟩)
   ·exact .inl ⟨v,h1,(BD1 a v).1 fun e=>h2 (R4.2 ⟨h1,e⟩)⟩
   ·exact .inl ⟨u,(R4.1 h1).1,by rw [(BD1 a u).2 (hOa u h1),h2]⟩
   ·exact .inr ⟨u,h1,h2⟩
  ·rintro (⟨u,h1,rfl⟩ | ⟨u,h1,h2⟩)
   ·by_cases hu:u.1=a
    ·exact .inr ⟨u,R4.2 ⟨h1,hu⟩,.inl ((BD1 a u).2 hu)⟩
    ·rw [(BD1 a u).1 hu];exact .inl ⟨h1,fun h2=>hu (R4.1 h2).2⟩
   ·exact .inr ⟨u,h1,.inr h2⟩
end Go.Pol
namespace Go.Proofs.YtphggldkligldaaGreat.Sh
open Go Go.Am Go.Pol
theorem plx_Bi {p:Prop} (h:p:=by ((first|exact plw|(with_reducible first|apply L9|apply J7|apply J2|apply H9|apply D8|apply AP7|apply AG3|fail)|fail);first|done|fail)):p:=h
open Go.Proofs.YtphggldkligldaaGreat.Sh renaming plx_Bi → plx
open Go.Proofs.YtphggldkligldaaGreat.Sh renaming ppx_Bf → ppx
theorem wx_Bin {p q:Prop} (hq:q) (h:X0 q→p:=by (intro hQz;((repeat' ((try (conv=>whnf));first|refine sxA ?_|refine I4 (hC) ?_|refine E5 (by first|omega|fail) hset ?_|refine el_vw (by first|assumption|omega) (by with_reducible assumption) ?_|refine AH7 (Aa7 (AI0 L rfl) rfl (by first|(simp [H8 K3];done)|(simp [H8 K3];omega)|fail) (by first|decide|omega) ⟨by first|decide|omega,by first|decide|omega⟩) ?_|refine BS7 (AI0 L rfl) rfl (by first|(simp [H8 K3];done)|(simp [H8 K3];omega)|fail) (by first|decide|omega) ⟨by first|decide|omega,by first|decide|omega⟩ ?_|refine apps_0 hsrc rfl rfl ?_|refine sxN ?_|refine K5 (by assumption) ?_|refine O1 (by assumption) ?_|refine G9 (by assumption) ?_|(refine M7 E9 b127 rfl ?_;unfold c127)|(refine M7 E9 b128 rfl ?_;unfold c128)|(refine M7 E9 b78 rfl ?_;unfold c78)|refine sxH ?_|((with_reducible first|apply M9 hQz|apply N7 hQz)<;>(try intro hsp hQz))|exact hQz.out))<;>(try (conv=>whnf))))):p:=h ⟨hq⟩
theorem wx_Bi {p q:Prop} (hq:q) (h:X0 q→p:=by (intro hQz;((repeat' ((try (conv=>whnf));first|refine sxA ?_|refine sxF ?_|(refine M7 E9 b127 rfl ?_;unfold c127)|(refine M7 E9 b128 rfl ?_;unfold c128)|refine K5 (by assumption) ?_|refine O1 (by assumption) ?_|refine G9 (by assumption) ?_|refine sxH ?_|((with_reducible first|apply M9 hQz|apply N7 hQz)<;>(try intro hsp hQz))|exact hQz.out))<;>(try (conv=>whnf))))):p:=h ⟨hq⟩
theorem AG3 {L:List Vw} {n e:Int}:Plain (.tup [.agg [.isl (L.map vwC)],.int .i64 n,.int .i64 e]):=G7 fun x hx=>by
 simp only [List.mem_cons,List.not_mem_nil,or_false] at hx
 rcases hx with rfl|rfl|rfl
 ·exact H9
 ·exact A8
 ·exact A8
theorem flat_get (A B:List Vw) (v:Vw) (j:Nat) (x:AV) (h:(vwC v)[j]? = some x):(flat vwC (A++v::B))[A.length * 4+j]? = some x:=by
 have e:flat vwC (A++v::B)=flat vwC A++(vwC v++flat vwC B):=by simp [flat]
 have hj:j < (vwC v).length:=(List.getElem?_eq_some_iff.1 h).1
 rw [e,List.getElem?_append_right (by rw [H8 K3];omega),H8 K3,Nat.add_sub_cancel_left,List.getElem?_append_left hj,h]
theorem not5 {x y:AObj}:∀ j o,lk (Hp.l ⟨[(1,x),(6,y)],7⟩) j=some o→rn [] j ≠ 5:=fun j o hj=>by
 show j ≠ 5
 simp only [lk] at hj
 repeat' split at hj
 all_goals first|omega|cases hj
theorem wk_frz5 {σ:Nat→Nat} {h h':Hp} {n:Nat} {L:List Vw} (hs:AH8 σ h h') (hi:lk h.l 5=some (.cells (flat vwC L))) (hn:n=L.length) (hd:∀ j o,lk h'.l j=some o→σ j ≠ 5):WkV Tryz.prog σ h h' (.sl 5 0 n n 4) (.isl (L.map vwC)):=by
 subst hn
 refine Ah8 hi hd hs (by simp) (fun e he=>?_) ?_ fun e he x hx=>?_
 ·obtain ⟨s,_,rfl⟩:=List.mem_map.1 he;rfl
 ·rw [List.drop_zero,List.take_of_length_le (by rw [H8 K3];exact Nat.le_refl _)];rfl
 ·obtain ⟨s,_,rfl⟩:=List.mem_map.1 he;exact V8 x hx
theorem wk_frz6 {σ:Nat→Nat} {h h':Hp} {L:List Vw} (hs:AH8 σ h h') (hn:L=[]) (hi:lk h.l 5=some (.cells (flat vwC []))) (hd:∀ j o,lk h'.l j=some o→σ j ≠ 5):WkV Tryz.prog σ h h' (.sl 5 0 0 0 4) (.isl (L.map vwC)):=by
 subst hn;exact wk_frz5 hs hi rfl hd
section
variable {L A B:List Vw} {v:Vw}
theorem q_Fork_no (a b:Int) (hn:¬ (inR 64 a∧inR 64 b)):F4 61 [.agg [.isl (L.map vwC)],.int .i64 a,.int .i64 b] (.tup [.agg [.isl (L.map vwC)],.int .i64 0,.int .i64 7]):=by
 refine F4.mk (I6 E9 b61 F6 ⟨H9,A8,A8,trivial⟩ AG3 rfl ?_)
 unfold c61
 unfold inR at hn
 (refine wx_Bi ?_;repeat' (first|with_reducible refine And.intro ?_ ?_|intro hsp))
 all_goals first|exact E8 rfl AG3|(exfalso;omega)
theorem Af5 {a b:Nat} {e:Int} (ha:a < 64) (hb:b < 64) (hl:L.length≤2000) (he:(e=2∧a=b)∨(e=8∧a ≠ b∧(ofA b L).length ≠ 0)∨(e=5∧a ≠ b∧(ofA b L).length=0∧2000 < L.length+(ofA a L).length)):F4 61 [.agg [.isl (L.map vwC)],.int .i64 (a:Nat),.int .i64 (b:Nat)] (.tup [.agg [.isl (L.map vwC)],.int .i64 0,.int .i64 e]):=by
 refine F4.mk (I6 E9 b61 F6 ⟨H9,A8,A8,trivial⟩ AG3 rfl ?_)
 unfold c61
 have q1:=q_of (L:=L) (a:Int) (by omega)
 have q2:=q_of (L:=L) (b:Int) (by omega)
 rw [ofI_nat] at q1 q2
 have l1:((ofA a L).map vwC).length=(ofA a L).length:=List.length_map _
 have l2:((ofA b L).map vwC).length=(ofA b L).length:=List.length_map _
 have l3:(ofA a L).length≤L.length:=List.length_filter_le ..
 rcases he with ⟨rfl,h1⟩ | ⟨rfl,h1,h2⟩ | ⟨rfl,h1,h2,h3⟩
 all_goals (refine wx_Bi ?_;repeat' (first|with_reducible refine And.intro ?_ ?_|intro hsp))
 all_goals first|exact E8 rfl AG3|(exfalso;omega)
theorem q_Fork {a b:Nat} (hab:a ≠ b) (ha:a < 64) (hb:b < 64) (hnb:ofA b L=[]) (hlen:L.length+(ofA a L).length≤2000) (hL:Go.Pol.srt L) (h0:0 < L.length):F4 61 [.agg [.isl (L.map vwC)],.int .i64 (a:Nat),.int .i64 (b:Nat)] (.tup [.agg [.isl ((Ai5 b (L.map (wnV a)) (ofA a L)).map vwC)],.int .i64 ((ofA a L).length:Nat),.int .i64 0]):=by
 refine F4.mk (I6 E9 b61 F6 ⟨H9,A8,A8,trivial⟩ AG3 rfl ?_)
 unfold c61
 have q1:=q_of (L:=L) (a:Int) (by omega)
 have q2:=q_of (L:=L) (b:Int) (by omega)
 rw [ofI_nat] at q1 q2
 rw [hnb] at q2
 have l1:((ofA a L).map vwC).length=(ofA a L).length:=List.length_map _
 have l3:(ofA a L).length≤L.length:=List.length_filter_le ..
 (refine wx_Bin ?_;repeat' (first|with_reducible refine And.intro ?_ ?_|intro hsp))
 ·exfalso;simp at hsp
 clear hsp
 (refine G8 [1,2,6,9,10] (fun (i:Nat)=>[(11,.int .i64 (i:Nat))]) (fun (i:Nat)=>⟨[(1,.cells [.nils]),(5,.cells (flat vwC ((L.take i).map (wnV a)++L.drop i))),(6,.cells [.sl 5 0 (0+L.length) (0+L.length) 4])],7⟩) (fun (i:Nat)=>i≤L.length) (fun (i:Nat)=>L.length - i) (0) [] rfl (fun _=>by first|exact Nat.zero_le _|(dsimp only;omega)) ?_ (by ((try (conv=>whnf));(rw [List.take_zero,List.map_nil,List.drop_zero,List.nil_append]);exact BL8)) ?_)
 ·exact Nat.zero_le _
 intro i hi
 by_cases hil:i < L.length
 ·have hdr:L.drop i=nth dV L i::L.drop (i+1):=by rw [K9 hil,List.drop_eq_getElem_cons hil]
  have hAl:((L.take i).map (wnV a)).length=i:=by rw [List.length_map,List.length_take];omega
  have hnx:(L.take (i+1)).map (wnV a)++L.drop (i+1)=(L.take i).map (wnV a)++wnV a (nth dV L i)::L.drop (i+1):=by rw [Z9 (d:=dV) hil,List.map_append,List.append_assoc];rfl
  have hC:=flat_get ((L.take i).map (wnV a)) (L.drop (i+1)) (nth dV L i) 0 (.int .i64 ((nth dV L i).1:Nat)) rfl
  have hset:=Al0 ((L.take i).map (wnV a)) (L.drop (i+1)) (nth dV L i) (roV (nth dV L i)) 3 (.bool false) rfl (by decide)
  have hlen4:(flat vwC ((L.take i).map (wnV a)++L.drop i)).length=L.length * 4:=by rw [H8 K3,List.length_append,hAl,List.length_drop];congr 1;omega
  rw [List.nil_append,hAl] at hset
  rw [hAl,Nat.add_zero] at hC
  rw [← hdr] at hset hC
  have hwn:=BD1 a (nth dV L i)
  generalize nth dV L i=u at *
  by_cases hu:u.1=a
  ·rw [hwn.2 hu] at hnx
   rw [← hnx] at hset
   (refine wx_Bin ?_;repeat' (first|with_reducible refine And.intro ?_ ?_|intro hsp))
   all_goals exact D9 (i+1) [] (by (try dsimp only);omega) (by first|omega|(dsimp only;omega)) rfl (by exact BL8)
  ·rw [hwn.1 hu,← hdr] at hnx
   (refine wx_Bin ?_;repeat' (first|with_reducible refine And.intro ?_ ?_|intro hsp))
   all_goals exact D9 (i+1) [] (by (try dsimp only);omega) (by first|omega|(dsimp only;omega)) rfl (by ((try dsimp only);rw [hnx]);exact BL8)
 ·obtain rfl:i=L.length:=by omega
  rw [List.take_length,List.drop_length,List.append_nil]
  (refine wx_Bin ?_;repeat' (first|with_reducible refine And.intro ?_ ?_|intro hsp))
  have hml:(L.map (wnV a)).length=L.length:=List.length_map _
  (refine G8 [2,6,9] (fun (k:Nat)=>[(10,.ptr 6 0),(12,.int .i64 (k:Nat))]) (fun (k:Nat)=>⟨[(1,.cells [.nils]),(6,.cells [.isl ((Ai5 b (L.map (wnV a)) ((ofA a L).take k)).map vwC)])],7⟩) (fun (k:Nat)=>k≤(ofA a L).length) (fun (k:Nat)=>(ofA a L).length - k) (0) [] rfl (fun _=>by first|exact Nat.zero_le _|(dsimp only;omega)) ?_ (by ((try (conv=>whnf));(rw [List.take_zero,putL_0]);exact BL8)) ?_)
  ·exact Nat.zero_le _
  intro k hk
  have hpl:=putL_len b (L.map (wnV a)) ((ofA a L).take k)
  rw [hml,List.length_take] at hpl
  by_cases hkl:k < (ofA a L).length
  ·have htk:Ai5 b (L.map (wnV a)) ((ofA a L).take (k+1))=AY4 (cpV b (nth dV (ofA a L) k)) (Ai5 b (L.map (wnV a)) ((ofA a L).take k)):=by rw [Z9 (d:=dV) hkl,putL_s]
   obtain ⟨X,Y,e1,e2,e3,e4⟩:=w9 (cpV b (nth dV (ofA a L) k)) (Ai5 b (L.map (wnV a)) ((ofA a L).take k))
   have hp:=q_put e1 e3 e4 (by omega)
   rw [← e2,← htk] at hp
   clear e1 e2 e3 e4 htk
   generalize hu:nth dV (ofA a L) k=u at *
   obtain ⟨ua,uk,uf,uw⟩:=u
   have hp':F4 130 [.agg [.isl ((Ai5 b (L.map (wnV a)) ((ofA a L).take k)).map vwC)],.agg [.int .i64 (b:Nat),.int .i64 (uk:Nat),.int .i64 (uf:Nat),.bool false]] (.agg [.isl ((Ai5 b (L.map (wnV a)) ((ofA a L).take (k+1))).map vwC)]):=hp
   clear hp
   (refine wx_Bin ?_;repeat' (first|with_reducible refine And.intro ?_ ?_|intro hsp))
   all_goals exact D9 (k+1) [] (by (try dsimp only);omega) (by first|omega|(dsimp only;omega)) rfl (by exact BL8)
  ·rw [List.take_of_length_le (by omega)]
   (refine wx_Bin ?_;repeat' (first|with_reducible refine And.intro ?_ ?_|intro hsp))
   all_goals exact E8 rfl AG3
theorem apps_0 {l:List (Nat × AObj)} {nx sz bytes d n:Nat} {x:AV} {cs:List AV} {rd:List Nat} {k:AV→Up→Prop} (hs:Ai1 (lk l) sz x=some ([],0,rd)) (hd:lk l d=some (.cells cs)) (hc:cs.length=n * sz) (hk:k (.sl d 0 n n sz) [(d,some (.cells cs))]):AppSX l nx sz bytes (.sl d 0 n n sz) x k:=by
 have e:=appV_in (nx:=nx) (bytes:=bytes) (off:=0) (cp:=n) (len:=n) hs hd (Nat.le_refl _) (by rw [Nat.add_zero];omega)
 rw [Nat.add_zero,show over cs (0+n * sz) []=cs from rfl] at e
 exact AH7 e hk
theorem q_Fork_nil {a b:Nat} (hab:a ≠ b) (ha:a < 64) (hb:b < 64) (h0:L.length=0):F4 61 [.agg [.isl (L.map vwC)],.int .i64 (a:Nat),.int .i64 (b:Nat)] (.tup [.agg [.isl (L.map vwC)],.int .i64 0,.int .i64 0]):=by
 have hnil:L=[]:=List.eq_nil_of_length_eq_zero h0
 refine F4.mk (I6 E9 b61 F6 ⟨H9,A8,A8,trivial⟩ AG3 rfl ?_)
 unfold c61
 have q1:=q_of (L:=L) (a:Int) (by omega)
 have q2:=q_of (L:=L) (b:Int) (by omega)
 rw [show ofI (a:Int) L=[] by rw [hnil];rfl] at q1
 rw [show ofI (b:Int) L=[] by rw [hnil];rfl] at q2
 have hsrc:∀ {at_:At},Ai1 at_ 4 (.isl (L.map vwC))=some ([],0,[]):=fun {at_}=>by rw [hnil];exact AI0 [] rfl
 (refine wx_Bin ?_;repeat' (first|with_reducible refine And.intro ?_ ?_|intro hsp))
 all_goals try (exfalso;simp at hsp;done)
 clear hsp
 (refine G8 [2,6,9] (fun (i:Nat)=>[(10,.ptr 6 0),(11,.int .i64 0)]) (fun (i:Nat)=>⟨[(1,.cells [.nils]),(5,.cells (flat vwC [])),(6,.cells [.sl 5 0 0 0 4])],7⟩) (fun (i:Nat)=>i=0) (fun (i:Nat)=>0) (0) [(5,4),(6,5)] rfl (fun _=>by first|exact Nat.zero_le _|(dsimp only;omega)) ?_ (by ((try (conv=>whnf));exact BL8)) ?_)
 ·rfl
 intro i hi
 (refine wx_Bin ?_;repeat' (first|with_reducible refine And.intro ?_ ?_|intro hsp))
 (refine G8 [6,9] (fun (k:Nat)=>[(10,.ptr 6 0),(12,.int .i64 0)]) (fun (k:Nat)=>⟨[(1,.cells [.nils]),(6,.cells [.isl (L.map vwC)])],7⟩) (fun (k:Nat)=>k=0) (fun (k:Nat)=>0) (0) [] rfl (fun _=>by first|exact Nat.zero_le _|(dsimp only;omega)) ?_ (by ((try (conv=>whnf));exact BL8)) ?_)
 ·rfl
 intro k hk
 (refine wx_Bin ?_;repeat' (first|with_reducible refine And.intro ?_ ?_|intro hsp))
 all_goals first|exact E8 rfl AG3|(exfalso;simp at hsp;done)
end
end Go.Proofs.YtphggldkligldaaGreat.Sh
namespace Go.Proofs.YtphggldkligldaaGreat.Sh
open Go Go.Am Go.Pol
theorem wx_Yq {p q:Prop} (hq:q) (h:X0 q→p:=by (intro hQz;((repeat' ((try (conv=>whnf));first|refine sxA ?_|refine AC2 (by with_reducible assumption) ?_|refine sxF ?_|refine AA2 (by assumption) rfl rfl rfl rfl rfl (by decide) rfl ?_|(refine M7 E9 b119 rfl ?_;unfold c119)|refine Aa4 (by assumption) rfl (by omega) ?_|refine sxH ?_|((with_reducible first|apply M9 hQz|apply N7 hQz)<;>(try intro hsp hQz))|exact hQz.out))<;>(try (conv=>whnf))))):p:=h ⟨hq⟩
theorem wx_Yqn {p q:Prop} (hq:q) (h:X0 q→p:=by (intro hQz;((repeat' ((try (conv=>whnf));first|refine sxA ?_|refine BP3 rfl (by with_reducible assumption) ?_|refine sxN ?_|refine AA2 (by assumption) rfl rfl rfl rfl rfl (by decide) rfl ?_|refine o8 (by assumption) rfl rfl rfl (by decide) (by first|exact AI6|(simp [A8,A9];done)|fail) (by first|exact AL0|exact A8|fail) rfl ?_|refine AS2 (by assumption) rfl rfl rfl (by first|exact AI6|(simp [A8,A9];done)|fail) (by first|exact AL0|exact A8|fail) rfl rfl ?_|(refine M7 E9 b119 rfl ?_;unfold c119)|refine Aa4 (by assumption) rfl (by omega) ?_|refine o8 (by assumption) rfl rfl rfl (by decide) (by first|(simp [A8,A9];done)|fail) D8 rfl ?_|refine AS2 (by assumption) rfl rfl rfl (by first|(simp [A8,A9];done)|fail) D8 rfl rfl ?_|refine sxH ?_|((with_reducible first|apply M9 hQz|apply N7 hQz)<;>(try intro hsp hQz))|exact hQz.out))<;>(try (conv=>whnf))))):p:=h ⟨hq⟩
section
variable {L:List Vw} {t:TS} {v:Vw} {s:Nat}
theorem t_Protect (h:TOk L t) (hs:s ∈ t.Q v.1) (hu:t.U s=v) (w:Bool) :
  ∃ t' A B,L=A++v::B∧TOk (A++prV w v::B) t'∧AC1 95 [.int .i64 (v.1:Nat),.int .i64 (v.2.1:Nat),.bool w] t (.int .i64 0) t':=by
 obtain ⟨X,Y,A,B,hQ,hL,hX,hY,hsX,hsY⟩:=h.around hs hu
 have hv:v ∈ L:=by rw [hL];simp
 have hok:=h.ok v hv
 have hm:v.1 < t.m:=by rw [h.hm];exact hok.1
 have hfi:=t_find hok.1 hok.2.1 h.keys (h.entry hs hu)
 have hget:=h.get hs
 rw [hu] at hget
 obtain ⟨i1,hput⟩:=p_put h.pool.inv (s:=s) (i:=v.1) ⟨hm,hQ⟩ (num v.1) (num v.2.1) (num v.2.2.1) (bo w)
 have hT:=h.chg (w:=prV w v) (C:=t.C) hu hQ hL hX hY hsX hsY rfl rfl hok.2.2 (fun f=>by
  have:=h.cnt f
  rw [hL,AC3,AB2] at this
  rw [AC3,AB2];exact this) ⟨i1,h.pool.m_le,h.pool.n_le,h.pool.n_pos⟩
 refine ⟨_,A,B,hL,hT,AC1.mk (G5 E9 b95 rfl ?_) AL1 A8⟩
 unfold c95
 obtain ⟨va,vk,vf,vw⟩:=v
 have hput':AJ2 146 [.int .i64 (s:Nat),.agg [.int .i64 (va:Nat),.int .i64 (vk:Nat),.int .i64 (vf:Nat),.bool w]] t.n t.m (u6 t.n t.m t.V t.W t.V3 t.V4 t.S) (.int .i64 0) (u6 t.n t.m (M5 t.V s (num va)) (M5 t.W s (num vk)) (M5 t.V3 s (num vf)) (M5 t.V4 s (bo w)) t.S):=hput
 unfold vwC at hget
 dsimp only at *
 clear hput
 (refine wx_Yqn ?_;repeat' (first|with_reducible refine And.intro ?_ ?_|intro hsp))
 all_goals exact X6 rfl A8 rfl rfl rfl rfl rfl
theorem t_Fork_no (a b:Int) (hn:¬ (inR 64 a∧inR 64 b)):AC1 85 [.int .i64 a,.int .i64 b] t (.tup [.int .i64 0,.int .i64 7]) t:=by
 have k1:=Ap3 a b
 rw [if_neg hn] at k1
 refine AC1.mk (G5 E9 b85 rfl ?_) O5 D8
 unfold c85
 (refine wx_Yq ?_;repeat' (first|with_reducible refine And.intro ?_ ?_|intro hsp))
 all_goals exact X6 rfl D8 rfl rfl rfl rfl rfl
theorem Ae7 (h:TOk L t) {a b:Nat} {e:Int} (ha:a < 64) (hb:b < 64) (he:(e=2∧a=b)∨(e=8∧a ≠ b∧(ofA b L).length ≠ 0)∨(e=5∧a ≠ b∧(ofA b L).length=0∧2000 < L.length+(ofA a L).length)):AC1 85 [.int .i64 (a:Nat),.int .i64 (b:Nat)] t (.tup [.int .i64 0,.int .i64 e]) t:=by
 have k1:=Ap3 (a:Nat) (b:Nat)
 rw [if_pos ⟨Aj6 ha,Aj6 hb⟩] at k1
 have l1:=h.len_q ha
 have l2:=h.len_q hb
 have hml:(t.E.map AO5).length=L.length:=by rw [List.length_map,h.elen]
 have hLl:=h.len
 have l3:(ofA a L).length≤L.length:=List.length_filter_le ..
 refine AC1.mk (G5 E9 b85 rfl ?_) O5 D8
 unfold c85
 rcases he with ⟨rfl,h1⟩ | ⟨rfl,h1,h2⟩ | ⟨rfl,h1,h2,h3⟩
 all_goals (refine wx_Yqn ?_;repeat' (first|with_reducible refine And.intro ?_ ?_|intro hsp))
 all_goals first|exact X6 rfl D8 rfl rfl rfl rfl rfl|(exfalso;omega)
theorem BF8 {e:Int}:Plain (.tup [.nils,.int .i64 e]):=G7 fun x hx=>by
 simp only [List.mem_cons,List.not_mem_nil,or_false] at hx
 rcases hx with rfl|rfl
 ·exact AJ4
 ·exact A8
theorem t_Drop_no (a:Int) (hn:¬ inR 64 a):AC1 86 [.int .i64 a] t (.tup [.nils,.int .i64 7]) t:=by
 have k1:=AQ6 a
 rw [if_neg hn] at k1
 refine AC1.mk (G5 E9 b86 rfl ?_) AW8 BF8
 unfold c86
 (refine wx_Yq ?_;repeat' (first|with_reducible refine And.intro ?_ ?_|intro hsp))
 all_goals exact X6 rfl BF8 rfl rfl rfl rfl rfl
theorem BM6 (a at_:Int) (w:Bool) (hn:¬ inR 65536 at_):AC1 121 [.int .i64 a,.int .i64 at_,.bool w] t (.tup [.int .i64 0,.int .i64 7]) t:=by
 unfold inR at hn
 refine AC1.mk (G5 E9 b121 rfl ?_) AL1 D8
 unfold c121
 (refine wx_Yq ?_;repeat' (first|with_reducible refine And.intro ?_ ?_|intro hsp))
 all_goals first|exact X6 rfl D8 rfl rfl rfl rfl rfl|(exfalso;omega)
theorem t_where_no (a:Int) (at_:Nat) (w:Bool) (hat:at_ < 65536) (hn:¬ inR 64 a):AC1 121 [.int .i64 a,.int .i64 (at_:Nat),.bool w] t (.tup [.int .i64 0,.int .i64 7]) t:=by
 have hq:=q64 (t:=at_) (by omega)
 have hf:=t_Find_no (t:=t) a ((at_ / 64:Nat):Int) fun h=>hn h.1
 refine AC1.mk (G5 E9 b121 rfl ?_) AL1 D8
 unfold c121
 (refine wx_Yq ?_;repeat' (first|with_reducible refine And.intro ?_ ?_|intro hsp))
 all_goals first|exact X6 rfl D8 rfl rfl rfl rfl rfl|(exfalso;omega)
end
end Go.Proofs.YtphggldkligldaaGreat.Sh
