/-
 The document's answer: find,count,view,Find,Count,Where.
 The document's answer: a view is put in,or taken out.
 The document's answer: Map,Unmap,Protect,Split.
 The document's answer: Fork.
-/
import Derived.Test.YtphggldkligldaaGreatQe
set_option linter.unusedSimpArgs false
set_option linter.unusedVariables false
set_option maxHeartbeats 1600000
namespace Go.Proofs.YtphggldkligldaaGreat.Sh
open Go Go.Am Go.Pol
theorem ppx_Bf {p:Prop} (h:p:=by ((first|with_reducible assumption|(with_reducible first|apply X9|apply K7 AA3|fail)|exact ppw|fail);first|done|fail)):p:=h
open Go.Proofs.YtphggldkligldaaGreat.Sh renaming plx_Yo → plx
open Go.Proofs.YtphggldkligldaaGreat.Sh renaming ppx_Bf → ppx
theorem wx_Bf {p q:Prop} (hq:q) (h:R7 q→p:=by (intro hQz;((repeat' ((try (conv=>whnf));first|refine sxA ?_|refine Z9 (d:=dV) K9 (by first|assumption|omega) (by with_reducible assumption) ?_|refine AC0 (by with_reducible assumption) ?_|refine sxF ?_|refine G7 (by assumption) ?_|refine J5 (by assumption) ?_|(refine O6 D9 b127 rfl ?_;unfold c127)|(refine O6 D9 b128 rfl ?_;unfold c128)|refine L6 (by assumption) ?_|refine sxH ?_|((with_reducible first|apply L8 hQz|apply L9 hQz)<;>(try intro hsp hQz))|exact hQz.out))<;>(try (conv=>whnf))))):p:=h ⟨hq⟩
theorem Ar9 {A B:List Vw} {v:Vw}:nth dV (A++v::B) A.length=v:=by
 rw [N8 (by simp),List.getElem_append_right (by omega)];simp
theorem nth_lo {A B:List Vw} {i:Nat} (h:i < A.length):nth dV (A++B) i=nth dV A i:=by
 rw [N8 (by simp;omega),N8 h,List.getElem_append_left h]
theorem cnt_take2 {L:List Vw} {i:Nat} (f:Int) (hi:i < L.length):((L.take (i+1)).filter fun v=>decide ((v.2.2.1:Int)=f)).length=((L.take i).filter fun v=>decide ((v.2.2.1:Int)=f)).length+if ((nth dV L i).2.2.1:Int)=f then 1 else 0:=by
 rw [d9 (d:=dV) hi,List.filter_append,List.length_append,List.filter_cons]
 by_cases h:((nth dV L i).2.2.1:Int)=f<;>simp [h]
def cntI (L:List Vw) (f:Int):Nat:=(L.filter fun v=>decide ((v.2.2.1:Int)=f)).length
theorem cntI_nil (f:Int):cntI [] f=0:=rfl
theorem Ao3 (L:List Vw) (f:Nat):cntI L (f:Nat)=cntF L f:=by unfold cntI cntF;congr 2;funext v;exact decide_eq_decide.2 (by omega)
theorem el_vw {L:List Vw} {i:Nat} {K:List AV→Prop} {va vk vf:Nat} {vw:Bool} (hj:i < L.length) (hx:nth dV L i=(va,vk,vf,vw)) (hk:K [.int .i64 (va:Nat),.int .i64 (vk:Nat),.int .i64 (vf:Nat),.bool vw]):ElX (L.map vwC) i 4 K:=Z9 K9 hj hx hk
section
variable {L A B:List Vw} {v:Vw}
theorem q_find (a k:Nat) (hL:L=A++v::B) (hA:∀ u ∈ A,¬ atV (a,k) u) (hv:atV (a,k) v) (hl:L.length≤4000):E5 129 [.agg [.isl (L.map vwC)],.int .i64 (a:Nat),.int .i64 (k:Nat)] (.int .i64 (A.length:Nat)):=by
 refine E5.mk (I5 D9 b129 F3 ⟨G8,A8,A8,trivial⟩ A8 rfl ?_)
 unfold c129
 have hle:A.length < L.length:=by rw [hL];simp
 (refine wx_Bf ?_;repeat' (first|with_reducible refine And.intro ?_ ?_|intro hsp))
 (refine H9 [1,2,3] (fun (i:Nat)=>[(7,.int .i64 (i:Nat))]) (fun (i:Nat)=>⟨[(0,.cells [.isl (L.map vwC)])],1⟩) (fun (i:Nat)=>i≤A.length) (fun (i:Nat)=>A.length - i) (0) [] rfl (fun _=>by first|exact Nat.zero_le _|(dsimp only;omega)) ?_ (by ((try (conv=>whnf));exact R3)) ?_)
 ·exact Nat.zero_le _
 intro i hi
 have hil:i < L.length:=by omega
 by_cases hia:i < A.length
 ·have hx:nth dV L i=nth dV A i:=by rw [hL,nth_lo hia]
  have hne:=hA _ (AB6 (d:=dV) hia)
  rw [← hx] at hne
  unfold atV at hne
  clear hx
  generalize hx:nth dV L i=u at *
  dsimp only at hne
  (refine wx_Bf ?_;repeat' (first|with_reducible refine And.intro ?_ ?_|intro hsp))
  all_goals exact D8 (i+1) [] (by (try dsimp only);omega) (by first|omega|(dsimp only;omega)) rfl (by exact R3)
 ·obtain rfl:i=A.length:=by omega
  have hx:nth dV L A.length=v:=by rw [hL,Ar9]
  unfold atV at hv
  dsimp only at hv
  (refine wx_Bf ?_;repeat' (first|with_reducible refine And.intro ?_ ?_|intro hsp))
  all_goals exact AE1 rfl
theorem Ar1 (a k:Nat) (hA:∀ u ∈ L,¬ atV (a,k) u) (hl:L.length≤4000):E5 129 [.agg [.isl (L.map vwC)],.int .i64 (a:Nat),.int .i64 (k:Nat)] (.int .i64 (-1)):=by
 refine E5.mk (I5 D9 b129 F3 ⟨G8,A8,A8,trivial⟩ A8 rfl ?_)
 unfold c129
 (refine wx_Bf ?_;repeat' (first|with_reducible refine And.intro ?_ ?_|intro hsp))
 (refine H9 [1,2,3] (fun (i:Nat)=>[(7,.int .i64 (i:Nat))]) (fun (i:Nat)=>⟨[(0,.cells [.isl (L.map vwC)])],1⟩) (fun (i:Nat)=>i≤L.length) (fun (i:Nat)=>L.length - i) (0) [] rfl (fun _=>by first|exact Nat.zero_le _|(dsimp only;omega)) ?_ (by ((try (conv=>whnf));exact R3)) ?_)
 ·exact Nat.zero_le _
 intro i hi
 by_cases hia:i < L.length
 ·have hne:=hA _ (AB6 (d:=dV) hia)
  unfold atV at hne
  generalize hx:nth dV L i=u at *
  dsimp only at hne
  (refine wx_Bf ?_;repeat' (first|with_reducible refine And.intro ?_ ?_|intro hsp))
  all_goals exact D8 (i+1) [] (by (try dsimp only);omega) (by first|omega|(dsimp only;omega)) rfl (by exact R3)
 ·(refine wx_Bf ?_;repeat' (first|with_reducible refine And.intro ?_ ?_|intro hsp))
  all_goals exact AE1 rfl
theorem Ar2 (f:Int) (hl:L.length≤4000):E5 133 [.agg [.isl (L.map vwC)],.int .i64 f] (.int .i64 (cntI L f:Nat)):=by
 refine E5.mk (I5 D9 b133 F3 ⟨G8,A8,trivial⟩ A8 rfl ?_)
 unfold c133
 (refine wx_Bf ?_;repeat' (first|with_reducible refine And.intro ?_ ?_|intro hsp))
 (refine H9 [1,2] (fun (i:Nat)=>[(5,.int .i64 (cntI (L.take i) f:Nat)),(6,.int .i64 (i:Nat))]) (fun (i:Nat)=>⟨[(0,.cells [.isl (L.map vwC)])],1⟩) (fun (i:Nat)=>i≤L.length) (fun (i:Nat)=>L.length - i) (0) [] rfl (fun _=>by first|exact Nat.zero_le _|(dsimp only;omega)) ?_ (by ((try (conv=>whnf));(rw [List.take_zero,cntI_nil]);exact R3)) ?_)
 ·exact Nat.zero_le _
 intro i hi
 have hc:cntI (L.take i) f≤i:=Nat.le_trans (List.length_filter_le ..) (by rw [List.length_take];omega)
 by_cases hia:i < L.length
 ·have ht:cntI (L.take (i+1)) f=cntI (L.take i) f+if ((nth dV L i).2.2.1:Int)=f then 1 else 0:=cnt_take2 f hia
  generalize hx:nth dV L i=u at *
  by_cases hf:(u.2.2.1:Int)=f
  ·rw [if_pos hf] at ht
   (refine wx_Bf ?_;repeat' (first|with_reducible refine And.intro ?_ ?_|intro hsp))
   all_goals exact D8 (i+1) [] (by (try dsimp only);omega) (by first|omega|(dsimp only;omega)) rfl (by exact R3)
  ·rw [if_neg hf] at ht
   (refine wx_Bf ?_;repeat' (first|with_reducible refine And.intro ?_ ?_|intro hsp))
   all_goals exact D8 (i+1) [] (by (try dsimp only);omega) (by first|omega|(dsimp only;omega)) rfl (by exact R3)
 ·(refine wx_Bf ?_;repeat' (first|with_reducible refine And.intro ?_ ?_|intro hsp))
  all_goals exact AE1 (by rw [List.take_of_length_le (by omega)])
theorem Ar0 {a k:Nat} (ha:a < 64) (hk:k < 1024) (hA:∀ u ∈ L,¬ atV (a,k) u) (hl:L.length≤4000):E5 124 [.agg [.isl (L.map vwC)],.int .i64 (a:Nat),.int .i64 (k:Nat)] (.tup [.int .i64 0,.int .i64 4]):=by
 refine E5.mk (I5 D9 b124 F3 ⟨G8,A8,A8,trivial⟩ F4 rfl ?_)
 unfold c124
 have hf:=Ar1 a k hA hl
 (refine wx_Bf ?_;repeat' (first|with_reducible refine And.intro ?_ ?_|intro hsp))
 all_goals first|exact F6 rfl F4|(exfalso;omega)
theorem q_view {a k:Nat} (ha:a < 64) (hk:k < 1024) (hL:L=A++v::B) (hA:∀ u ∈ A,¬ atV (a,k) u) (hv:atV (a,k) v) (hl:L.length≤4000):E5 124 [.agg [.isl (L.map vwC)],.int .i64 (a:Nat),.int .i64 (k:Nat)] (.tup [.int .i64 (A.length:Nat),.int .i64 0]):=by
 refine E5.mk (I5 D9 b124 F3 ⟨G8,A8,A8,trivial⟩ F4 rfl ?_)
 unfold c124
 have hf:=q_find a k hL hA hv hl
 (refine wx_Bf ?_;repeat' (first|with_reducible refine And.intro ?_ ?_|intro hsp))
 all_goals first|exact F6 rfl F4|(exfalso;omega)
theorem q_Find_bad {a k e:Int} (he:e ≠ 0) (h:E5 124 [.agg [.isl (L.map vwC)],.int .i64 a,.int .i64 k] (.tup [.int .i64 0,.int .i64 e])):E5 57 [.agg [.isl (L.map vwC)],.int .i64 a,.int .i64 k] (.tup [.agg [.int .i64 0,.int .i64 0,.int .i64 0,.bool false],.int .i64 e]):=by
 refine E5.mk (I5 D9 b57 F3 ⟨G8,A8,A8,trivial⟩ AX6 rfl ?_)
 unfold c57
 (refine wx_Bf ?_;repeat' (first|with_reducible refine And.intro ?_ ?_|intro hsp))
 all_goals first|exact F6 rfl AX6|(exfalso;omega)
theorem q_Find {a k:Nat} (ha:a < 64) (hk:k < 1024) (hL:L=A++v::B) (hA:∀ u ∈ A,¬ atV (a,k) u) (hv:atV (a,k) v) (hl:L.length≤4000):E5 57 [.agg [.isl (L.map vwC)],.int .i64 (a:Nat),.int .i64 (k:Nat)] (.tup [.agg (vwC v),.int .i64 0]):=by
 refine E5.mk (I5 D9 b57 F3 ⟨G8,A8,A8,trivial⟩ Ad4 rfl ?_)
 unfold c57
 have hf:=q_view ha hk hL hA hv hl
 have hle:A.length < L.length:=by rw [hL];simp
 have hx:nth dV L A.length=v:=by rw [hL,Ar9]
 (refine wx_Bf ?_;repeat' (first|with_reducible refine And.intro ?_ ?_|intro hsp))
 all_goals first|exact F6 rfl Ad4|(exfalso;omega)
theorem q_Count (f:Int) (hl:L.length≤4000):E5 132 [.agg [.isl (L.map vwC)],.int .i64 f] (.tup [.int .i64 (if inR 1024 f then (cntI L f:Nat) else 0),.int .i64 (if inR 1024 f then 0 else 7)]):=by
 refine E5.mk (I5 D9 b132 F3 ⟨G8,A8,trivial⟩ F4 rfl ?_)
 unfold c132
 have hc:=Ar2 (L:=L) f hl
 by_cases hf:inR 1024 f
 ·rw [if_pos hf,if_pos hf]
  unfold inR at hf
  (refine wx_Bf ?_;repeat' (first|with_reducible refine And.intro ?_ ?_|intro hsp))
  all_goals first|exact F6 rfl F4|(exfalso;omega)
 ·rw [if_neg hf,if_neg hf]
  unfold inR at hf
  (refine wx_Bf ?_;repeat' (first|with_reducible refine And.intro ?_ ?_|intro hsp))
  all_goals first|exact F6 rfl F4|(exfalso;omega)
theorem q_Where_no {a at_:Int} (w:Bool) (hn:¬ (inR 64 a∧inR 65536 at_)):E5 134 [.agg [.isl (L.map vwC)],.int .i64 a,.int .i64 at_,.bool w] (.tup [.int .i64 0,.int .i64 7]):=by
 refine E5.mk (I5 D9 b134 F3 ⟨G8,A8,A8,A9,trivial⟩ F4 rfl ?_)
 unfold c134
 unfold inR at hn
 (refine wx_Bf ?_;repeat' (first|with_reducible refine And.intro ?_ ?_|intro hsp))
 all_goals first|exact F6 rfl F4|(exfalso;omega)
theorem BK1 {a at_:Nat} (w:Bool) (ha:a < 64) (hat:at_ < 65536) (hA:∀ u ∈ L,¬ atV (a,at_ / 64) u) (hl:L.length≤4000):E5 134 [.agg [.isl (L.map vwC)],.int .i64 (a:Nat),.int .i64 (at_:Nat),.bool w] (.tup [.int .i64 0,.int .i64 220]):=by
 refine E5.mk (I5 D9 b134 F3 ⟨G8,A8,A8,A9,trivial⟩ F4 rfl ?_)
 unfold c134
 have hq:=q64 (t:=at_) (by omega)
 have hf:=Ar1 a (at_ / 64) hA hl
 (refine wx_Bf ?_;repeat' (first|with_reducible refine And.intro ?_ ?_|intro hsp))
 all_goals first|exact F6 rfl F4|(exfalso;omega)
end
end Go.Proofs.YtphggldkligldaaGreat.Sh
namespace Go.Am
section
variable {P:Program} {l:List (Nat × AObj)} {nx sz bytes d n m:Nat} {x:AV} {cs src:List AV} {rd:List Nat} {k:AV→Up→List Nat→Prop}
theorem app_0 (hs:Ak4 (lk l) sz x=some ([],0,rd)) (hd:lk l d=some (.cells cs)) (hc:cs.length=n * sz) (hk:k (.sl d 0 n n sz) [(d,some (.cells cs))] (d::rd)):AppX l nx sz bytes (.sl d 0 n n sz) x k:=by
 have e:=appV_in (nx:=nx) (bytes:=bytes) (off:=0) (cp:=n) (len:=n) hs hd (Nat.le_refl _) (by rw [Nat.add_zero];omega)
 rw [Nat.add_zero,show over cs (0+n * sz) []=cs from rfl] at e
 exact app_some e hk
theorem app_m (hs:Ak4 (lk l) sz x=some (src,m,rd)) (hd:lk l d=some (.cells cs)) (hc:cs.length=n * sz) (h0:0 < m) (hb:(n+m) * bytes≤140737488355328∧n+m≤1000000000000) (hk:k (.sl nx 0 (n+m) (n+m) sz) [(d,none),(nx,some (.cells (cs++src)))] (d::rd)):AppX l nx sz bytes (.sl d 0 n n sz) x k:=app_some (Ab6 hs hd hc h0 hb) hk
end
end Go.Am
namespace Go.Proofs.YtphggldkligldaaGreat.Sh
open Go Go.Am Go.Pol
theorem plx_Bg {p:Prop} (h:p:=by ((first|exact plw|(with_reducible first|apply O4|apply J3|apply G8|apply M5|fail)|fail);first|done|fail)):p:=h
open Go.Proofs.YtphggldkligldaaGreat.Sh renaming plx_Bg → plx
open Go.Proofs.YtphggldkligldaaGreat.Sh renaming ppx_Bf → ppx
theorem wx_Bgn {p q:Prop} (hq:q) (h:R7 q→p:=by (intro hQz;((repeat' ((try (conv=>whnf));first|(with_reducible first|refine U3 ?_|refine P7 ?_|refine U6 ?_|refine U8 ?_|refine Q7 ?_|refine Z7 ?_|refine U1 ?_|refine Z6 rfl ?_|refine U2 ?_|refine M7 ?_|refine Q5 ?_|refine Q6 ?_|refine U7 ?_|refine M6 ?_|refine P8 (by decide +kernel) ?_|refine O8 (by decide +kernel) ?_|refine AL1 ?_|refine AL2 ?_|refine Aw7 ?_|refine AC9 ?_|refine AO8 ?_|refine Ao5 (by assumption) ?_|refine Ao6 (by assumption) ?_|refine AC8 (by omega) ?_|refine AO7 ?_)|((with_reducible refine AO9 ?_ ?_);focus omega)|((with_reducible refine AP0 ?_ ?_);focus omega)|((with_reducible apply L8 hQz)<;>(try intro hsp hQz))|((with_reducible refine Aw5 ?_ ?_);focus (first|omega|rfl|assumption|decide|(simp only [List.length_map,List.length_cons,List.length_nil];omega)|(exact ⟨Nat.zero_le _,by simp,Nat.le_refl _,.inl rfl⟩)|(exact ⟨by simp,by simp,Nat.le_refl _,.inr (by first|(simp [vwC];done)|fail)⟩)))|(with_reducible first|refine AO4 ?_|refine AC7 ?_|refine AC6 ?_|refine AO6 ?_|refine AO5 ?_|refine AO2 ?_|refine Aw3 ?_|refine M0 ?_|refine AC4 ?_|refine U5 ?_|refine U4 ?_|refine M4 ?_|refine AO3 (by omega) ?_|refine AC5 (by omega) ?_)|refine Z9 (d:=dV) K9 (by first|assumption|omega) (by with_reducible assumption) ?_|refine app_m (Y7 rfl (by first|(simp;done)|fail)) rfl (by first|(simp [I8 K9];done)|(simp [I8 K9];omega)|fail) (by first|decide|omega) ⟨by first|decide|omega,by first|decide|omega⟩ ?_|refine app_m (AJ9 X (by first|(rw [← List.map_take,← List.map_drop];congr 1;simp;done)|exact Al5.trans (congrArg _ List.drop_left)|exact Al5.trans (congrArg _ Ao1)|(simp;done)|fail)) rfl (by first|(simp [I8 K9];done)|(simp [I8 K9];omega)|fail) (by first|decide|omega) ⟨by first|decide|omega,by first|decide|omega⟩ ?_|refine app_m (AJ9 Y (by first|(rw [← List.map_take,← List.map_drop];congr 1;simp;done)|exact Al5.trans (congrArg _ List.drop_left)|exact Al5.trans (congrArg _ Ao1)|(simp;done)|fail)) rfl (by first|(simp [I8 K9];done)|(simp [I8 K9];omega)|fail) (by first|decide|omega) ⟨by first|decide|omega,by first|decide|omega⟩ ?_|refine app_m (AJ9 L (by first|(rw [← List.map_take,← List.map_drop];congr 1;simp;done)|exact Al5.trans (congrArg _ List.drop_left)|exact Al5.trans (congrArg _ Ao1)|(simp;done)|fail)) rfl (by first|(simp [I8 K9];done)|(simp [I8 K9];omega)|fail) (by first|decide|omega) ⟨by first|decide|omega,by first|decide|omega⟩ ?_|refine app_0 rfl rfl (by first|(simp [I8 K9];done)|(simp [I8 K9];omega)|fail) ?_|refine app_0 (AJ9 [] (by first|(rw [← List.map_take,← List.map_drop];congr 1;simp;done)|exact Al5.trans (congrArg _ List.drop_left)|exact Al5.trans (congrArg _ Ao1)|(simp;done)|fail)) rfl (by first|(simp [I8 K9];done)|(simp [I8 K9];omega)|fail) ?_|refine AC0 (by with_reducible assumption) ?_|refine sxN ?_|refine J5 (by assumption) ?_|refine L6 (by assumption) ?_|refine G7 (by assumption) ?_|refine sxH ?_|((with_reducible apply L9 hQz)<;>(try intro hsp hQz))|exact hQz.out))<;>(try (conv=>whnf))))):p:=h ⟨hq⟩
theorem AJ9 {at_:At} {els:List (List AV)} (l:List Vw) (e:els=l.map vwC):Ak4 at_ 4 (.isl els)=some (flat vwC l,l.length,[]):=by subst e;exact src_map K9
theorem Ao1 {s:Vw} {X Y:List Vw}:List.drop (X.length+1) (X++s::Y)=Y:=by
 rw [show X++s::Y=(X++[s])++Y by simp,List.drop_append_of_le_length (by simp),List.drop_of_length_le (by simp)];rfl
theorem Al5 {L:List Vw} {k:Nat}:List.drop k (List.take (List.map vwC L).length (List.map vwC L))=(L.drop k).map vwC:=by rw [List.take_length,List.map_drop]
theorem AT5 {h:Hp} {d n:Nat} {k:Nat} {σ:Nat→Nat} {cs:List AV} (l:List Vw) (hi:lk h.l d=some (.cells cs)) (hc:cs=flat vwC l) (hl:n=l.length):WkV Tryz.prog σ h ⟨[],k⟩ (.sl d 0 n n 4) (.isl (l.map vwC)):=by
 subst hc;exact wk_frzS K9 AA3 hi hl
theorem At0 (u w:Vw) (b:Bool) (h:b=decide (bef u w)):E5 138 [.agg [.int .i64 (u.1:Nat),.int .i64 (u.2.1:Nat),.int .i64 (u.2.2.1:Nat),.bool u.2.2.2],.agg [.int .i64 (w.1:Nat),.int .i64 (w.2.1:Nat),.int .i64 (w.2.2.1:Nat),.bool w.2.2.2]] (.bool b) :=
 k_before (rwV u) (rwV w) b (h.trans (decide_eq_decide.2 (by unfold bef BP5 rwV;dsimp only;omega)))
section
variable {L X Y:List Vw} {v:Vw}
theorem q_put (hL:L=X++Y) (hX:∀ u ∈ X,bef u v) (hY:∀ u Y',Y=u::Y'→¬ bef u v) (hl:L.length≤4000):E5 130 [.agg [.isl (L.map vwC)],.agg (vwC v)] (.agg [.isl ((X++v::Y).map vwC)]):=by
 refine E5.mk (I5 D9 b130 F3 ⟨G8,O4,trivial⟩ G8 rfl ?_)
 unfold c130
 have hle:X.length≤L.length:=by rw [hL];simp
 have hll:L.length=X.length+Y.length:=by rw [hL,List.length_append]
 show AK4 _ _ _ _ _ _ _ _ _
 (refine wx_Tc ?_;repeat' (first|with_reducible refine And.intro ?_ ?_|intro hsp))
 (refine H9 [2,3,4] (fun (i:Nat)=>[(5,.int .i64 (i:Nat))]) (fun (i:Nat)=>⟨[(0,.cells [.isl (L.map vwC)]),(1,.cells (vwC v)),(2,.cells [.nils])],3⟩) (fun (i:Nat)=>i≤X.length) (fun (i:Nat)=>X.length - i) (0) [] rfl (fun _=>by first|exact Nat.zero_le _|(dsimp only;omega)) ?_ (by ((try (conv=>whnf));exact R3)) ?_)
 ·exact Nat.zero_le _
 intro i hi
 by_cases hia:i < X.length
 ·have hil:i < L.length:=by omega
  have hx:nth dV L i=nth dV X i:=by rw [hL,nth_lo hia]
  have hne:=hX _ (AB6 (d:=dV) hia)
  rw [← hx] at hne
  have kb:=At0 (nth dV L i) v true (decide_eq_true hne).symm
  clear hx
  generalize hx:nth dV L i=u at *
  (refine wx_Bgn ?_;repeat' (first|with_reducible refine And.intro ?_ ?_|intro hsp))
  all_goals exact D8 (i+1) [] (by (try dsimp only);omega) (by first|omega|(dsimp only;omega)) rfl (by exact R3)
 ·obtain rfl:i=X.length:=by omega
  clear hi hle
  by_cases hX0:X=[]
  ·subst hX0
   rw [List.nil_append] at hL
   subst hL
   by_cases hY0:L=[]
   ·subst hY0
    (refine wx_Bgn ?_;repeat' (first|with_reducible refine And.intro ?_ ?_|intro hsp))
    all_goals exact AG0 (AE2 (C8 (AT5 ([]++v::[]) rfl (by simp [flat,vwC]) (by simp;try omega)) F8))
   ·have hYp:0 < L.length:=List.length_pos_iff.2 hY0
    have hY1:∀ (h:0 < L.length),¬ bef (nth dV L 0) v:=fun h=>hY _ (L.drop 1) (by rw [N8 h];cases L with
     | nil=>exact absurd rfl hY0
     | cons a r=>rfl)
    have hlt:([]:List Vw).length < L.length:=hYp
    have kb:=At0 (nth dV L ([]:List Vw).length) v false (decide_eq_false (hY1 hYp)).symm
    clear hY1
    generalize hx:nth dV L ([]:List Vw).length=u at *
    (refine wx_Bgn ?_;repeat' (first|with_reducible refine And.intro ?_ ?_|intro hsp))
    all_goals exact AG0 (AE2 (C8 (AT5 ([]++v::L) rfl (by simp [flat,vwC]) (by simp;try omega)) F8))
  ·have hXp:0 < X.length:=List.length_pos_iff.2 hX0
   by_cases hY0:Y=[]
   ·subst hY0
    obtain rfl:L=X:=by rw [hL,List.append_nil]
    (refine wx_Bgn ?_;repeat' (first|with_reducible refine And.intro ?_ ?_|intro hsp))
    all_goals exact AG0 (AE2 (C8 (AT5 (L++v::[]) rfl (by simp [flat,vwC]) (by simp;try omega)) F8))
   ·have hYp:0 < Y.length:=List.length_pos_iff.2 hY0
    have hlt:X.length < L.length:=by omega
    have hx0:nth dV L X.length=nth dV Y 0:=by rw [hL];unfold nth;rw [List.getElem?_append_right (Nat.le_refl _),Nat.sub_self]
    have hY1:¬ bef (nth dV Y 0) v:=hY _ (Y.drop 1) (by rw [N8 hYp];cases Y with
     | nil=>exact absurd rfl hY0
     | cons a r=>rfl)
    have kb:=At0 (nth dV L X.length) v false (decide_eq_false (by rw [hx0];exact hY1)).symm
    clear hx0 hY1
    generalize hx:nth dV L X.length=u at *
    subst hL
    rw [List.length_append] at hl hll hlt
    (refine wx_Bgn ?_;repeat' (first|with_reducible refine And.intro ?_ ?_|intro hsp))
    all_goals exact AG0 (AE2 (C8 (AT5 (X++v::Y) rfl (by simp [flat,vwC]) (by simp;try omega)) F8))
theorem q_cut (hL:L=X++v::Y) (hl:L.length≤4000):E5 181 [.agg [.isl (L.map vwC)],.int .i64 (X.length:Nat)] (.agg [.isl ((X++Y).map vwC)]):=by
 refine E5.mk (I5 D9 b181 F3 ⟨G8,A8,trivial⟩ G8 rfl ?_)
 unfold c181
 subst hL
 simp only [List.length_append,List.length_cons] at hl
 have hw:IntKind.i64.wrap ((X.length:Int)+1)=((X.length+1:Nat):Int):=by rw [IntWalk.i64_in _ (by omega)];omega
 have hXY:(List.map vwC (X++v::Y)).length=X.length+(Y.length+1):=by simp
 by_cases hX0:X=[]
 ·subst hX0
  by_cases hY0:Y=[]
  ·subst hY0
   (refine wx_Bgn ?_;repeat' (first|with_reducible refine And.intro ?_ ?_|intro hsp))
   all_goals exact AG0 (AE2 (C8 (AT5 ([]) rfl (by simp [flat,vwC]) (by simp;try omega)) F8))
  ·have hYp:0 < Y.length:=List.length_pos_iff.2 hY0
   (refine wx_Bgn ?_;repeat' (first|with_reducible refine And.intro ?_ ?_|intro hsp))
   all_goals exact AG0 (AE2 (C8 (AT5 ([]++Y) rfl (by simp [flat,vwC]) (by simp;try omega)) F8))
 ·have hXp:0 < X.length:=List.length_pos_iff.2 hX0
  by_cases hY0:Y=[]
  ·subst hY0
   (refine wx_Bgn ?_;repeat' (first|with_reducible refine And.intro ?_ ?_|intro hsp))
   all_goals exact AG0 (AE2 (C8 (AT5 (X++[]) rfl (by simp [flat,vwC]) (by simp;try omega)) F8))
  ·have hYp:0 < Y.length:=List.length_pos_iff.2 hY0
   (refine wx_Bgn ?_;repeat' (first|with_reducible refine And.intro ?_ ?_|intro hsp))
   all_goals exact AG0 (AE2 (C8 (AT5 (X++Y) rfl (by simp [flat,vwC]) (by simp;try omega)) F8))
end
end Go.Proofs.YtphggldkligldaaGreat.Sh
namespace Go.Pol
open Go.Am
def prV (b:Bool) (v:Vw):Vw:=(v.1,v.2.1,v.2.2.1,b)
end Go.Pol
namespace Go.Proofs.YtphggldkligldaaGreat.Sh
open Go Go.Am Go.Pol
theorem wx_Bh {p q:Prop} (hq:q) (h:R7 q→p:=by (intro hQz;((repeat' ((try (conv=>whnf));first|refine sxA ?_|refine Z9 (d:=dV) K9 (by first|assumption|omega) (by with_reducible assumption) ?_|refine sxF ?_|(refine O6 D9 b127 rfl ?_;unfold c127)|(refine O6 D9 b128 rfl ?_;unfold c128)|refine J5 (by assumption) ?_|refine L6 (by assumption) ?_|refine G7 (by assumption) ?_|refine sxH ?_|((with_reducible first|apply L8 hQz|apply L9 hQz)<;>(try intro hsp hQz))|exact hQz.out))<;>(try (conv=>whnf))))):p:=h ⟨hq⟩
theorem wx_Bhn {p q:Prop} (hq:q) (h:R7 q→p:=by (intro hQz;((repeat' ((try (conv=>whnf));first|refine sxA ?_|refine AJ7 (Ab6 (AJ9 L rfl) rfl (by first|(simp [I8 K9];done)|(simp [I8 K9];omega)|fail) (by first|decide|omega) ⟨by first|decide|omega,by first|decide|omega⟩) ?_|refine app_m (AJ9 L rfl) rfl (by first|(simp [I8 K9];done)|(simp [I8 K9];omega)|fail) (by first|decide|omega) ⟨by first|decide|omega,by first|decide|omega⟩ ?_|refine E9 (by first|(simp [I8 K9];omega)|fail) hset ?_|refine E9 (by first|(simp [I8 K9];omega)|(rw [I8 K9,hll];omega)|fail) hset2 ?_|refine sxN ?_|(refine O6 D9 b127 rfl ?_;unfold c127)|(refine O6 D9 b128 rfl ?_;unfold c128)|(refine O6 D9 b78 rfl ?_;unfold c78)|refine J5 (by assumption) ?_|refine L6 (by assumption) ?_|refine G7 (by assumption) ?_|refine sxH ?_|((with_reducible first|apply L8 hQz|apply L9 hQz)<;>(try intro hsp hQz))|exact hQz.out))<;>(try (conv=>whnf))))):p:=h ⟨hq⟩
theorem AQ8 {L:List Vw} {e:Int}:Plain (.tup [.agg [.isl (L.map vwC)],.int .i64 e]):=H7 fun x hx=>by
 simp only [List.mem_cons,List.not_mem_nil,or_false] at hx
 rcases hx with rfl|rfl
 ·exact G8
 ·exact A8
theorem Ad5 {L:List Vw} {a b e:Int}:Plain (.tup [.agg [.isl (L.map vwC)],.int .i64 a,.int .i64 b,.int .i64 e]):=H7 fun x hx=>by
 simp only [List.mem_cons,List.not_mem_nil,or_false] at hx
 rcases hx with rfl|rfl|rfl|rfl
 ·exact G8
 ·exact A8
 ·exact A8
 ·exact A8
section
variable {L A B:List Vw} {v:Vw}
theorem q_Map (hv:v.1 < 64∧v.2.1 < 1024∧v.2.2.1 < 1024) (hA:∀ w ∈ L,¬ atV (v.1,v.2.1) w) (hl:L.length < 2000):E5 60 [.agg [.isl (L.map vwC)],.agg [.int .i64 (v.1:Nat),.int .i64 (v.2.1:Nat),.int .i64 (v.2.2.1:Nat),.bool v.2.2.2]] (.tup [.agg [.isl ((AZ2 v L).map vwC)],.int .i64 0]):=by
 refine E5.mk (I5 D9 b60 F3 ⟨G8,M5,trivial⟩ AQ8 rfl ?_)
 unfold c60
 have hf:=Ar1 v.1 v.2.1 hA (by omega)
 obtain ⟨X,Y,h1,h2,h3,h4⟩:=AA8 v L
 have hp:=q_put h1 h3 h4 (by omega)
 rw [← h2] at hp
 (refine wx_Bh ?_;repeat' (first|with_reducible refine And.intro ?_ ?_|intro hsp))
 all_goals first|exact F6 rfl AQ8|(exfalso;omega)
theorem BT3 {a k e:Int} (he:e ≠ 0) (h:E5 124 [.agg [.isl (L.map vwC)],.int .i64 a,.int .i64 k] (.tup [.int .i64 0,.int .i64 e])):E5 155 [.agg [.isl (L.map vwC)],.int .i64 a,.int .i64 k] (.tup [.agg [.isl (L.map vwC)],.int .i64 0,.int .i64 0,.int .i64 e]):=by
 refine E5.mk (I5 D9 b155 F3 ⟨G8,A8,A8,trivial⟩ Ad5 rfl ?_)
 unfold c155
 (refine wx_Bh ?_;repeat' (first|with_reducible refine And.intro ?_ ?_|intro hsp))
 all_goals first|exact F6 rfl Ad5|(exfalso;omega)
theorem q_Unmap (hv:v.1 < 64∧v.2.1 < 1024) (hL:L=A++v::B) (hA:∀ w ∈ A,¬ atV (v.1,v.2.1) w) (hl:L.length≤2000):E5 155 [.agg [.isl (L.map vwC)],.int .i64 (v.1:Nat),.int .i64 (v.2.1:Nat)] (.tup [.agg [.isl ((A++B).map vwC)],.int .i64 (v.2.2.1:Nat),.int .i64 (cntF (A++B) v.2.2.1:Nat),.int .i64 0]):=by
 refine E5.mk (I5 D9 b155 F3 ⟨G8,A8,A8,trivial⟩ Ad5 rfl ?_)
 unfold c155
 have hw:=q_view hv.1 hv.2 hL hA ⟨rfl,rfl⟩ (by omega)
 have hc:=q_cut hL (by omega)
 have hn:=Ar2 (L:=A++B) (v.2.2.1:Nat) (by rw [hL] at hl;simp at hl ⊢;omega)
 rw [Ao3] at hn
 have hle:A.length < L.length:=by rw [hL];simp
 have hx:nth dV L A.length=v:=by rw [hL,Ar9]
 (refine wx_Bh ?_;repeat' (first|with_reducible refine And.intro ?_ ?_|intro hsp))
 all_goals first|exact F6 rfl Ad5|(exfalso;omega)
theorem An6 (A B:List Vw) (v w:Vw) (j:Nat) (x:AV) (h:(vwC v).set j x=vwC w) (hj:j < 4):([]++flat vwC (A++v::B)).set (A.length * 4+j) x=flat vwC (A++w::B):=by
 have e:∀ u:Vw,flat vwC (A++u::B)=flat vwC A++(vwC u++flat vwC B):=fun u=>by simp [flat]
 rw [List.nil_append,e,e,← h,List.set_append_right _ _ (by rw [I8 K9];omega),I8 K9,Nat.add_sub_cancel_left,List.set_append_left _ _ (by rw [K9];exact hj)]
theorem q_Protect (b:Bool) (hv:v.1 < 64∧v.2.1 < 1024) (hL:L=A++v::B) (hA:∀ w ∈ A,¬ atV (v.1,v.2.1) w) (hl:L.length≤2000):E5 63 [.agg [.isl (L.map vwC)],.int .i64 (v.1:Nat),.int .i64 (v.2.1:Nat),.bool b] (.tup [.agg [.isl ((A++prV b v::B).map vwC)],.int .i64 0]):=by
 refine E5.mk (I5 D9 b63 F3 ⟨G8,A8,A8,A9,trivial⟩ AQ8 rfl ?_)
 unfold c63
 have hw:=q_view hv.1 hv.2 hL hA ⟨rfl,rfl⟩ (by omega)
 have hle:A.length < L.length:=by rw [hL];simp
 have hpos:0 < L.length:=by omega
 have hset:=An6 A B v (prV b v) 3 (.bool b) rfl (by decide)
 rw [← hL] at hset
 have hfl:=I8 K9 L
 (refine wx_Bhn ?_;repeat' (first|with_reducible refine And.intro ?_ ?_|intro hsp))
 all_goals exact AG0 (AH0 (C8 (AE2 (C8 (AT5 (A++prV b v::B) rfl rfl (by rw [hL];simp)) F8)) (C8 (K8 rfl) F8)))
theorem q_Split {f:Nat} (hv:v.1 < 64∧v.2.1 < 1024) (hf:f < 1024) (hL:L=A++v::B) (hA:∀ w ∈ A,¬ atV (v.1,v.2.1) w) (hl:L.length≤2000) (hc:cntF L f=0):E5 65 [.agg [.isl (L.map vwC)],.int .i64 (v.1:Nat),.int .i64 (v.2.1:Nat),.int .i64 (f:Nat)] (.tup [.agg [.isl ((A++frV f v::B).map vwC)],.int .i64 0]):=by
 refine E5.mk (I5 D9 b65 F3 ⟨G8,A8,A8,A8,trivial⟩ AQ8 rfl ?_)
 unfold c65
 have hw:=q_view hv.1 hv.2 hL hA ⟨rfl,rfl⟩ (by omega)
 have hn:=Ar2 (L:=L) (f:Nat) (by omega)
 rw [Ao3,hc] at hn
 have hle:A.length < L.length:=by rw [hL];simp
 have hpos:0 < L.length:=by omega
 have hset:=An6 A B v (v.1,v.2.1,f,v.2.2.2) 2 (.int .i64 (f:Nat)) rfl (by decide)
 have hset2:=An6 A B (v.1,v.2.1,f,v.2.2.2) (frV f v) 3 (.bool true) rfl (by decide)
 rw [List.nil_append] at hset2
 have hll:(A++(v.1,v.2.1,f,v.2.2.2)::B).length=L.length:=by rw [hL];simp
 rw [← hL] at hset
 (refine wx_Bhn ?_;repeat' (first|with_reducible refine And.intro ?_ ?_|intro hsp))
 all_goals first|exact AG0 (AH0 (C8 (AE2 (C8 (AT5 (A++frV f v::B) rfl rfl (by rw [hL];simp)) F8)) (C8 (K8 rfl) F8)))|trace_state
end
end Go.Proofs.YtphggldkligldaaGreat.Sh
namespace Go.Pol
open Go.Am
def wnV (a:Nat) (v:Vw):Vw:=(v.1,v.2.1,v.2.2.1,v.2.2.2 && !decide (v.1=a))
def Ai1 (b:Nat) (M:List Vw):List Vw→List Vw
 | []=>M
 | u::O=>Ai1 b (AZ2 (cpV b u) M) O
theorem putL_0 (b:Nat) (M:List Vw):Ai1 b M []=M:=rfl
theorem putL_s (b:Nat) (M:List Vw):∀ (O:List Vw) (u:Vw),Ai1 b M (O++[u])=AZ2 (cpV b u) (Ai1 b M O):=by
 intro O
 induction O generalizing M with
 | nil=>intro u;rfl
 | cons w O ih=>intro u;exact ih (AZ2 (cpV b w) M) u
theorem putL_len (b:Nat) (M:List Vw):∀ O:List Vw,(Ai1 b M O).length=M.length+O.length:=by
 intro O
 induction O generalizing M with
 | nil=>rfl
 | cons w O ih=>rw [show Ai1 b M (w::O)=Ai1 b (AZ2 (cpV b w) M) O from rfl,ih,Ai5,List.length_cons];omega
theorem putL_mem (b:Nat) (M:List Vw):∀ (O:List Vw) (v:Vw),v ∈ Ai1 b M O ↔ v ∈ M∨∃ u,u ∈ O∧v=cpV b u:=by
 intro O
 induction O generalizing M with
 | nil=>intro v;exact ⟨.inl,fun h=>h.elim id fun ⟨u,hu,_⟩=>by cases hu⟩
 | cons w O ih =>
  intro v
  rw [show Ai1 b M (w::O)=Ai1 b (AZ2 (cpV b w) M) O from rfl,ih,AV8]
  constructor
  ·rintro ((h|h) | ⟨u,h1,h2⟩)
   ·exact .inr ⟨w,List.mem_cons_self ..,h⟩
   ·exact .inl h
   ·exact .inr ⟨u,List.mem_cons_of_mem _ h1,h2⟩
  ·rintro (h | ⟨u,h1,h2⟩)
   ·exact .inl (.inr h)
   ·rcases List.mem_cons.1 h1 with rfl|h1
    ·exact .inl (.inl h2)
    ·exact .inr ⟨u,h1,h2⟩
theorem putL_srt (b:Nat):∀ (O M:List Vw),srt M→(∀ u ∈ O,∀ w ∈ M,¬ atV (b,u.2.1) w)→(O.map (·.2.1)).Nodup→srt (Ai1 b M O):=by
 intro O
 induction O with
 | nil=>intro M h _ _;exact h
 | cons w O ih =>
  intro M h h2 h3
  rw [List.map_cons,List.nodup_cons] at h3
  refine ih _ (BC0 h (h2 w (List.mem_cons_self ..))) (fun u hu x hx=>?_) h3.2
  rcases AV8.1 hx with rfl|hx
  ·intro ha;exact h3.1 (List.mem_map.2 ⟨u,hu,ha.2.symm⟩)
  ·exact h2 u (List.mem_cons_of_mem _ hu) x hx
theorem BH5 (a:Nat) (v:Vw):(v.1 ≠ a→wnV a v=v)∧(v.1=a→wnV a v=roV v):=by
 obtain ⟨v1,v2,v3,v4⟩:=v
 unfold wnV roV
 exact ⟨fun h=>by have : decide (v1=a)=false:=decide_eq_false h;dsimp only;rw [this];simp,fun h=>by have : decide (v1=a)=true:=decide_eq_true h;dsimp only;rw [this];simp⟩
theorem BN5 {L M:List Vw} {a b:Nat} (hL:srt L) (hM:srt M) (hb:ofA b L=[]) (h:Frk L (ofA a L) b (ofA a L).length M):M=Ai1 b (L.map (wnV a)) (ofA a L):=by
 have hm:∀ v,v ∈ M ↔ (v ∈ L∧v ∉ ofA a L)∨∃ u,u ∈ ofA a L∧(v=roV u∨v=cpV b u):=fun v=>by rw [h.mem,List.take_length]
 have hnb:∀ v ∈ L,v.1 ≠ b:=fun v hv e=>by
  have : v ∈ ofA b L:=R5.2 ⟨hv,e⟩
  rw [hb] at this;cases this
 have hO:srt (ofA a L):=hL.sublist List.filter_sublist
 have hOa:∀ u ∈ ofA a L,u.1=a:=fun u hu=>(R5.1 hu).2
 have hs1:srt (L.map (wnV a)):=List.Pairwise.map _ (fun u v hb=>by unfold bef wnV at *;exact hb) hL
 have hnd:((ofA a L).map (·.2.1)).Nodup:=by
  refine List.Pairwise.map _ (R:=fun u v=>bef u v∧u.1=v.1) (fun u v huv=>by obtain ⟨hb,he⟩:=huv;unfold bef at hb;show u.2.1 ≠ v.2.1;omega) ?_
  exact List.Pairwise.imp_of_mem (R:=bef) (fun {u v} hu hv hb=>⟨hb,by rw [hOa u hu,hOa v hv]⟩) hO
 refine BC1 hM (putL_srt b _ _ hs1 (fun u hu w hw=>?_) hnd) fun v=>?_
 ·obtain ⟨x,hx,rfl⟩:=List.mem_map.1 hw
  intro ha;exact hnb x hx ha.1
 ·rw [hm,putL_mem,List.mem_map]
  constructor
  ·rintro (⟨h1,h2⟩ | ⟨u,h1,h2|h2⟩)
   ·exact .inl ⟨v,h1,(BH5 a v).1 fun e=>h2 (R5.2 ⟨h1,e⟩)⟩
   ·exact .inl ⟨u,(R5.1 h1).1,by rw [(BH5 a u).2 (hOa u h1),h2]⟩
   ·exact .inr ⟨u,h1,h2⟩
  ·rintro (⟨u,h1,rfl⟩ | ⟨u,h1,h2⟩)
   ·by_cases hu:u.1=a
    ·exact .inr ⟨u,R5.2 ⟨h1,hu⟩,.inl ((BH5 a u).2 hu)⟩
    ·rw [(BH5 a u).1 hu];exact .inl ⟨h1,fun h2=>hu (R5.1 h2).2⟩
   ·exact .inr ⟨u,h1,.inr h2⟩
end Go.Pol
namespace Go.Proofs.YtphggldkligldaaGreat.Sh
open Go Go.Am Go.Pol
theorem plx_Bi {p:Prop} (h:p:=by ((first|exact plw|(with_reducible first|apply O4|apply M5|apply J3|apply G8|apply F4|apply AQ8|apply AI7|fail)|fail);first|done|fail)):p:=h
open Go.Proofs.YtphggldkligldaaGreat.Sh renaming plx_Bi → plx
open Go.Proofs.YtphggldkligldaaGreat.Sh renaming ppx_Bf → ppx
theorem wx_Bin {p q:Prop} (hq:q) (h:R7 q→p:=by (intro hQz;((repeat' ((try (conv=>whnf));first|refine sxA ?_|refine J2 (hC) ?_|refine E9 (by first|omega|fail) hset ?_|refine el_vw (by first|assumption|omega) (by with_reducible assumption) ?_|refine AJ7 (Ab6 (AJ9 L rfl) rfl (by first|(simp [I8 K9];done)|(simp [I8 K9];omega)|fail) (by first|decide|omega) ⟨by first|decide|omega,by first|decide|omega⟩) ?_|refine app_m (AJ9 L rfl) rfl (by first|(simp [I8 K9];done)|(simp [I8 K9];omega)|fail) (by first|decide|omega) ⟨by first|decide|omega,by first|decide|omega⟩ ?_|refine apps_0 hsrc rfl rfl ?_|refine sxN ?_|refine J5 (by assumption) ?_|refine L6 (by assumption) ?_|refine G7 (by assumption) ?_|(refine O6 D9 b127 rfl ?_;unfold c127)|(refine O6 D9 b128 rfl ?_;unfold c128)|(refine O6 D9 b78 rfl ?_;unfold c78)|refine sxH ?_|((with_reducible first|apply L8 hQz|apply L9 hQz)<;>(try intro hsp hQz))|exact hQz.out))<;>(try (conv=>whnf))))):p:=h ⟨hq⟩
theorem wx_Bi {p q:Prop} (hq:q) (h:R7 q→p:=by (intro hQz;((repeat' ((try (conv=>whnf));first|refine sxA ?_|refine sxF ?_|(refine O6 D9 b127 rfl ?_;unfold c127)|(refine O6 D9 b128 rfl ?_;unfold c128)|refine J5 (by assumption) ?_|refine L6 (by assumption) ?_|refine G7 (by assumption) ?_|refine sxH ?_|((with_reducible first|apply L8 hQz|apply L9 hQz)<;>(try intro hsp hQz))|exact hQz.out))<;>(try (conv=>whnf))))):p:=h ⟨hq⟩
theorem AI7 {L:List Vw} {n e:Int}:Plain (.tup [.agg [.isl (L.map vwC)],.int .i64 n,.int .i64 e]):=H7 fun x hx=>by
 simp only [List.mem_cons,List.not_mem_nil,or_false] at hx
 rcases hx with rfl|rfl|rfl
 ·exact G8
 ·exact A8
 ·exact A8
theorem flat_get (A B:List Vw) (v:Vw) (j:Nat) (x:AV) (h:(vwC v)[j]? = some x):(flat vwC (A++v::B))[A.length * 4+j]? = some x:=by
 have e:flat vwC (A++v::B)=flat vwC A++(vwC v++flat vwC B):=by simp [flat]
 have hj:j < (vwC v).length:=(List.getElem?_eq_some_iff.1 h).1
 rw [e,List.getElem?_append_right (by rw [I8 K9];omega),I8 K9,Nat.add_sub_cancel_left,List.getElem?_append_left hj,h]
theorem not5 {x y:AObj}:∀ j o,lk (Hp.l ⟨[(1,x),(6,y)],7⟩) j=some o→rn [] j ≠ 5:=fun j o hj=>by
 show j ≠ 5
 simp only [lk] at hj
 repeat' split at hj
 all_goals first|omega|cases hj
theorem wk_frz5 {σ:Nat→Nat} {h h':Hp} {n:Nat} {L:List Vw} (hs:AG8 σ h h') (hi:lk h.l 5=some (.cells (flat vwC L))) (hn:n=L.length) (hd:∀ j o,lk h'.l j=some o→σ j ≠ 5):WkV Tryz.prog σ h h' (.sl 5 0 n n 4) (.isl (L.map vwC)):=by
 subst hn
 refine Ac1 hi hd hs (by simp) (fun e he=>?_) ?_ fun e he x hx=>?_
 ·obtain ⟨s,_,rfl⟩:=List.mem_map.1 he;rfl
 ·rw [List.drop_zero,List.take_of_length_le (by rw [I8 K9];exact Nat.le_refl _)];rfl
 ·obtain ⟨s,_,rfl⟩:=List.mem_map.1 he;exact X9 x hx
theorem wk_frz6 {σ:Nat→Nat} {h h':Hp} {L:List Vw} (hs:AG8 σ h h') (hn:L=[]) (hi:lk h.l 5=some (.cells (flat vwC []))) (hd:∀ j o,lk h'.l j=some o→σ j ≠ 5):WkV Tryz.prog σ h h' (.sl 5 0 0 0 4) (.isl (L.map vwC)):=by
 subst hn;exact wk_frz5 hs hi rfl hd
section
variable {L A B:List Vw} {v:Vw}
theorem q_Fork_no (a b:Int) (hn:¬ (inR 64 a∧inR 64 b)):E5 61 [.agg [.isl (L.map vwC)],.int .i64 a,.int .i64 b] (.tup [.agg [.isl (L.map vwC)],.int .i64 0,.int .i64 7]):=by
 refine E5.mk (I5 D9 b61 F3 ⟨G8,A8,A8,trivial⟩ AI7 rfl ?_)
 unfold c61
 unfold inR at hn
 (refine wx_Bi ?_;repeat' (first|with_reducible refine And.intro ?_ ?_|intro hsp))
 all_goals first|exact F6 rfl AI7|(exfalso;omega)
theorem Ah9 {a b:Nat} {e:Int} (ha:a < 64) (hb:b < 64) (hl:L.length≤2000) (he:(e=2∧a=b)∨(e=8∧a ≠ b∧(ofA b L).length ≠ 0)∨(e=5∧a ≠ b∧(ofA b L).length=0∧2000 < L.length+(ofA a L).length)):E5 61 [.agg [.isl (L.map vwC)],.int .i64 (a:Nat),.int .i64 (b:Nat)] (.tup [.agg [.isl (L.map vwC)],.int .i64 0,.int .i64 e]):=by
 refine E5.mk (I5 D9 b61 F3 ⟨G8,A8,A8,trivial⟩ AI7 rfl ?_)
 unfold c61
 have q1:=q_of (L:=L) (a:Int) (by omega)
 have q2:=q_of (L:=L) (b:Int) (by omega)
 rw [BT9] at q1 q2
 have l1:((ofA a L).map vwC).length=(ofA a L).length:=List.length_map _
 have l2:((ofA b L).map vwC).length=(ofA b L).length:=List.length_map _
 have l3:(ofA a L).length≤L.length:=List.length_filter_le ..
 rcases he with ⟨rfl,h1⟩ | ⟨rfl,h1,h2⟩ | ⟨rfl,h1,h2,h3⟩
 all_goals (refine wx_Bi ?_;repeat' (first|with_reducible refine And.intro ?_ ?_|intro hsp))
 all_goals first|exact F6 rfl AI7|(exfalso;omega)
theorem q_Fork {a b:Nat} (hab:a ≠ b) (ha:a < 64) (hb:b < 64) (hnb:ofA b L=[]) (hlen:L.length+(ofA a L).length≤2000) (hL:Go.Pol.srt L) (h0:0 < L.length):E5 61 [.agg [.isl (L.map vwC)],.int .i64 (a:Nat),.int .i64 (b:Nat)] (.tup [.agg [.isl ((Ai1 b (L.map (wnV a)) (ofA a L)).map vwC)],.int .i64 ((ofA a L).length:Nat),.int .i64 0]):=by
 refine E5.mk (I5 D9 b61 F3 ⟨G8,A8,A8,trivial⟩ AI7 rfl ?_)
 unfold c61
 have q1:=q_of (L:=L) (a:Int) (by omega)
 have q2:=q_of (L:=L) (b:Int) (by omega)
 rw [BT9] at q1 q2
 rw [hnb] at q2
 have l1:((ofA a L).map vwC).length=(ofA a L).length:=List.length_map _
 have l3:(ofA a L).length≤L.length:=List.length_filter_le ..
 (refine wx_Bin ?_;repeat' (first|with_reducible refine And.intro ?_ ?_|intro hsp))
 ·exfalso;simp at hsp
 clear hsp
 (refine H9 [1,2,6,9,10] (fun (i:Nat)=>[(11,.int .i64 (i:Nat))]) (fun (i:Nat)=>⟨[(1,.cells [.nils]),(5,.cells (flat vwC ((L.take i).map (wnV a)++L.drop i))),(6,.cells [.sl 5 0 (0+L.length) (0+L.length) 4])],7⟩) (fun (i:Nat)=>i≤L.length) (fun (i:Nat)=>L.length - i) (0) [] rfl (fun _=>by first|exact Nat.zero_le _|(dsimp only;omega)) ?_ (by ((try (conv=>whnf));(rw [List.take_zero,List.map_nil,List.drop_zero,List.nil_append]);exact BQ8)) ?_)
 ·exact Nat.zero_le _
 intro i hi
 by_cases hil:i < L.length
 ·have hdr:L.drop i=nth dV L i::L.drop (i+1):=by rw [N8 hil,List.drop_eq_getElem_cons hil]
  have hAl:((L.take i).map (wnV a)).length=i:=by rw [List.length_map,List.length_take];omega
  have hnx:(L.take (i+1)).map (wnV a)++L.drop (i+1)=(L.take i).map (wnV a)++wnV a (nth dV L i)::L.drop (i+1):=by rw [d9 (d:=dV) hil,List.map_append,List.append_assoc];rfl
  have hC:=flat_get ((L.take i).map (wnV a)) (L.drop (i+1)) (nth dV L i) 0 (.int .i64 ((nth dV L i).1:Nat)) rfl
  have hset:=An6 ((L.take i).map (wnV a)) (L.drop (i+1)) (nth dV L i) (roV (nth dV L i)) 3 (.bool false) rfl (by decide)
  have hlen4:(flat vwC ((L.take i).map (wnV a)++L.drop i)).length=L.length * 4:=by rw [I8 K9,List.length_append,hAl,List.length_drop];congr 1;omega
  rw [List.nil_append,hAl] at hset
  rw [hAl,Nat.add_zero] at hC
  rw [← hdr] at hset hC
  have hwn:=BH5 a (nth dV L i)
  generalize nth dV L i=u at *
  by_cases hu:u.1=a
  ·rw [hwn.2 hu] at hnx
   rw [← hnx] at hset
   (refine wx_Bin ?_;repeat' (first|with_reducible refine And.intro ?_ ?_|intro hsp))
   all_goals exact D8 (i+1) [] (by (try dsimp only);omega) (by first|omega|(dsimp only;omega)) rfl (by exact BQ8)
  ·rw [hwn.1 hu,← hdr] at hnx
   (refine wx_Bin ?_;repeat' (first|with_reducible refine And.intro ?_ ?_|intro hsp))
   all_goals exact D8 (i+1) [] (by (try dsimp only);omega) (by first|omega|(dsimp only;omega)) rfl (by ((try dsimp only);rw [hnx]);exact BQ8)
 ·obtain rfl:i=L.length:=by omega
  rw [List.take_length,List.drop_length,List.append_nil]
  (refine wx_Bin ?_;repeat' (first|with_reducible refine And.intro ?_ ?_|intro hsp))
  have hml:(L.map (wnV a)).length=L.length:=List.length_map _
  (refine H9 [2,6,9] (fun (k:Nat)=>[(10,.ptr 6 0),(12,.int .i64 (k:Nat))]) (fun (k:Nat)=>⟨[(1,.cells [.nils]),(6,.cells [.isl ((Ai1 b (L.map (wnV a)) ((ofA a L).take k)).map vwC)])],7⟩) (fun (k:Nat)=>k≤(ofA a L).length) (fun (k:Nat)=>(ofA a L).length - k) (0) [] rfl (fun _=>by first|exact Nat.zero_le _|(dsimp only;omega)) ?_ (by ((try (conv=>whnf));(rw [List.take_zero,putL_0]);exact BQ8)) ?_)
  ·exact Nat.zero_le _
  intro k hk
  have hpl:=putL_len b (L.map (wnV a)) ((ofA a L).take k)
  rw [hml,List.length_take] at hpl
  by_cases hkl:k < (ofA a L).length
  ·have htk:Ai1 b (L.map (wnV a)) ((ofA a L).take (k+1))=AZ2 (cpV b (nth dV (ofA a L) k)) (Ai1 b (L.map (wnV a)) ((ofA a L).take k)):=by rw [d9 (d:=dV) hkl,putL_s]
   obtain ⟨X,Y,e1,e2,e3,e4⟩:=AA8 (cpV b (nth dV (ofA a L) k)) (Ai1 b (L.map (wnV a)) ((ofA a L).take k))
   have hp:=q_put e1 e3 e4 (by omega)
   rw [← e2,← htk] at hp
   clear e1 e2 e3 e4 htk
   generalize hu:nth dV (ofA a L) k=u at *
   obtain ⟨ua,uk,uf,uw⟩:=u
   have hp':E5 130 [.agg [.isl ((Ai1 b (L.map (wnV a)) ((ofA a L).take k)).map vwC)],.agg [.int .i64 (b:Nat),.int .i64 (uk:Nat),.int .i64 (uf:Nat),.bool false]] (.agg [.isl ((Ai1 b (L.map (wnV a)) ((ofA a L).take (k+1))).map vwC)]):=hp
   clear hp
   (refine wx_Bin ?_;repeat' (first|with_reducible refine And.intro ?_ ?_|intro hsp))
   all_goals exact D8 (k+1) [] (by (try dsimp only);omega) (by first|omega|(dsimp only;omega)) rfl (by exact BQ8)
  ·rw [List.take_of_length_le (by omega)]
   (refine wx_Bin ?_;repeat' (first|with_reducible refine And.intro ?_ ?_|intro hsp))
   all_goals exact F6 rfl AI7
theorem apps_0 {l:List (Nat × AObj)} {nx sz bytes d n:Nat} {x:AV} {cs:List AV} {rd:List Nat} {k:AV→Up→Prop} (hs:Ak4 (lk l) sz x=some ([],0,rd)) (hd:lk l d=some (.cells cs)) (hc:cs.length=n * sz) (hk:k (.sl d 0 n n sz) [(d,some (.cells cs))]):AppSX l nx sz bytes (.sl d 0 n n sz) x k:=by
 have e:=appV_in (nx:=nx) (bytes:=bytes) (off:=0) (cp:=n) (len:=n) hs hd (Nat.le_refl _) (by rw [Nat.add_zero];omega)
 rw [Nat.add_zero,show over cs (0+n * sz) []=cs from rfl] at e
 exact AJ7 e hk
theorem q_Fork_nil {a b:Nat} (hab:a ≠ b) (ha:a < 64) (hb:b < 64) (h0:L.length=0):E5 61 [.agg [.isl (L.map vwC)],.int .i64 (a:Nat),.int .i64 (b:Nat)] (.tup [.agg [.isl (L.map vwC)],.int .i64 0,.int .i64 0]):=by
 have hnil:L=[]:=List.eq_nil_of_length_eq_zero h0
 refine E5.mk (I5 D9 b61 F3 ⟨G8,A8,A8,trivial⟩ AI7 rfl ?_)
 unfold c61
 have q1:=q_of (L:=L) (a:Int) (by omega)
 have q2:=q_of (L:=L) (b:Int) (by omega)
 rw [show ofI (a:Int) L=[] by rw [hnil];rfl] at q1
 rw [show ofI (b:Int) L=[] by rw [hnil];rfl] at q2
 have hsrc:∀ {at_:At},Ak4 at_ 4 (.isl (L.map vwC))=some ([],0,[]):=fun {at_}=>by rw [hnil];exact AJ9 [] rfl
 (refine wx_Bin ?_;repeat' (first|with_reducible refine And.intro ?_ ?_|intro hsp))
 all_goals try (exfalso;simp at hsp;done)
 clear hsp
 (refine H9 [2,6,9] (fun (i:Nat)=>[(10,.ptr 6 0),(11,.int .i64 0)]) (fun (i:Nat)=>⟨[(1,.cells [.nils]),(5,.cells (flat vwC [])),(6,.cells [.sl 5 0 0 0 4])],7⟩) (fun (i:Nat)=>i=0) (fun (i:Nat)=>0) (0) [(5,4),(6,5)] rfl (fun _=>by first|exact Nat.zero_le _|(dsimp only;omega)) ?_ (by ((try (conv=>whnf));exact BQ8)) ?_)
 ·rfl
 intro i hi
 (refine wx_Bin ?_;repeat' (first|with_reducible refine And.intro ?_ ?_|intro hsp))
 (refine H9 [6,9] (fun (k:Nat)=>[(10,.ptr 6 0),(12,.int .i64 0)]) (fun (k:Nat)=>⟨[(1,.cells [.nils]),(6,.cells [.isl (L.map vwC)])],7⟩) (fun (k:Nat)=>k=0) (fun (k:Nat)=>0) (0) [] rfl (fun _=>by first|exact Nat.zero_le _|(dsimp only;omega)) ?_ (by ((try (conv=>whnf));exact BQ8)) ?_)
 ·rfl
 intro k hk
 (refine wx_Bin ?_;repeat' (first|with_reducible refine And.intro ?_ ?_|intro hsp))
 all_goals first|exact F6 rfl AI7|(exfalso;simp at hsp;done)
end
end Go.Proofs.YtphggldkligldaaGreat.Sh
