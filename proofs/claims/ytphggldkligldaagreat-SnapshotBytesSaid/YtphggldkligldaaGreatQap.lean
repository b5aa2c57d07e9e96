/-
 take,Map,Unmap,Split.
 Split.
 What All yields: walked,Save.
 Save.
 Check of both;Of and Same of the document.
 New and Load.
 Systems in which frames are committed.
 The law's awake.
 The law's ready: a table and a system.
 Several slices of their own that grow: they stand one behind the other at the heap's end. No program in sight.
 A call that makes one block,in a region that draws its order;a call that reads alone. No program in sight.
 Calls over a table and a system: byteOf,all,Write.
-/
import Derived.Test.YtphggldkligldaaGreatShC
set_option linter.unusedSimpArgs false
set_option linter.unusedVariables false
set_option maxHeartbeats 1600000
namespace Go.Proofs.YtphggldkligldaaGreat.Sh
open Go Go.Am Go.Pol
theorem wx_Yhn {p q:Prop} (hq:q) (h:X5 q→p:=by (intro hQz;((repeat' ((try (conv=>whnf));first|refine sxA ?_|refine mdel_of hmf hcut rfl rfl rfl ?_|refine G5 (hC) ?_|refine D7 (by rw [tab_len];omega) hset ?_|refine sxN ?_|refine V5 (by assumption) rfl rfl rfl (by decide) (by first|(simp [A8,A9];done)|fail) AF6 rfl ?_|refine AK9 (by assumption) rfl rfl rfl (by first|(simp [A8,A9];done)|fail) AF6 rfl rfl ?_|refine sxH ?_|((with_reducible first|apply N9 hQz|apply O1 hQz)<;>(try intro hsp hQz))|exact hQz.out))<;>(try (conv=>whnf))))):p:=h ⟨hq⟩
theorem wx_Yh {p q:Prop} (hq:q) (h:X5 q→p:=by (intro hQz;((repeat' ((try (conv=>whnf));first|refine sxA ?_|refine G5 (by with_reducible assumption) ?_|refine Ay6 hmf hj rfl rfl rfl rfl ?_|refine BO4 (by assumption) rfl rfl rfl ?_|refine BG8 rfl (by with_reducible assumption) ?_|refine sxF ?_|refine AS8 (by assumption) rfl (by omega) ?_|refine Z0 (by assumption) rfl rfl rfl rfl rfl (by decide) rfl ?_|(refine X4 E9 b119 rfl ?_;unfold c119)|refine O5 (by assumption) ?_|refine sxH ?_|((with_reducible first|apply N9 hQz|apply O1 hQz)<;>(try intro hsp hQz))|exact hQz.out))<;>(try (conv=>whnf))))):p:=h ⟨hq⟩
section
variable {L:List Vw} {t:TS} {v:Vw} {s:Nat}
theorem t_take (h:TOk L t) (hs:s ∈ t.Q v.1) (hu:t.U s=v) :
  ∃ t' A B X Y,L=A++v::B∧TOk (A++B) t'∧t.Q v.1=X++s::Y∧t'.Q=AG6 t.Q v.1 (X++Y)∧t'.U=t.U∧X7 147 [.int .i64 (s:Nat)] t (.agg (vwC v)) t':=by
 obtain ⟨X,Y,A,B,hQ,hL,hX,hY,hsX,hsY⟩:=h.around hs hu
 have hv:v ∈ L:=by rw [hL];simp
 have hok:=h.ok v hv
 have hm:v.1 < t.m:=by rw [h.hm];exact hok.1
 have hent:=h.entry hs hu
 obtain ⟨j,hmf,_,hj⟩:=mf_yes h.keys hent
 obtain ⟨S',h1,h2⟩:=p_take h.pool.inv h.pool.n_le (s:=s) (i:=v.1) ⟨hm,hQ⟩
 have hv4:=h.val v.1 s hs
 rw [hu] at hv4
 rw [hv4.1,hv4.2.1,hv4.2.2.1,hv4.2.2.2] at h2
 have hgood:BK7 t.n t.m (I6 t.V s z0) (I6 t.W s w0) (I6 t.V3 s w0) (I6 t.V4 s b0) (AG6 t.Q v.1 (X++Y)) S':=⟨h1,h.pool.m_le,h.pool.n_le,h.pool.n_pos⟩
 have hT:=h.cut hu hQ hL hX hY hsX hsY hj hgood
 have hC:(tabC 1 4 t.C)[2+v.2.2.1]? = some (.int .i64 (t.C v.2.2.1:Nat)):=tab_get hok.2.2
 have hC1:0 < t.C v.2.2.1:=by rw [h.cnt,hL,l9,Z9,if_pos rfl];omega
 have hC2:t.C v.2.2.1≤2000:=by rw [h.cnt];exact Nat.le_trans (List.length_filter_le ..) h.len
 have hset:(tabC 1 4 t.C).set (2+v.2.2.1) (.int .i64 ((t.C v.2.2.1:Nat) - 1:Int))=tabC 1 4 (Av4 t.C v.2.2.1 (t.C v.2.2.1 - 1)):=tab_set (by omega)
 have hcut:=cut_E (E:=t.E) (j:=j)
 refine ⟨_,A,B,X,Y,hL,hT,hQ,rfl,rfl,X7.mk (D9 E9 b147 rfl ?_) AO8 O7⟩
 unfold c147
 obtain ⟨va,vk,vf,vw⟩:=v
 have h2':AE1 176 [.int .i64 (s:Nat)] t.n t.m (X0 t.n t.m t.V t.W t.V3 t.V4 t.S) (.tup [.agg [.int .i64 (va:Nat),.int .i64 (vk:Nat),.int .i64 (vf:Nat),.bool vw],.int .i64 0]) (X0 t.n t.m (I6 t.V s z0) (I6 t.W s w0) (I6 t.V3 s w0) (I6 t.V4 s b0) S'):=h2
 unfold vwC
 dsimp only at *
 (refine wx_Yhn ?_;repeat' (first|with_reducible refine And.intro ?_ ?_|intro hsp))
 all_goals exact M4 rfl M8 rfl rfl rfl rfl rfl
theorem plain_vl {a b c:Int} {w:Bool}:∀ x ∈ [AV.agg [.int .i64 a,.int .i64 b,.int .i64 c,.bool w]],Plain x:=fun x hx=>by
 obtain rfl:=List.mem_singleton.1 hx;exact M8
theorem k_right (a k f:Int) (w:Bool):M5 150 [.agg [.int .i64 a,.int .i64 k,.int .i64 f,.bool w]] (.bool (decide (inR 64 a∧inR 1024 k∧inR 1024 f))):=by
 refine M5.mk (V7 E9 b150 I7 ⟨M8,trivial⟩ A9 rfl ?_)
 unfold c150
 have ha:=AJ3 a
 have hk:=k_pages2 k f
 by_cases h1:inR 64 a<;>by_cases h2:(inR 1024 k∧inR 1024 f)
 all_goals first|rw [if_pos h1] at ha|rw [if_neg h1] at ha
 all_goals first|rw [if_pos h2] at hk|rw [if_neg h2] at hk
 all_goals (refine wx_Yh ?_;repeat' (first|with_reducible refine And.intro ?_ ?_|intro hsp))
 all_goals exact Y3 (by first|(simp [h1,h2];done)|(symm;rw [decide_eq_false_iff_not];intro h3;first|exact h1 h3.1|exact h2 h3.2)|(symm;rw [decide_eq_true_eq];exact ⟨h1,h2⟩))
theorem right_ok (hv:v.1 < 64∧v.2.1 < 1024∧v.2.2.1 < 1024):inR 64 (v.1:Nat)∧inR 1024 (v.2.1:Nat)∧inR 1024 (v.2.2.1:Nat):=⟨Ac3 hv.1,Az4 hv.2.1,Az4 hv.2.2⟩
theorem t_Map (h:TOk L t) (hv:v.1 < 64∧v.2.1 < 1024∧v.2.2.1 < 1024) (hn:∀ u ∈ L,¬ atV (v.1,v.2.1) u) (hl:L.length < 2000):∃ t',TOk (Ab6 v L) t'∧X7 93 [.agg (vwC v)] t (.int .i64 0) t':=by
 have hmf:=mf_no (h.noentry hn)
 have hlen:(t.E.map AG8).length=L.length:=by rw [List.length_map,h.elen]
 obtain ⟨t',h1,_,_,hput⟩:=t_put h hv hn hl
 refine ⟨t',h1,?_⟩
 obtain ⟨va,vk,vf,vw⟩:=v
 have hr:=k_right (va:Nat) (vk:Nat) (vf:Nat) vw
 rw [decide_eq_true (right_ok hv)] at hr
 unfold vwC at hput ⊢
 dsimp only at *
 refine X7.mk (D9 E9 b93 rfl ?_) plain_vl A8
 unfold c93
 generalize L.length=n at *
 (refine wx_Yh ?_;repeat' (first|with_reducible refine And.intro ?_ ?_|intro hsp))
 all_goals exact M4 rfl A8 rfl rfl rfl rfl rfl
theorem AO6 {a b c:Int}:Plain (.tup [.int .i64 a,.int .i64 b,.int .i64 c]):=G7 fun x hx=>by
 simp only [List.mem_cons,List.not_mem_nil,or_false] at hx
 rcases hx with rfl|rfl|rfl<;>exact A8
theorem BS6 (a k:Int) (hn:¬ (inR 64 a∧inR 1024 k)):X7 94 [.int .i64 a,.int .i64 k] t (.tup [.int .i64 0,.int .i64 0,.int .i64 7]) t:=by
 have hf:=Av8 (t:=t) a k hn
 refine X7.mk (D9 E9 b94 rfl ?_) I4 AO6
 unfold c94
 (refine wx_Yh ?_;repeat' (first|with_reducible refine And.intro ?_ ?_|intro hsp))
 all_goals exact M4 rfl AO6 rfl rfl rfl rfl rfl
theorem Av9 (h:TOk L t) {a k:Nat} (ha:a < 64) (hk:k < 1024) (hn:∀ v ∈ L,¬ atV (a,k) v):X7 94 [.int .i64 (a:Nat),.int .i64 (k:Nat)] t (.tup [.int .i64 0,.int .i64 0,.int .i64 4]) t:=by
 have hf:=Af3 ha hk (h.noentry hn)
 refine X7.mk (D9 E9 b94 rfl ?_) I4 AO6
 unfold c94
 (refine wx_Yh ?_;repeat' (first|with_reducible refine And.intro ?_ ?_|intro hsp))
 all_goals exact M4 rfl AO6 rfl rfl rfl rfl rfl
theorem t_Unmap (h:TOk L t) (hs:s ∈ t.Q v.1) (hu:t.U s=v) :
  ∃ t' A B X Y,L=A++v::B∧TOk (A++B) t'∧t.Q v.1=X++s::Y∧t'.Q=AG6 t.Q v.1 (X++Y)∧t'.U=t.U∧X7 94 [.int .i64 (v.1:Nat),.int .i64 (v.2.1:Nat)] t (.tup [.int .i64 (v.2.2.1:Nat),.int .i64 (cntF (A++B) v.2.2.1:Nat),.int .i64 0]) t':=by
 obtain ⟨t',A,B,X,Y,hL,h1,hQ,h2,h3,htake⟩:=t_take h hs hu
 have hok:=h.ok v (by rw [hL];simp)
 have hf:=BL6 hok.1 hok.2.1 h.keys (h.entry hs hu)
 have hC:(tabC 1 4 t'.C)[2+v.2.2.1]? = some (.int .i64 (cntF (A++B) v.2.2.1:Nat)):=by rw [← h1.cnt];exact tab_get hok.2.2
 refine ⟨t',A,B,X,Y,hL,h1,hQ,h2,h3,X7.mk (D9 E9 b94 rfl ?_) I4 AO6⟩
 unfold c94
 obtain ⟨va,vk,vf,vw⟩:=v
 unfold vwC at htake
 dsimp only at *
 (refine wx_Yh ?_;repeat' (first|with_reducible refine And.intro ?_ ?_|intro hsp))
 all_goals exact M4 rfl AO6 rfl rfl rfl rfl rfl
end
end Go.Proofs.YtphggldkligldaaGreat.Sh
namespace Go.Proofs.YtphggldkligldaaGreat.Sh
open Go Go.Am Go.Pol
theorem wx_Yin {p q:Prop} (hq:q) (h:X5 q→p:=by (intro hQz;((repeat' ((try (conv=>whnf));first|refine sxA ?_|refine G5 (by with_reducible assumption) ?_|refine D7 (by rw [tab_len];omega) e1 ?_|refine D7 (by rw [tab_len];omega) e2 ?_|refine sxN ?_|(refine X4 E9 b119 rfl ?_;unfold c119)|refine AS8 (by assumption) rfl (by omega) ?_|refine Z0 (by assumption) rfl rfl rfl rfl rfl (by decide) rfl ?_|refine V5 (by assumption) rfl rfl rfl (by decide) (by first|exact AD9|(simp [A8,A9];done)|fail) (by first|exact AF6|exact A8|fail) rfl ?_|refine AK9 (by assumption) rfl rfl rfl (by first|exact AD9|(simp [A8,A9];done)|fail) (by first|exact AF6|exact A8|fail) rfl rfl ?_|refine sxH ?_|((with_reducible first|apply N9 hQz|apply O1 hQz)<;>(try intro hsp hQz))|exact hQz.out))<;>(try (conv=>whnf))))):p:=h ⟨hq⟩
section
variable {L:List Vw} {t:TS} {v:Vw} {s:Nat}
theorem plain_i3 {a b c:Int}:∀ x ∈ [AV.int .i64 a,.int .i64 b,.int .i64 c],Plain x:=fun x hx=>by
 simp only [List.mem_cons,List.not_mem_nil,or_false] at hx
 rcases hx with rfl|rfl|rfl<;>exact A8
def frV (f:Nat) (v:Vw):Vw:=(v.1,v.2.1,f,true)
theorem t_Split (h:TOk L t) (hs:s ∈ t.Q v.1) (hu:t.U s=v) {f:Nat} (hf:f < 1024) (hc:cntF L f=0) :
  ∃ t' A B,L=A++v::B∧TOk (A++frV f v::B) t'∧X7 96 [.int .i64 (v.1:Nat),.int .i64 (v.2.1:Nat),.int .i64 (f:Nat)] t (.int .i64 0) t':=by
 obtain ⟨X,Y,A,B,hQ,hL,hX,hY,hsX,hsY⟩:=h.around hs hu
 have hv:v ∈ L:=by rw [hL];simp
 have hok:=h.ok v hv
 have hm:v.1 < t.m:=by rw [h.hm];exact hok.1
 have hk1:=AV3 (f:Nat)
 rw [if_pos (Az4 hf)] at hk1
 have hfi:=BL6 hok.1 hok.2.1 h.keys (h.entry hs hu)
 have hget:=h.get hs
 rw [hu] at hget
 have hcf:t.C f=0:=by rw [h.cnt,hc]
 have hne:f ≠ v.2.2.1:=fun e=>by subst e;rw [hL,l9,Z9,if_pos rfl] at hc;omega
 have hC1:0 < t.C v.2.2.1:=by rw [h.cnt,hL,l9,Z9,if_pos rfl];omega
 have hC2:t.C v.2.2.1≤2000:=by rw [h.cnt];exact Nat.le_trans (List.length_filter_le ..) h.len
 have g1:(tabC 1 4 t.C)[2+f]? = some (.int .i64 0):=by have:=tab_get (p:=1) (m:=4) (C:=t.C) hf;rw [hcf] at this;exact this
 have g2:(tabC 1 4 t.C)[2+v.2.2.1]? = some (.int .i64 (t.C v.2.2.1:Nat)):=tab_get hok.2.2
 have e1:(tabC 1 4 t.C).set (2+v.2.2.1) (.int .i64 ((t.C v.2.2.1:Nat) - 1:Int))=tabC 1 4 (Av4 t.C v.2.2.1 (t.C v.2.2.1 - 1)):=tab_set (by omega)
 generalize hC':Av4 t.C v.2.2.1 (t.C v.2.2.1 - 1)=C1 at *
 have hc1f:C1 f=0:=by rw [← hC'];unfold Av4;rw [if_neg hne,hcf]
 have g3:(tabC 1 4 C1)[2+f]? = some (.int .i64 0):=by have:=tab_get (p:=1) (m:=4) (C:=C1) hf;rw [hc1f] at this;exact this
 have e2:(tabC 1 4 C1).set (2+f) (.int .i64 1)=tabC 1 4 (Av4 C1 f 1):=tab_set rfl
 obtain ⟨i1,hput⟩:=p_put h.pool.inv (s:=s) (i:=v.1) ⟨hm,hQ⟩ (num v.1) (num v.2.1) (num f) (bo true)
 have hT:=h.chg (w:=frV f v) (C:=Av4 C1 f 1) hu hQ hL hX hY hsX hsY rfl rfl hf (fun x=>by
  rw [l9,Z9]
  have hx:=h.cnt x
  rw [hL,l9,Z9] at hx
  have hv2:=h.cnt v.2.2.1
  rw [hL,l9,Z9,if_pos rfl] at hv2
  show Av4 C1 f 1 x=cntF A x+((if f=x then 1 else 0)+cntF B x)
  rw [← hC']
  unfold Av4
  by_cases h1:x=f
  ·subst h1;rw [if_pos rfl,if_pos rfl];rw [if_neg (Ne.symm hne)] at hx;omega
  ·rw [if_neg h1,if_neg (Ne.symm h1)]
   by_cases h2:x=v.2.2.1
   ·subst h2;rw [if_pos rfl];omega
   ·rw [if_neg h2];rw [if_neg (Ne.symm h2)] at hx;omega) ⟨i1,h.pool.m_le,h.pool.n_le,h.pool.n_pos⟩
 refine ⟨_,A,B,hL,hT,X7.mk (D9 E9 b96 rfl ?_) plain_i3 A8⟩
 unfold c96
 obtain ⟨va,vk,vf,vw⟩:=v
 have hput':AE1 146 [.int .i64 (s:Nat),.agg [.int .i64 (va:Nat),.int .i64 (vk:Nat),.int .i64 (f:Nat),.bool true]] t.n t.m (X0 t.n t.m t.V t.W t.V3 t.V4 t.S) (.int .i64 0) (X0 t.n t.m (I6 t.V s (num va)) (I6 t.W s (num vk)) (I6 t.V3 s (num f)) (I6 t.V4 s (bo true)) t.S):=hput
 unfold vwC at hget
 dsimp only at *
 clear hput
 (refine wx_Yin ?_;repeat' (first|with_reducible refine And.intro ?_ ?_|intro hsp))
 all_goals exact M4 rfl A8 rfl rfl rfl rfl rfl
end
end Go.Proofs.YtphggldkligldaaGreat.Sh
namespace Go.Proofs.YtphggldkligldaaGreat.Sh
open Go Go.Am Go.Pol
theorem AE7 (v:Vw):∀ x ∈ vwC v,Plain x:=Y0
theorem Av1 (v:Vw):(vwC v).length=4:=rfl
theorem Y1 {L:List Vw}:Plain (.isl (L.map vwC)):=o8 fun e he=>by
 obtain ⟨v,_,rfl⟩:=List.mem_map.1 he;exact Y0
theorem AA0 {L:List Vw}:Plain (.agg [.isl (L.map vwC)]):=K8 fun x hx=>by
 obtain rfl:=List.mem_singleton.1 hx;exact Y1

theorem At1 {top:Bool} {h:Hp} {N0:Nat} {x r:AV} {t:TS} (hr:AI3 (rn []) h ⟨tabS t,5⟩→WkV Tryz.prog (rn []) h ⟨tabS t,5⟩ x r) (h0:lk h.l 0=some (.cells (tabC 1 4 t.C))) (h1:lk h.l 1=some (.cells [.sl 2 0 t.n t.n 7,.sl 3 0 t.m t.m 3,.int .i64 (t.S.fr:Nat)])) (h2:lk h.l 2=some (.cells (C9 t.n t.V t.W t.V3 t.V4 t.S.L t.S.N t.S.P))) (h3:lk h.l 3=some (.cells (J5 t.m t.S.A t.S.B t.S.C))) (h4:lk h.l 4=some (.maps (t.E.map AG8))) (hN0:N0≤5:=by decide) :
  AR3 top Tryz.prog N0 h x (fun r' h'=>r'=r∧h'=⟨tabS t,5⟩):=by
 have hs:AI3 (rn []) h ⟨tabS t,5⟩:=fun i o hi=>by
  simp only [tabS,lk] at hi
  show ∃ o',lk h.l i=some o'
  split at hi
  ·rename_i e;subst e;exact ⟨_,h0⟩
  ·split at hi
   ·rename_i e;subst e;exact ⟨_,h1⟩
   ·split at hi
    ·rename_i e;subst e;exact ⟨_,h2⟩
    ·split at hi
     ·rename_i e;subst e;exact ⟨_,h3⟩
     ·split at hi
      ·rename_i e;subst e;exact ⟨_,h4⟩
      ·cases hi
 refine j6 [] rfl hN0 (L6 rfl) (hr hs) ?_ ⟨rfl,rfl⟩
 exact AH7 hs (show 0 < 5 by decide) h0 rfl (show 1 < 5 by decide) rfl (show 4 < 5 by decide)
  (J3 (show 1 < 5 by decide) h1 (D5 (j4 rfl (show 2 < 5 by decide) rfl (Nat.le_refl _) (Nat.le_refl _)) (D5 (j4 rfl (show 3 < 5 by decide) rfl (Nat.le_refl _) (Nat.le_refl _)) (D5 (L8 rfl) J4)))
  (E8 hs (show 2 < 5 by decide) h2 rfl F5 (E8 hs (show 3 < 5 by decide) h3 rfl F8 (x9 hs (show 4 < 5 by decide) h4 rfl H9 J6))))
theorem tab_not {t:TS} {d:Nat} (hd:5≤d):∀ j o,lk (Hp.l ⟨tabS t,5⟩) j=some o→rn [] j ≠ d:=fun j o hj=>by
 have : j < 5:=Classical.byContradiction fun hn=>by
  simp only [tabS,lk] at hj
  repeat' split at hj
  all_goals first|omega|cases hj
 show j ≠ d
 omega
theorem wk_frzW {σ:Nat→Nat} {h h':Hp} {d:Nat} {L:List Vw} (hi:L.length ≠ 0→lk h.l d=some (.cells (flat vwC L))) (hi':∀ j o,lk h'.l j=some o→σ j ≠ d) (hs:AI3 σ h h'):WkV Tryz.prog σ h h' (Ag1 d 4 L.length) (.isl (L.map vwC)):=by
 by_cases hz:L.length=0
 ·rw [hz,BU7,List.eq_nil_of_length_eq_zero hz];exact Ao6
 ·rw [Aq5 hz]
  refine Au9 (hi hz) hi' hs (by simp) (fun e he=>?_) ?_ fun e he x hx=>?_
  ·obtain ⟨s,_,rfl⟩:=List.mem_map.1 he;rfl
  ·rw [List.drop_zero,List.take_of_length_le (by rw [AP8 Av1];exact Nat.le_refl _)];rfl
  ·obtain ⟨s,_,rfl⟩:=List.mem_map.1 he;exact Y0 x hx
theorem Aq7 (Q:List Nat):BV0 (hd Q) 4 = .tup [.int .i64 (if Q.length=0 then 0 else hd (Q.drop 0)),.int .i64 (if Q.length=0 then 4 else 0)]:=by
 unfold BV0
 cases Q with
 | nil=>rfl
 | cons y0 L0=>rw [if_neg (show ¬ hd (y0::L0) = -1 by show ¬ ((y0:Nat):Int) = -1;omega),if_neg (show ¬ hd (y0::L0) = -1 by show ¬ ((y0:Nat):Int) = -1;omega),if_neg (by simp),if_neg (by simp)];rfl
section
variable {L:List Vw} {t:TS}
theorem TOk.len_of (h:TOk L t) (a:Nat):(ofA a L).length≤1024:=by
 have hs:Go.Pol.srt (ofA a L):=h.srt.sublist List.filter_sublist
 have h1:((ofA a L).map (·.2.1)).Nodup:=by
  refine List.Pairwise.map _ (R:=fun u v=>bef u v∧u.1=v.1) (fun u v huv=>by obtain ⟨hb,he⟩:=huv;unfold bef at hb;show u.2.1 ≠ v.2.1;omega) ?_
  refine List.Pairwise.imp_of_mem (R:=bef) (fun {u v} hu hv hb=>⟨hb,?_⟩) hs
  rw [(J8.1 hu).2,(J8.1 hv).2]
 have h2:=Az1 1024 _ h1 fun x hx=>by
  obtain ⟨v,hv,rfl⟩:=List.mem_map.1 hx
  exact (h.ok v (J8.1 hv).1).2.1
 rwa [List.length_map] at h2
theorem TOk.at_ (h:TOk L t) {a k:Nat} (hk:k < (t.Q a).length):nth 0 (t.Q a) k < t.n∧hd ((t.Q a).drop k)=(nth 0 (t.Q a) k:Nat)∧t.S.N (nth 0 (t.Q a) k)=hd ((t.Q a).drop (k+1))∧nth dV (ofA a L) k=t.U (nth 0 (t.Q a) k)∧nth 0 (t.Q a) k ∈ t.Q a∧((C9 t.n t.V t.W t.V3 t.V4 t.S.L t.S.N t.S.P).drop (nth 0 (t.Q a) k * 7)).take 4=vwC (t.U (nth 0 (t.Q a) k)):=by
 have hm:=AD4 (d:=0) hk
 have hlt:=(h.pool.inv.st.us a _ hm).1
 refine ⟨hlt,by rw [P7 hk,List.drop_eq_getElem_cons hk];rfl,(h.pool.inv.st.ch a ((t.Q a).take k) (nth 0 (t.Q a) k) ((t.Q a).drop (k+1)) (by rw [P7 hk,← List.drop_eq_getElem_cons hk,List.take_append_drop])).1,?_,hm,?_⟩
 ·rw [← h.lst,P7 (by rw [List.length_map];exact hk),P7 hk,List.getElem_map]
 ·rw [tkV hlt]
  obtain ⟨e1,e2,e3,e4⟩:=h.val a _ hm
  rw [e1,e2,e3,e4];rfl
theorem TOk.lenQ (h:TOk L t) (a:Nat):(ofA a L).length=(t.Q a).length:=by rw [← h.lst,List.length_map]
end
end Go.Proofs.YtphggldkligldaaGreat.Sh
namespace Go.Pol
def upto (a:Nat) (L:List Vw):List Vw:=L.filter fun v=>decide (v.1 < a)
theorem upto_s {L:List Vw} (h:srt L) (a:Nat):upto (a+1) L=upto a L++ofA a L:=by
 refine Ap4 (h.sublist List.filter_sublist) (List.pairwise_append.2 ⟨h.sublist List.filter_sublist,h.sublist List.filter_sublist,fun u hu v hv=>?_⟩) fun v=>?_
 ·have h1:=(List.mem_filter.1 hu).2
  have h2:=(J8.1 hv).2
  simp only [decide_eq_true_eq] at h1
  unfold bef;omega
 ·unfold upto ofA
  simp only [List.mem_append,List.mem_filter,decide_eq_true_eq]
  constructor
  ·rintro ⟨h1,h2⟩
   rcases Nat.lt_or_ge v.1 a with h3|h3
   ·exact .inl ⟨h1,h3⟩
   ·exact .inr ⟨h1,by omega⟩
  ·rintro (⟨h1,h2⟩ | ⟨h1,h2⟩)<;>exact ⟨h1,by omega⟩
theorem upto_all {L:List Vw} (h:∀ v ∈ L,v.1 < 64):upto 64 L=L:=by
 unfold upto;rw [List.filter_eq_self];intro v hv;simpa using h v hv
theorem upto_0 (L:List Vw):upto 0 L=[]:=by unfold upto;rw [List.filter_eq_nil_iff];intro v _;simp
theorem upto_le (L:List Vw) (a:Nat):(upto a L).length≤L.length:=List.length_filter_le ..
end Go.Pol
namespace Go.Proofs.YtphggldkligldaaGreat.Sh
open Go Go.Am Go.Pol
theorem ppx_Yk {p:Prop} (h:p:=by ((first|with_reducible assumption|(with_reducible first|apply U8|apply F5|apply F8|apply P9|apply P5 _ _|apply Y0|apply K9 AE7|fail)|exact ppw|fail);first|done|fail)):p:=h
open Go.Proofs.YtphggldkligldaaGreat.Sh renaming plx_Yf → plx
open Go.Proofs.YtphggldkligldaaGreat.Sh renaming ppx_Yk → ppx
theorem wx_Yk {p q:Prop} (hq:q) (h:X5 q→p:=by (intro hQz;((repeat' ((try (conv=>whnf));first|refine sxA ?_|refine G5 (gc2 hx) ?_|refine p9 (by rw [D8];omega) rfl (p8 (by rw [List.length_drop,D8];omega) hcell ?_)|refine sxF ?_|refine V5 (by assumption) rfl rfl rfl (by decide) (by first|(simp [A8,A9];done)|fail) F7 rfl ?_|refine As2 rfl ?_|(refine X4 E9 b140 rfl ?_;unfold c140)|(refine X4 E9 b174 rfl ?_;unfold c174)|refine AS7 E9 rfl hF2 hA2 hB2 rfl ?_|refine AS7 E9 rfl hF hA hB rfl ?_|refine Ae4 (f:=vwC) (l2:=[(ua,uk,uf,uw)]) Av1 (AT6 rfl rfl) (fun hz=>by first|(simp [lk,Q7 hz];done)|exact Q7 hz) (fun hz=>by first|(simp [lk,AZ1 hz];done)|exact AZ1 hz) rfl (by decide) ⟨by omega,by omega⟩ rfl ?_|(refine Ae3 (f:=vwC) (l2:=[(ua,uk,uf,uw)]) Av1 (AT6 rfl rfl) (fun hz=>by first|(simp [lk,Q7 hz];done)|exact Q7 hz) rfl (by decide) ⟨by omega,by omega⟩ ?_ ?_<;>intro hzz)|refine sxH ?_|((with_reducible first|apply N9 hQz|apply O1 hQz)<;>(try intro hsp hQz))|exact hQz.out))<;>(try (conv=>whnf))))):p:=h ⟨hq⟩
theorem wx_Ykn {p q:Prop} (hq:q) (h:X5 q→p:=by (intro hQz;((repeat' ((try (conv=>whnf));first|refine sxA ?_|refine sxN ?_|(refine X4 E9 b119 rfl ?_;unfold c119)|(refine X4 E9 b145 rfl ?_;unfold c145)|refine sxH ?_|((with_reducible first|apply N9 hQz|apply O1 hQz)<;>(try intro hsp hQz))|exact hQz.out))<;>(try (conv=>whnf))))):p:=h ⟨hq⟩
theorem lk_ownA {L:List Vw} {a b c d e f g:AObj} (hz:L.length ≠ 0):lk ((0,a)::(1,b)::(2,c)::(3,d)::(4,e)::(5,f)::[(6,g)].append (AT2 7 vwC L)) 7=some (.cells (flat vwC L)):=by
 simp [lk,Q7 hz]
section
variable {L:List Vw} {t:TS}
theorem t_Save (h:TOk L t):X7 81 [] t (.agg [.isl (L.map vwC)]) t:=by
 have hn2:t.n=2000:=h.hn
 have hlen:=h.len
 refine X7.mk (D9 E9 b81 rfl ?_) (fun x hx=>by cases hx) AA0
 unfold c81
 (refine wx_Yk ?_;repeat' (first|with_reducible refine And.intro ?_ ?_|intro hsp))
 (refine F6 [0] (fun (a:Nat)=>[(2,.ptr 5 0),(3,.ptr 6 0),(6,.int .i64 (a:Nat))]) (fun (a:Nat)=>⟨tabS t++[(5,.cells [.nils]),(6,.cells [Ag1 7 4 (upto a L).length])]++AT2 7 vwC (upto a L),8⟩) (fun (a:Nat)=>a≤64) (fun (a:Nat)=>64 - a) (0) [] rfl (fun _=>by first|exact Nat.zero_le _|(dsimp only;omega)) ?_ (by ((try (conv=>whnf));(rw [upto_0]);exact wkxQ3)) ?_)
 ·exact Nat.zero_le _
 intro a ha
 by_cases ha4:a < 64
 ·have hen:=p_end h.pool.inv h.pool.n_pos (show a < t.m by rw [h.hm];exact ha4) true
  rw [if_pos rfl,Aq7] at hen
  have hlo:=h.len_of a
  have hlq:=h.lenQ a
  have hup:=upto_s h.srt a
  have hul:=upto_le L (a+1)
  (refine wx_Yk ?_;repeat' (first|with_reducible refine And.intro ?_ ?_|intro hsp))
  refine AR8 E9 b171 rfl trivial ?_
  intro frl asl bdl hF hA hB
  unfold c171
  (refine wx_Ykn ?_;repeat' (first|with_reducible refine And.intro ?_ ?_|intro hsp))
  refine AR8 E9 b173 rfl trivial ?_
  intro frl2 asl2 bdl2 hF2 hA2 hB2
  unfold c173
  (refine wx_Yk ?_;repeat' (first|with_reducible refine And.intro ?_ ?_|intro hsp))
  (refine F6 [0,1,2,3] (fun (k:Nat)=>[(5,.int .i64 (if (t.Q a).length=0 then 0 else hd ((t.Q a).drop k))),(6,.int .i64 (if (t.Q a).length=0 then 4 else 0))]) (fun (k:Nat)=>⟨tabS t++[(5,.cells [.nils]),(6,.cells [Ag1 21 4 (upto a L++(ofA a L).take k).length]),(8,.cells [.ptr 0 0]),(9,.cells [.int .i64 (a:Nat)]),(10,.loop .ready none frl [12] asl bdl),(11,.cells [.yld 10]),(17,.cells [.ptr 1 0]),(18,.cells [.int .i64 (a:Nat)]),(19,.cells [.bool false]),(20,.loop .ready none frl2 [15,16] asl2 bdl2)]++AT2 21 vwC (upto a L++(ofA a L).take k),22⟩) (fun (k:Nat)=>k≤(t.Q a).length) (fun (k:Nat)=>(t.Q a).length - k) (0) [(21,7)] rfl (fun _=>by first|exact Nat.zero_le _|(dsimp only;omega)) ?_ (by ((try (conv=>whnf));(rw [List.take_zero,List.append_nil]);exact wkxQ3)) ?_)
  ·exact Nat.zero_le _
  intro k hk
  by_cases hkl:k < (t.Q a).length
  ·obtain ⟨hx,hd0,hnx,hnv,hm,hcell⟩:=h.at_ hkl
   have hnx0:¬ (t.Q a).length=0:=by omega
   rw [if_neg hnx0,if_neg hnx0,hd0]
   have htk:upto a L++(ofA a L).take (k+1)=upto a L++(ofA a L).take k++[t.U (nth 0 (t.Q a) k)]:=by rw [y9 (d:=dV) (l:=ofA a L) (k:=k) (by omega),hnv,List.append_assoc]
   have hlk:(upto a L++(ofA a L).take k).length≤L.length:=by rw [hup] at hul;rw [List.length_append] at hul ⊢;rw [List.length_take];omega
   generalize nth 0 (t.Q a) k=x at *
   generalize t.U x=u at *
   obtain ⟨ua,uk,uf,uw⟩:=u
   unfold vwC at hcell
   dsimp only at hcell
   (refine wx_Yk ?_;repeat' (first|with_reducible refine And.intro ?_ ?_|intro hsp))
   all_goals exact F3 (k+1) [(21,25)] (by (try dsimp only);omega) (by first|omega|(dsimp only;omega)) rfl (by ((try dsimp only);rw [htk,if_neg hnx0]);exact wkxQ3)
  ·have hd1:hd ((t.Q a).drop k) = -1:=by rw [List.drop_of_length_le (by omega)];rfl
   rw [hd1]
   have hall:(ofA a L).take k=ofA a L:=List.take_of_length_le (by omega)
   rw [hall,← hup]
   by_cases hz:(t.Q a).length=0
   ·rw [if_pos hz,if_pos hz]
    (refine wx_Yk ?_;repeat' (first|with_reducible refine And.intro ?_ ?_|intro hsp))
    all_goals exact F3 (a+1) [(7,21)] (by (try dsimp only);omega) (by first|omega|(dsimp only;omega)) rfl (by exact wkxQ3)
   ·rw [if_neg hz,if_neg hz]
    (refine wx_Yk ?_;repeat' (first|with_reducible refine And.intro ?_ ?_|intro hsp))
    all_goals exact F3 (a+1) [(7,21)] (by (try dsimp only);omega) (by first|omega|(dsimp only;omega)) rfl (by exact wkxQ3)
 ·obtain rfl:a=64:=by omega
  have hall:=upto_all fun v hv=>(h.ok v hv).1
  (refine wx_Yk ?_;repeat' (first|with_reducible refine And.intro ?_ ?_|intro hsp))
  rw [hall]
  exact At1 (fun hs=>wk_agg (D5 (wk_frzW (fun hz=>lk_ownA hz) (tab_not (by decide)) hs) J4)) rfl rfl rfl rfl rfl
end
end Go.Proofs.YtphggldkligldaaGreat.Sh
namespace Go.Pol
open Go.Am
abbrev Rw:=Int × Int × Int × Bool
def rwC (v:Rw):List AV:=[.int .i64 v.1,.int .i64 v.2.1,.int .i64 v.2.2.1,.bool v.2.2.2]
def dW:Rw:=(0,0,0,false)
theorem BM3 {v:Rw}:∀ x ∈ rwC v,Plain x:=fun x hx=>by
 simp only [rwC,List.mem_cons,List.not_mem_nil,or_false] at hx
 rcases hx with rfl|rfl|rfl|rfl<;>first|exact A8|exact A9
theorem BN3 {R:List Rw}:Plain (.isl (R.map rwC)):=o8 fun e he=>by
 obtain ⟨v,_,rfl⟩:=List.mem_map.1 he;exact BM3
theorem plain_rsA {R:List Rw}:Plain (.agg [.isl (R.map rwC)]):=K8 fun x hx=>by
 obtain rfl:=List.mem_singleton.1 hx;exact BN3
def okW (v:Rw):Prop:=(0≤v.1∧v.1 < 64)∧(0≤v.2.1∧v.2.1 < 1024)∧(0≤v.2.2.1∧v.2.2.1 < 1024)
instance (v:Rw):Decidable (okW v):=by unfold okW;infer_instance
def befW (u v:Rw):Prop:=u.1 < v.1∨(u.1=v.1∧u.2.1 < v.2.1)
instance (u v:Rw):Decidable (befW u v):=by unfold befW;infer_instance
inductive ChkR (R:List Rw):Int→Int→Prop
 | big:2000 < R.length→ChkR R 0 5
 | range (k:Nat):R.length≤2000→k < R.length→(∀ j,j < k→okW (nth dW R j))→¬ okW (nth dW R k)→ChkR R (k:Nat) 7
 | pair (k:Nat):R.length≤2000→1≤k→k < R.length→(∀ j,j < R.length→okW (nth dW R j))→(∀ j,j+1 < k→befW (nth dW R j) (nth dW R (j+1)))→¬ befW (nth dW R (k - 1)) (nth dW R k)→ChkR R (k:Nat) (if befW (nth dW R k) (nth dW R (k - 1)) then 6 else 8)
 | ok:R.length≤2000→(∀ j,j < R.length→okW (nth dW R j))→(∀ j,j+1 < R.length→befW (nth dW R j) (nth dW R (j+1)))→ChkR R 0 0
theorem ChkR.uniq {R:List Rw} {i e i' e':Int} (h:ChkR R i e) (h':ChkR R i' e'):i=i'∧e=e':=by
 cases h with
 | big h1=>cases h' with
  | big h2=>exact ⟨rfl,rfl⟩
  | range k h2=>omega
  | pair k h2=>omega
  | ok h2=>omega
 | range k h1 h2 h3 h4=>cases h' with
  | big g1=>omega
  | range k' g1 g2 g3 g4 =>
   have : k=k':=by
    rcases Nat.lt_trichotomy k k' with h|h|h
    ·exact absurd (g3 k h) h4
    ·exact h
    ·exact absurd (h3 k' h) g4
   subst this;exact ⟨rfl,rfl⟩
  | pair k' g1 g2 g3 g4=>exact absurd (g4 k h2) h4
  | ok g1 g2=>exact absurd (g2 k h2) h4
 | pair k h1 h2 h3 h4 h5 h6=>cases h' with
  | big g1=>omega
  | range k' g1 g2 g3 g4=>exact absurd (h4 k' g2) g4
  | pair k' g1 g2 g3 g4 g5 g6 =>
   have : k=k':=by
    rcases Nat.lt_trichotomy k k' with h|h|h
    ·have:=g5 (k - 1) (by omega);rw [show k - 1+1=k by omega] at this;exact absurd this h6
    ·exact h
    ·have:=h5 (k' - 1) (by omega);rw [show k' - 1+1=k' by omega] at this;exact absurd this g6
   subst this;exact ⟨rfl,rfl⟩
  | ok g1 g2 g3=>have:=g3 (k - 1) (by omega);rw [show k - 1+1=k by omega] at this;exact absurd this h6
 | ok h1 h2 h3=>cases h' with
  | big g1=>omega
  | range k' g1 g2 g3 g4=>exact absurd (h2 k' g2) g4
  | pair k' g1 g2 g3 g4 g5 g6=>have:=h3 (k' - 1) (by omega);rw [show k' - 1+1=k' by omega] at this;exact absurd this g6
  | ok=>exact ⟨rfl,rfl⟩
end Go.Pol
namespace Go.Proofs.YtphggldkligldaaGreat.Sh
open Go Go.Am Go.Pol
theorem plx_Ba {p:Prop} (h:p:=by ((first|exact plw|(with_reducible first|apply O7|apply M8|apply Y1|apply AA0|apply BN3|apply plain_rsA|fail)|fail);first|done|fail)):p:=h
theorem ppx_Ba {p:Prop} (h:p:=by ((first|with_reducible assumption|(with_reducible first|apply Y0|apply K9 AE7|apply BM3|fail)|exact ppw|fail);first|done|fail)):p:=h
open Go.Proofs.YtphggldkligldaaGreat.Sh renaming plx_Ba → plx
open Go.Proofs.YtphggldkligldaaGreat.Sh renaming ppx_Ba → ppx
section
variable {L A B:List Vw} {v:Vw} {R:List Rw}
end
end Go.Proofs.YtphggldkligldaaGreat.Sh
namespace Go.Pol
open Go.Am
theorem chain {α:Type} {P:Nat→α→Prop} {S:Nat→α→α→Prop} {n:Nat} (x0:α) (h0:P 0 x0) (hs:∀ k x,k < n→P k x→∃ y,P (k+1) y∧S k x y):∃ f:Nat→α,f 0=x0∧(∀ k,k≤n→P k (f k))∧∀ k,k < n→S k (f k) (f (k+1)):=by
 classical
 refine ⟨fun k=>Nat.rec x0 (fun k x=>if h:k < n∧P k x then Classical.choose (hs k x h.1 h.2) else x) k,rfl,?_,?_⟩
 ·intro k
  induction k with
  | zero=>exact fun _=>h0
  | succ k ih =>
   intro hk
   have h1:=ih (by omega)
   show P (k+1) (dite _ _ _)
   rw [dif_pos ⟨by omega,h1⟩]
   exact (Classical.choose_spec (hs k _ (by omega) h1)).1
 ·have key:∀ k,k≤n→P k (Nat.rec x0 (fun k x=>if h:k < n∧P k x then Classical.choose (hs k x h.1 h.2) else x) k):=by
   intro k
   induction k with
   | zero=>exact fun _=>h0
   | succ k ih =>
    intro hk
    have h1:=ih (by omega)
    show P (k+1) (dite _ _ _)
    rw [dif_pos ⟨by omega,h1⟩]
    exact (Classical.choose_spec (hs k _ (by omega) h1)).1
  intro k hk
  have h1:=key k (by omega)
  show S k _ (dite _ _ _)
  rw [dif_pos ⟨hk,h1⟩]
  exact (Classical.choose_spec (hs k _ hk h1)).2
theorem take_ne {L:List Vw} (h:srt L) {k:Nat} (hk:k < L.length):∀ u ∈ L.take k,¬ atV ((nth dV L k).1,(nth dV L k).2.1) u:=fun u hu ha=>by
 obtain ⟨i,hi,rfl⟩:=List.mem_iff_getElem.1 hu
 rw [List.length_take] at hi
 have h1:=(List.pairwise_iff_getElem.1 h) i k (by omega) hk (by omega)
 rw [List.getElem_take,P7 hk] at ha
 unfold bef at h1;unfold atV at ha;omega
end Go.Pol
namespace Go.Proofs.YtphggldkligldaaGreat.Sh
open Go Go.Am Go.Pol
theorem plx_Da {p:Prop} (h:p:=by ((first|exact plw|(with_reducible first|apply O7|apply M8|apply Y1|apply AA0|fail)|fail);first|done|fail)):p:=h
theorem ppx_Da {p:Prop} (h:p:=by ((first|with_reducible assumption|(with_reducible first|apply F5|apply F8|apply P9|apply P5 _ _|apply Y0|apply K9 AE7|fail)|exact ppw|fail);first|done|fail)):p:=h
open Go.Proofs.YtphggldkligldaaGreat.Sh renaming plx_Da → plx
open Go.Proofs.YtphggldkligldaaGreat.Sh renaming ppx_Da → ppx
theorem wx_Da {p q:Prop} (hq:q) (h:X5 q→p:=by (intro hQz;((repeat' ((try (conv=>whnf));first|refine sxA ?_|refine AI0 (d:=dV) Av1 (by first|assumption|omega) (by with_reducible assumption) ?_|refine sxF ?_|refine cx_new (n:=2000) (m:=64) (by decide) (by decide) (by decide) (by decide) ?_|refine O5 (by assumption) ?_|refine cx_NT (by assumption) ?_|refine Z0 (by assumption) rfl rfl rfl rfl rfl (by decide) rfl ?_|refine sxH ?_|((with_reducible first|apply N9 hQz|apply O1 hQz)<;>(try intro hsp hQz))|exact hQz.out))<;>(try (conv=>whnf))))):p:=h ⟨hq⟩
def T0:TS:=⟨2000,64,fun _=>z0,fun _=>w0,fun _=>w0,fun _=>b0,fun _=>[],S0 2000 64,fun _=>dV,[],fun _=>0⟩
theorem tok_0:TOk [] T0:=⟨rfl,rfl,good_0 (by decide) (by decide) (by decide),fun a s hs=>(by cases hs),fun a=>rfl,List.nodup_nil,fun p s=>⟨fun h=>(by cases h),fun h=>(by cases h.1)⟩,rfl,fun f=>rfl,fun v hv=>(by cases hv),List.Pairwise.nil,Nat.zero_le _⟩
theorem tab_0 {p m:Nat}:(.ptr p 0 :: .mapr m::List.replicate 1024 (.int .i64 0):List AV)=tabC p m fun _=>0:=by
 unfold tabC
 congr 2
 refine List.ext_getElem? fun i=>?_
 by_cases h:i < 1024
 ·rw [List.getElem?_replicate,if_pos h,Q5 h];rfl
 ·rw [List.getElem?_eq_none (by rw [List.length_replicate];omega),List.getElem?_eq_none (by rw [R5];omega)]
theorem end_newT {top:Bool} {h:Hp} {x r:AV} {t:TS} (a b c d e:Nat) {cs:List AV} (hd:AY6 [a,b,c,d,e]=true)
  (hr:AI3 (rn [(0,a),(1,b),(2,c),(3,d),(4,e)]) h ⟨tabS t,5⟩→WkV Tryz.prog (rn [(0,a),(1,b),(2,c),(3,d),(4,e)]) h ⟨tabS t,5⟩ x r) (hc:cs=tabC b e t.C) (h0:lk h.l a=some (.cells cs)) (h1:lk h.l b=some (.cells [.sl c 0 t.n t.n 7,.sl d 0 t.m t.m 3,.int .i64 (t.S.fr:Nat)])) (h2:lk h.l c=some (.cells (C9 t.n t.V t.W t.V3 t.V4 t.S.L t.S.N t.S.P))) (h3:lk h.l d=some (.cells (J5 t.m t.S.A t.S.B t.S.C))) (h4:lk h.l e=some (.maps (t.E.map AG8))) :
  AR3 top Tryz.prog 0 h x (fun r' h'=>r'=r∧h'=⟨tabS t,5⟩):=by
 subst hc
 have hs:AI3 (rn [(0,a),(1,b),(2,c),(3,d),(4,e)]) h ⟨tabS t,5⟩:=fun i o hi=>by
  simp only [tabS,lk] at hi
  split at hi
  ·rename_i e;subst e;exact ⟨_,h0⟩
  ·split at hi
   ·rename_i e;subst e;exact ⟨_,h1⟩
   ·split at hi
    ·rename_i e;subst e;exact ⟨_,h2⟩
    ·split at hi
     ·rename_i e;subst e;exact ⟨_,h3⟩
     ·split at hi
      ·rename_i e;subst e;exact ⟨_,h4⟩
      ·cases hi
 refine j6 [(0,a),(1,b),(2,c),(3,d),(4,e)] rfl (Nat.zero_le _) (L6 ?_) (hr hs) ?_ ⟨rfl,rfl⟩
 ·exact hd
 ·exact AH7 hs (show 0 < 5 by decide) h0 rfl (show 1 < 5 by decide) rfl (show 4 < 5 by decide)
   (J3 (show 1 < 5 by decide) h1 (D5 (j4 rfl (show 2 < 5 by decide) rfl (Nat.le_refl _) (Nat.le_refl _)) (D5 (j4 rfl (show 3 < 5 by decide) rfl (Nat.le_refl _) (Nat.le_refl _)) (D5 (L8 rfl) J4)))
   (E8 hs (show 2 < 5 by decide) h2 rfl F5 (E8 hs (show 3 < 5 by decide) h3 rfl F8 (x9 hs (show 4 < 5 by decide) h4 rfl H9 J6))))
structure LocNT (f:Nat) (avs:List AV) (t:TS):Prop where
 out:AQ1 Tryz.prog G0 f avs [] 0 fun x h=>x = .ptr 0 0∧h=⟨tabS t,5⟩
 pa:∀ x ∈ avs,Plain x
def tabN (t:TS) (a b c d e:Nat):List (Nat × AObj):=[(a,.cells (tabC b e t.C)),(b,.cells [.sl c 0 t.n t.n 7,.sl d 0 t.m t.m 3,.int .i64 (t.S.fr:Nat)]),(c,.cells (C9 t.n t.V t.W t.V3 t.V4 t.S.L t.S.N t.S.P)),(d,.cells (J5 t.m t.S.A t.S.B t.S.C)),(e,.maps (t.E.map AG8))]
theorem AF2 {p:Nat→Nat→Prop} {i j i' j':Nat} {C:Nat→Nat} (h:p i i') (h':p j j'):RnL p (tabC i j C) (tabC i' j' C):=⟨H8 h,rn_map h',C8 P9⟩
theorem cx_NT {f nx:Nat} {avs:List AV} {t:TS} {l:List (Nat × AObj)} {K:AV→Hp→Prop} (hc:LocNT f avs t) (hk:K (.ptr nx 0) ⟨tabN t nx (nx+1) (nx+2) (nx+3) (nx+4)++l,nx+5⟩):AB8 Tryz.prog G0 (.fn f [] []) avs ⟨l,nx⟩ K:=by
 have k0:back [] nx 0 nx:=rfl
 have k1:back [] nx 1 (nx+1):=rfl
 have k2:back [] nx 2 (nx+2):=rfl
 have k3:back [] nx 3 (nx+3):=rfl
 have k4:back [] nx 4 (nx+4):=rfl
 refine AA9 (r':=.ptr nx 0) (l1:=tabN t nx (nx+1) (nx+2) (nx+3) (nx+4)) [] hc.out I7 rfl .nil (by simpa using C8 hc.pa) (by simp) (H8 k0)
  (.cons k0 (AF2 k1 k4) (.cons k1 ⟨J7 k2,J7 k3,D6 A8,trivial⟩ (.cons k2 P6 (.cons k3 V8 (.maps k4 H9 .nil))))) (AJ4 hk)
set_option maxRecDepth 20000 in
theorem n_New:LocNT 99 [] T0:=by
 refine LocNT.mk (D9 E9 b99 rfl ?_) fun x hx=>by cases hx
 unfold c99
 (refine wx_Da ?_;repeat' (first|with_reducible refine And.intro ?_ ?_|intro hsp))
 exact end_newT 4 0 1 2 3 rfl (fun hs=>X9 rfl (by decide)) tab_0 rfl rfl rfl rfl rfl
section
variable {L:List Vw} {R:List Rw}
end
end Go.Proofs.YtphggldkligldaaGreat.Sh
namespace Go.Pol
open Go.Am
end Go.Pol
namespace Go.Proofs.YtphggldkligldaaGreat.Sh
open Go Go.Am Go.Pol
def natC (n:Nat):AV:=.int .i64 (n:Nat)
theorem AU9 {l:List Nat}:∀ x ∈ l.map natC,Plain x:=fun x hx=>by
 obtain ⟨n,_,rfl⟩:=List.mem_map.1 hx;exact A8
end Go.Proofs.YtphggldkligldaaGreat.Sh
namespace Go.Proofs.YtphggldkligldaaGreat.Sh
open Go Go.Am Go.Pol
end Go.Proofs.YtphggldkligldaaGreat.Sh
namespace Go.Pol
open Go.Am
def frs (L:List Vw):List Nat:=L.map (·.2.2.1)
end Go.Pol
namespace Go.Proofs.YtphggldkligldaaGreat.Sh
open Go Go.Am Go.Pol
theorem AP3 (n:Nat):∀ x ∈ [natC n],Plain x:=fun x hx=>by obtain rfl:=List.mem_singleton.1 hx;exact A8
def nat1 (n:Nat):List AV:=[natC n]
theorem Ad4 (n:Nat):(nat1 n).length=1:=rfl
section
variable {L:List Vw} {R:List Rw}
def rdN (t:TS) (s:Sy) (a b c d e g:Nat):List (Nat × AObj):=[(a,.cells (tabC b e t.C)),(b,.cells [.sl c 0 t.n t.n 7,.sl d 0 t.m t.m 3,.int .i64 (t.S.fr:Nat)]),(c,.cells (C9 t.n t.V t.W t.V3 t.V4 t.S.L t.S.N t.S.P)),(d,.cells (J5 t.m t.S.A t.S.B t.S.C)),(e,.maps (t.E.map AG8)),(g,.cells s.a)]
end
end Go.Proofs.YtphggldkligldaaGreat.Sh
namespace Go.Am
section
variable {α:Type} {f:α→List AV} {L:List α} {d i:Nat} {r:List (Nat × AObj)}
theorem lk_tN (hz:L.length=0):lk (AT2 d f L++r) i=lk r i:=by rw [AU5 hz];rfl
theorem lk_tA {r':List (Nat × AObj)} (h:i ≠ d):lk (r'++AT2 d f L) i=lk r' i:=by
 by_cases hz:L.length=0
 ·rw [AU5 hz,List.append_nil]
 ·rw [AU6 hz]
  induction r' with
  | nil=>simp [lk,h]
  | cons p r' ih=>obtain ⟨j,o⟩:=p;simp only [List.cons_append,lk];rw [ih]
theorem lk_ownO (h:i ≠ d):lk (AT2 d f L) i=none:=by
 have:=lk_tA (f:=f) (L:=L) (r':=[]) h
 exact this
end
section
variable {P:Program} {σ:Nat→Nat} {h h':Hp} {ks:List Nat} {r:List (Nat × AObj)} {α:Type} {f:α→List AV} {L:List α} {i n:Nat}
end
end Go.Am
namespace Go.Am
section
variable {P:Program} {G:Gl}
def oneMore (ns:List Nat) (id i j:Nat):Prop:=ns[i]? = some j∨(i=ns.length∧j=id)
theorem fnU_new {f:Nat} {args args0 cs cs':List AV} {r r':AV} {at_:At} {id:Nat} (ns:List Nat) (hc:AQ1 P G f args0 [] ns.length fun x h1=>x=r∧h1=⟨[(ns.length,.cells cs)],ns.length+1⟩) (hGp:AR2 G) (hin:∀ n ∈ ns,∃ o,at_ n=some o)
  (ha:RnL (enter ns) args args0) (hr:RnV (oneMore ns id) r r') (hcs:RnL (oneMore ns id) cs cs'):FnU P G f args ns at_ r' [(id,some (.cells cs'))] id:=by
 refine ⟨hc.1,fun c vs hR hG hid hat hargs=>?_⟩
 let c0:Cx:={ U:=fun i=>i < ns.length,at_:=lk [],mu:=fun i=>c.mu (ns.getD i 0),w:=c.w,hid:=fun b=>c.hid b∨∃ id o,c.at_ id=some o∧(c.mu id).1=b }
 have getD_:∀ {j n},ns[j]? = some n→ns.getD j 0=n:=fun {j n} e=>by simp [List.getD_eq_getElem?_getD,e]
 have hlt':∀ {j n},ns[j]? = some n→j < ns.length:=fun {j n} e=>(List.getElem?_eq_some_iff.1 e).1
 have hcU:∀ {j n},ns[j]? = some n→c.U n:=fun {j n} e=>by
  have hm:=List.mem_of_getElem? e
  obtain ⟨o,ho⟩:=hin n hm
  exact hR.used _ _ ((hat n hm).trans ho)
 have sub0:Sub (enter ns) c c0 :=
  ⟨fun i j (hij:ns[j]? = some i) _=>⟨hlt' hij,by show c.mu (ns.getD j 0)=_;rw [getD_ hij]⟩,rfl,fun b hb=>⟨hb.1,fun j o ho=>(by cases ho),fun hh=>hh.elim hb.3 fun ⟨i,o,ho,e⟩=>hb.2 i o ho e⟩⟩
 have hR0:Rel P c0:=⟨fun j o ho=>(by cases ho),fun j j' o o' ho _ _=>(by cases ho),fun j o ho=>(by cases ho),⟨ns.length,fun i hi=>hi⟩,fun j o ho=>(by cases ho),fun b hb=>hb.elim (hR.hidlt b) fun ⟨i,o,ho,e⟩=>e▸(hR.obj i o ho).lt⟩
 have hG0:AT0 G c0:=fun n cs hn=>D6 (AE4 (hGp n cs hn)) c c0 _ sub0 (hG n cs hn)
 have hm0:Mat c0 ⟨[],ns.length⟩:=⟨rfl,fun i=>Iff.rfl⟩
 have ha0:AE0 c0 args0 vs:=⟨by rw [hargs.1,ha.spec.1],ha.rcs sub0 hargs.2⟩
 refine (hc.2 c0 _ hR0 hG0 hm0 ha0).mono ?_
 rintro e w' ⟨v,rfl,x,h1,c2,rfl,⟨rfl,rfl⟩,hrv,hR2,hm2,he2⟩
 have hk2:c2.at_ ns.length=some (.cells cs):=by rw [hm2.at_];simp [lk]
 have hkU:c2.U ns.length:=hR2.used _ _ hk2
 have hnid:∀ {j},c.U j→j ≠ id:=fun h e=>hid (e▸h)
 let c':Cx:={ U:=fun i=>c.U i∨i=id,at_:=upd c.at_ [(id,some (.cells cs'))],mu:=fun i=>if i=id then c2.mu ns.length else c.mu i,w:=c2.w,hid:=c.hid }
 have muO:∀ {j},j ≠ id→c'.mu j=c.mu j:=fun h=>if_neg h
 have muI:c'.mu id=c2.mu ns.length:=if_pos rfl
 have spec1:∀ j o,c'.at_ j=some o→(j ≠ id∧c.at_ j=some o)∨(j=id∧o = .cells cs'):=fun j o ho=>by
  have ho':(if j=id then some (AObj.cells cs') else c.at_ j)=some o:=ho
  split at ho'
  ·rename_i e;cases ho';exact .inr ⟨e,rfl⟩
  ·rename_i e;exact .inl ⟨e,ho'⟩
 have hidO:∀ j o,c.at_ j=some o→c2.hid (c.mu j).1:=fun j o ho=>(he2.hid _).2 (.inr ⟨j,o,ho,rfl⟩)
 have hidC:∀ b,c.hid b→c2.hid b:=fun b hb=>(he2.hid b).2 (.inl hb)
 have hfroz:∀ b,c2.Froz b→c'.Froz b:=fun b hb=>by
  refine ⟨hb.1,fun j o ho=>?_,fun hh=>hb.3 (hidC b hh)⟩
  rcases spec1 j o ho with ⟨k1,k2⟩ | ⟨rfl,_⟩
  ·rw [muO k1];exact fun e=>hb.3 (e▸hidO j o k2)
  ·rw [muI];exact hb.2 _ _ hk2
 have sub1:Sub (oneMore ns id) c2 c':=by
  refine ⟨fun i j hij hi=>?_,rfl,hfroz⟩
  rcases hij with e | ⟨rfl,rfl⟩
  ·refine ⟨.inl (hcU e),?_⟩
   rw [muO (hnid (hcU e)),he2.mu i (hlt' e)]
   show c.mu j=c.mu (ns.getD i 0)
   rw [getD_ e]
  ·exact ⟨.inr rfl,muI⟩
 have he:Ext c c':=by
  refine ⟨fun i hi=>.inl hi,fun i hi=>muO (hnid hi),he2.csz,fun b hb=>?_,he2.size,fun _=>Iff.rfl,fun b hb=>he2.hidh b (.inl hb),he2.env⟩
  have k:=he2.froz b (sub0.froz b hb)
  exact ⟨hfroz b k.1,k.2⟩
 refine ⟨v,c',rfl,rfl,hr c2 c' v sub1 hrv,?_,he,rfl,fun i=>?_⟩
 ·refine ⟨fun j o ho=>?_,fun j j' o o' ho ho' e=>?_,fun j o ho=>?_,?_,fun j o ho hh=>?_,fun b hb=>Nat.lt_of_lt_of_le (hR.hidlt b hb) he2.size⟩
  ·rcases spec1 j o ho with ⟨k1,k2⟩ | ⟨rfl,_⟩
   ·exact .inl (hR.used j o k2)
   ·exact .inr rfl
  ·rcases spec1 j o ho with ⟨k1,k2⟩ | ⟨rfl,_⟩
   ·rcases spec1 j' o' ho' with ⟨k1',k2'⟩ | ⟨rfl,_⟩
    ·rw [muO k1,muO k1'] at e;exact hR.inj j j' _ _ k2 k2' e
    ·rw [muO k1,muI] at e;exact absurd (e▸hidO j o k2) (hR2.nohid _ _ hk2)
   ·rcases spec1 j' o' ho' with ⟨k1',k2'⟩ | ⟨rfl,_⟩
    ·rw [muO k1',muI] at e;exact absurd (e▸hidO j' o' k2') (hR2.nohid _ _ hk2)
    ·rfl
  ·rcases spec1 j o ho with ⟨k1,k2⟩ | ⟨rfl,rfl⟩
   ·rw [muO k1];exact (hR.obj j o k2).ext he (he2.hidh _ (.inr ⟨j,o,k2,rfl⟩))
   ·rw [muI]
    obtain ⟨a,T,q1,q2⟩:=hR2.obj _ _ hk2
    exact ⟨a,T,q1,hcs.rc1 sub1 q2⟩
  ·obtain ⟨N,hN⟩:=hR.many
   exact ⟨max N (id+1),fun i hi=>hi.elim (fun h=>Nat.lt_of_lt_of_le (hN i h) (Nat.le_max_left ..)) fun h=>by subst h;exact Nat.lt_of_lt_of_le (Nat.lt_succ_self _) (Nat.le_max_right ..)⟩
  ·rcases spec1 j o ho with ⟨k1,k2⟩ | ⟨rfl,_⟩
   ·rw [muO k1] at hh;exact hR.nohid j o k2 hh
   ·rw [muI] at hh;exact hR2.nohid _ _ hk2 (hidC _ hh)
 ·have : w9 [(id,some (AObj.cells cs'))] id=[id]:=by simp [w9]
  rw [this];simp;rfl
theorem dcx_new {f:Nat} {args args0 cs cs':List AV} {r r':AV} {h:Hp} {K:AV→Up→List Nat→Prop} (ns:List Nat) (hc:AQ1 P G f args0 [] ns.length fun x h1=>x=r∧h1=⟨[(ns.length,.cells cs)],ns.length+1⟩) (hGp:AR2 G) (hin:∀ n ∈ ns,∃ o,lk h.l n=some o)
  (ha:RnL (enter ns) args args0) (hr:RnV (oneMore ns h.next) r r') (hcs:RnL (oneMore ns h.next) cs cs') (hk:K r' [(h.next,some (.cells cs'))] ns):AR4 P G f args h K:=⟨r',_,ns,fnU_new ns hc hGp hin ha hr hcs,hk⟩
end
theorem appx_q {qa qb:Prop} {α:Type} {L:List α} {l:List (Nat × AObj)} {nx sz bytes d:Nat} {x:AV} {k:AV→Up→List Nat→Prop} (hq:X5 ((L.length=0→qa)∧(L.length ≠ 0→qb))) (h:X5 (L.length=0→qa)→X5 (L.length ≠ 0→qb)→AppX l nx sz bytes (Ag1 d sz L.length) x k):AppX l nx sz bytes (Ag1 d sz L.length) x k:=h ⟨hq.out.1⟩ ⟨hq.out.2⟩
end Go.Am
namespace Go.Pol
open Go.Am
end Go.Pol
namespace Go.Proofs.YtphggldkligldaaGreat.Sh
open Go Go.Am Go.Pol
def An0 (n:Int):List AV:=[.int .i64 n]
theorem AV4 (n:Int):(An0 n).length=1:=rfl
theorem AE5 (n:Int):∀ x ∈ An0 n,Plain x:=fun x hx=>by obtain rfl:=List.mem_singleton.1 hx;exact A8
theorem Ad1 {l:List Int}:Plain (.isl (l.map An0)):=o8 fun e he=>by
 obtain ⟨n,_,rfl⟩:=List.mem_map.1 he;exact AE5 n
theorem wk_frzI {σ:Nat→Nat} {h h':Hp} {d:Nat} {L:List Int} (hi:L.length ≠ 0→lk h.l d=some (.cells (flat An0 L))) (hi':∀ j o,lk h'.l j=some o→σ j ≠ d) (hs:AI3 σ h h'):WkV Tryz.prog σ h h' (Ag1 d 1 L.length) (.isl (L.map An0)):=by
 by_cases hz:L.length=0
 ·rw [hz,BU7,List.eq_nil_of_length_eq_zero hz];exact Ao6
 ·rw [Aq5 hz]
  refine Au9 (hi hz) hi' hs (by simp) (fun e he=>?_) ?_ fun e he x hx=>?_
  ·obtain ⟨s,_,rfl⟩:=List.mem_map.1 he;rfl
  ·rw [List.drop_zero,List.take_of_length_le (by rw [AP8 AV4];exact Nat.le_refl _)];rfl
  ·obtain ⟨s,_,rfl⟩:=List.mem_map.1 he;exact AE5 s x hx
structure LocTX (f:Nat) (avs:List AV) (t:TS) (s:Sy) (r:AV) (s':Sy):Prop where
 out:AQ1 Tryz.prog G0 f (.ptr 0 0 :: .ptr 5 0::avs) (rdN t s 0 1 2 3 4 5) 6 fun x h1=>x=r∧h1=⟨rdN t s' 0 1 2 3 4 5,6⟩
 pa:∀ x ∈ avs,Plain x
 pr:Plain r
theorem BQ2 {top:Bool} {h:Hp} {N0:Nat} {x r:AV} {t:TS} {s:Sy} (hr:AI3 (rn []) h ⟨rdN t s 0 1 2 3 4 5,6⟩→WkV Tryz.prog (rn []) h ⟨rdN t s 0 1 2 3 4 5,6⟩ x r) (h0:lk h.l 0=some (.cells (tabC 1 4 t.C))) (h1:lk h.l 1=some (.cells [.sl 2 0 t.n t.n 7,.sl 3 0 t.m t.m 3,.int .i64 (t.S.fr:Nat)])) (h2:lk h.l 2=some (.cells (C9 t.n t.V t.W t.V3 t.V4 t.S.L t.S.N t.S.P))) (h3:lk h.l 3=some (.cells (J5 t.m t.S.A t.S.B t.S.C))) (h4:lk h.l 4=some (.maps (t.E.map AG8))) (h5:lk h.l 5=some (.cells s.a)) (hN0:N0≤6:=by decide) :
  AR3 top Tryz.prog N0 h x (fun r' h'=>r'=r∧h'=⟨rdN t s 0 1 2 3 4 5,6⟩):=by
 have hs:AI3 (rn []) h ⟨rdN t s 0 1 2 3 4 5,6⟩:=fun i o hi=>by
  simp only [rdN,lk] at hi
  show ∃ o',lk h.l i=some o'
  split at hi
  ·rename_i e;subst e;exact ⟨_,h0⟩
  ·split at hi
   ·rename_i e;subst e;exact ⟨_,h1⟩
   ·split at hi
    ·rename_i e;subst e;exact ⟨_,h2⟩
    ·split at hi
     ·rename_i e;subst e;exact ⟨_,h3⟩
     ·split at hi
      ·rename_i e;subst e;exact ⟨_,h4⟩
      ·split at hi
       ·rename_i e;subst e;exact ⟨_,h5⟩
       ·cases hi
 refine j6 [] rfl hN0 (L6 rfl) (hr hs) ?_ ⟨rfl,rfl⟩
 exact AH7 hs (show 0 < 6 by decide) h0 rfl (show 1 < 6 by decide) rfl (show 4 < 6 by decide)
  (J3 (show 1 < 6 by decide) h1 (D5 (j4 rfl (show 2 < 6 by decide) rfl (Nat.le_refl _) (Nat.le_refl _)) (D5 (j4 rfl (show 3 < 6 by decide) rfl (Nat.le_refl _) (Nat.le_refl _)) (D5 (L8 rfl) J4)))
  (E8 hs (show 2 < 6 by decide) h2 rfl F5 (E8 hs (show 3 < 6 by decide) h3 rfl F8 (x9 hs (show 4 < 6 by decide) h4 rfl H9 (E8 hs (show 5 < 6 by decide) h5 rfl G8 J6)))))
theorem cx_tx {f:Nat} {avs:List AV} {t:TS} {s s':Sy} {a b c d e g nx:Nat} {l:List (Nat × AObj)} {r:AV} {K:AV→Hp→Prop} (hc:LocTX f avs t s r s')
  (h0:lk l a=some (.cells (tabC b e t.C))) (h1:lk l b=some (.cells [.sl c 0 t.n t.n 7,.sl d 0 t.m t.m 3,.int .i64 (t.S.fr:Nat)])) (h2:lk l c=some (.cells (C9 t.n t.V t.W t.V3 t.V4 t.S.L t.S.N t.S.P))) (h3:lk l d=some (.cells (J5 t.m t.S.A t.S.B t.S.C))) (h4:lk l e=some (.maps (t.E.map AG8))) (h5:lk l g=some (.cells s.a))
  (hlt:a < nx∧b < nx∧c < nx∧d < nx∧e < nx∧g < nx) (hd:AY6 [a,b,c,d,e,g]=true)
  (hk:AG1 [a,b,c,d,e,g] l fun l2=>K r ⟨rdN t s' a b c d e g++l2,nx⟩):AB8 Tryz.prog G0 (.fn f [] []) (.ptr a 0 :: .ptr g 0::avs) ⟨l,nx⟩ K:=by
 have e0:enter [a,b,c,d,e,g] a 0:=rfl
 have e1:enter [a,b,c,d,e,g] b 1:=rfl
 have e2:enter [a,b,c,d,e,g] c 2:=rfl
 have e3:enter [a,b,c,d,e,g] d 3:=rfl
 have e4:enter [a,b,c,d,e,g] e 4:=rfl
 have e5:enter [a,b,c,d,e,g] g 5:=rfl
 have k0:back [a,b,c,d,e,g] nx 0 a:=rfl
 have k1:back [a,b,c,d,e,g] nx 1 b:=rfl
 have k2:back [a,b,c,d,e,g] nx 2 c:=rfl
 have k3:back [a,b,c,d,e,g] nx 3 d:=rfl
 have k4:back [a,b,c,d,e,g] nx 4 e:=rfl
 have k5:back [a,b,c,d,e,g] nx 5 g:=rfl
 refine AA9 (l1:=rdN t s' a b c d e g) [a,b,c,d,e,g] hc.out I7 hd
  (.cons e0 h0 (AF2 e1 e4) (.cons e1 h1 ⟨J7 e2,J7 e3,D6 A8,trivial⟩ (.cons e2 h2 P6 (.cons e3 h3 V8 (.maps e4 h4 H9 (.cons e5 h5 (C8 G8) .nil))))))
  ?_ (by intro x hx;simp only [List.mem_cons,List.not_mem_nil,or_false] at hx;omega) (D6 hc.pr)
  (.cons k0 (AF2 k1 k4) (.cons k1 ⟨J7 k2,J7 k3,D6 A8,trivial⟩ (.cons k2 P6 (.cons k3 V8 (.maps k4 H9 (.cons k5 (C8 G8) .nil)))))) hk
 simp only [List.nil_append,List.append_nil]
 exact ⟨H8 e0,H8 e5,C8 hc.pa⟩
section
variable {L:List Vw} {t:TS} {s:Sy} {v:Vw} {fs:List Nat}
end
end Go.Proofs.YtphggldkligldaaGreat.Sh
