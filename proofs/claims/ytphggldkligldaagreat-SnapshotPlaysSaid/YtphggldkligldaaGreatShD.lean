/-
 take,Map,Unmap,Split.
 Split.
 What All yields: walked,Save.
 Save.
-/
import Derived.Test.YtphggldkligldaaGreatShC
set_option linter.unusedSimpArgs false
set_option linter.unusedVariables false
set_option maxHeartbeats 1600000
namespace Go.Proofs.YtphggldkligldaaGreat.Sh
open Go Go.Am Go.Pol
theorem wx_Yhn {p q:Prop} (hq:q) (h:R7 q→p:=by (intro hQz;((repeat' ((try (conv=>whnf));first|refine sxA ?_|refine mdel_of hmf hcut rfl rfl rfl ?_|refine J2 (hC) ?_|refine E9 (by rw [tab_len];omega) hset ?_|refine sxN ?_|refine y9 (by assumption) rfl rfl rfl (by decide) (by first|(simp [A8,A9];done)|fail) AM6 rfl ?_|refine AT1 (by assumption) rfl rfl rfl (by first|(simp [A8,A9];done)|fail) AM6 rfl rfl ?_|refine sxH ?_|((with_reducible first|apply L8 hQz|apply L9 hQz)<;>(try intro hsp hQz))|exact hQz.out))<;>(try (conv=>whnf))))):p:=h ⟨hq⟩
theorem wx_Yh {p q:Prop} (hq:q) (h:R7 q→p:=by (intro hQz;((repeat' ((try (conv=>whnf));first|refine sxA ?_|refine J2 (by with_reducible assumption) ?_|refine BL8 hmf hj rfl rfl rfl rfl ?_|refine mlook_no (by assumption) rfl rfl rfl ?_|refine BU3 rfl (by with_reducible assumption) ?_|refine sxF ?_|refine Ab4 (by assumption) rfl (by omega) ?_|refine AB3 (by assumption) rfl rfl rfl rfl rfl (by decide) rfl ?_|(refine O6 D9 b119 rfl ?_;unfold c119)|refine G7 (by assumption) ?_|refine sxH ?_|((with_reducible first|apply L8 hQz|apply L9 hQz)<;>(try intro hsp hQz))|exact hQz.out))<;>(try (conv=>whnf))))):p:=h ⟨hq⟩
section
variable {L:List Vw} {t:TS} {v:Vw} {s:Nat}
theorem t_take (h:TOk L t) (hs:s ∈ t.Q v.1) (hu:t.U s=v) :
  ∃ t' A B X Y,L=A++v::B∧TOk (A++B) t'∧t.Q v.1=X++s::Y∧t'.Q=AN8 t.Q v.1 (X++Y)∧t'.U=t.U∧AA9 147 [.int .i64 (s:Nat)] t (.agg (vwC v)) t':=by
 obtain ⟨X,Y,A,B,hQ,hL,hX,hY,hsX,hsY⟩:=h.around hs hu
 have hv:v ∈ L:=by rw [hL];simp
 have hok:=h.ok v hv
 have hm:v.1 < t.m:=by rw [h.hm];exact hok.1
 have hent:=h.entry hs hu
 obtain ⟨j,hmf,_,hj⟩:=mf_yes h.keys hent
 obtain ⟨S',h1,h2⟩:=p_take h.pool.inv h.pool.n_le (s:=s) (i:=v.1) ⟨hm,hQ⟩
 have hv4:=h.val v.1 s hs
 rw [hu] at hv4
 rw [hv4.1,hv4.2.1,hv4.2.2.1,hv4.2.2.2] at h2
 have hgood:GoodP t.n t.m (O1 t.V s z0) (O1 t.W s w0) (O1 t.V3 s w0) (O1 t.V4 s b0) (AN8 t.Q v.1 (X++Y)) S':=⟨h1,h.pool.m_le,h.pool.n_le,h.pool.n_pos⟩
 have hT:=h.cut hu hQ hL hX hY hsX hsY hj hgood
 have hC:(tabC 1 4 t.C)[2+v.2.2.1]? = some (.int .i64 (t.C v.2.2.1:Nat)):=tab_get hok.2.2
 have hC1:0 < t.C v.2.2.1:=by rw [h.cnt,hL,AD1,AC1,if_pos rfl];omega
 have hC2:t.C v.2.2.1≤2000:=by rw [h.cnt];exact Nat.le_trans (List.length_filter_le ..) h.len
 have hset:(tabC 1 4 t.C).set (2+v.2.2.1) (.int .i64 ((t.C v.2.2.1:Nat) - 1:Int))=tabC 1 4 (BI2 t.C v.2.2.1 (t.C v.2.2.1 - 1)):=tab_set (by omega)
 have hcut:=cut_E (E:=t.E) (j:=j)
 refine ⟨_,A,B,X,Y,hL,hT,hQ,rfl,rfl,AA9.mk (E8 D9 b147 rfl ?_) AP2 O4⟩
 unfold c147
 obtain ⟨va,vk,vf,vw⟩:=v
 have h2':AL3 176 [.int .i64 (s:Nat)] t.n t.m (AA4 t.n t.m t.V t.W t.V3 t.V4 t.S) (.tup [.agg [.int .i64 (va:Nat),.int .i64 (vk:Nat),.int .i64 (vf:Nat),.bool vw],.int .i64 0]) (AA4 t.n t.m (O1 t.V s z0) (O1 t.W s w0) (O1 t.V3 s w0) (O1 t.V4 s b0) S'):=h2
 unfold vwC
 dsimp only at *
 (refine wx_Yhn ?_;repeat' (first|with_reducible refine And.intro ?_ ?_|intro hsp))
 all_goals exact V7 rfl M5 rfl rfl rfl rfl rfl
theorem plain_vl {a b c:Int} {w:Bool}:∀ x ∈ [AV.agg [.int .i64 a,.int .i64 b,.int .i64 c,.bool w]],Plain x:=fun x hx=>by
 obtain rfl:=List.mem_singleton.1 hx;exact M5
theorem k_right (a k f:Int) (w:Bool):E5 150 [.agg [.int .i64 a,.int .i64 k,.int .i64 f,.bool w]] (.bool (decide (inR 64 a∧inR 1024 k∧inR 1024 f))):=by
 refine E5.mk (I5 D9 b150 F3 ⟨M5,trivial⟩ A9 rfl ?_)
 unfold c150
 have ha:=AR3 a
 have hk:=k_pages2 k f
 by_cases h1:inR 64 a<;>by_cases h2:(inR 1024 k∧inR 1024 f)
 all_goals first|rw [if_pos h1] at ha|rw [if_neg h1] at ha
 all_goals first|rw [if_pos h2] at hk|rw [if_neg h2] at hk
 all_goals (refine wx_Yh ?_;repeat' (first|with_reducible refine And.intro ?_ ?_|intro hsp))
 all_goals exact J7 (by first|(simp [h1,h2];done)|(symm;rw [decide_eq_false_iff_not];intro h3;first|exact h1 h3.1|exact h2 h3.2)|(symm;rw [decide_eq_true_eq];exact ⟨h1,h2⟩))
theorem right_ok (hv:v.1 < 64∧v.2.1 < 1024∧v.2.2.1 < 1024):inR 64 (v.1:Nat)∧inR 1024 (v.2.1:Nat)∧inR 1024 (v.2.2.1:Nat):=⟨AZ3 hv.1,Al9 hv.2.1,Al9 hv.2.2⟩
theorem t_Map (h:TOk L t) (hv:v.1 < 64∧v.2.1 < 1024∧v.2.2.1 < 1024) (hn:∀ u ∈ L,¬ atV (v.1,v.2.1) u) (hl:L.length < 2000):∃ t',TOk (AZ2 v L) t'∧AA9 93 [.agg (vwC v)] t (.int .i64 0) t':=by
 have hmf:=mf_no (h.noentry hn)
 have hlen:(t.E.map AK9).length=L.length:=by rw [List.length_map,h.elen]
 obtain ⟨t',h1,_,_,hput⟩:=t_put h hv hn hl
 refine ⟨t',h1,?_⟩
 obtain ⟨va,vk,vf,vw⟩:=v
 have hr:=k_right (va:Nat) (vk:Nat) (vf:Nat) vw
 rw [decide_eq_true (right_ok hv)] at hr
 unfold vwC at hput ⊢
 dsimp only at *
 refine AA9.mk (E8 D9 b93 rfl ?_) plain_vl A8
 unfold c93
 generalize L.length=n at *
 (refine wx_Yh ?_;repeat' (first|with_reducible refine And.intro ?_ ?_|intro hsp))
 all_goals exact V7 rfl A8 rfl rfl rfl rfl rfl
theorem AX7 {a b c:Int}:Plain (.tup [.int .i64 a,.int .i64 b,.int .i64 c]):=H7 fun x hx=>by
 simp only [List.mem_cons,List.not_mem_nil,or_false] at hx
 rcases hx with rfl|rfl|rfl<;>exact A8
theorem t_Unmap_no (a k:Int) (hn:¬ (inR 64 a∧inR 1024 k)):AA9 94 [.int .i64 a,.int .i64 k] t (.tup [.int .i64 0,.int .i64 0,.int .i64 7]) t:=by
 have hf:=BI7 (t:=t) a k hn
 refine AA9.mk (E8 D9 b94 rfl ?_) H6 AX7
 unfold c94
 (refine wx_Yh ?_;repeat' (first|with_reducible refine And.intro ?_ ?_|intro hsp))
 all_goals exact V7 rfl AX7 rfl rfl rfl rfl rfl
theorem BI8 (h:TOk L t) {a k:Nat} (ha:a < 64) (hk:k < 1024) (hn:∀ v ∈ L,¬ atV (a,k) v):AA9 94 [.int .i64 (a:Nat),.int .i64 (k:Nat)] t (.tup [.int .i64 0,.int .i64 0,.int .i64 4]) t:=by
 have hf:=Aq2 ha hk (h.noentry hn)
 refine AA9.mk (E8 D9 b94 rfl ?_) H6 AX7
 unfold c94
 (refine wx_Yh ?_;repeat' (first|with_reducible refine And.intro ?_ ?_|intro hsp))
 all_goals exact V7 rfl AX7 rfl rfl rfl rfl rfl
theorem t_Unmap (h:TOk L t) (hs:s ∈ t.Q v.1) (hu:t.U s=v) :
  ∃ t' A B X Y,L=A++v::B∧TOk (A++B) t'∧t.Q v.1=X++s::Y∧t'.Q=AN8 t.Q v.1 (X++Y)∧t'.U=t.U∧AA9 94 [.int .i64 (v.1:Nat),.int .i64 (v.2.1:Nat)] t (.tup [.int .i64 (v.2.2.1:Nat),.int .i64 (cntF (A++B) v.2.2.1:Nat),.int .i64 0]) t':=by
 obtain ⟨t',A,B,X,Y,hL,h1,hQ,h2,h3,htake⟩:=t_take h hs hu
 have hok:=h.ok v (by rw [hL];simp)
 have hf:=t_find hok.1 hok.2.1 h.keys (h.entry hs hu)
 have hC:(tabC 1 4 t'.C)[2+v.2.2.1]? = some (.int .i64 (cntF (A++B) v.2.2.1:Nat)):=by rw [← h1.cnt];exact tab_get hok.2.2
 refine ⟨t',A,B,X,Y,hL,h1,hQ,h2,h3,AA9.mk (E8 D9 b94 rfl ?_) H6 AX7⟩
 unfold c94
 obtain ⟨va,vk,vf,vw⟩:=v
 unfold vwC at htake
 dsimp only at *
 (refine wx_Yh ?_;repeat' (first|with_reducible refine And.intro ?_ ?_|intro hsp))
 all_goals exact V7 rfl AX7 rfl rfl rfl rfl rfl
end
end Go.Proofs.YtphggldkligldaaGreat.Sh
namespace Go.Proofs.YtphggldkligldaaGreat.Sh
open Go Go.Am Go.Pol
theorem wx_Yin {p q:Prop} (hq:q) (h:R7 q→p:=by (intro hQz;((repeat' ((try (conv=>whnf));first|refine sxA ?_|refine J2 (by with_reducible assumption) ?_|refine E9 (by rw [tab_len];omega) e1 ?_|refine E9 (by rw [tab_len];omega) e2 ?_|refine sxN ?_|(refine O6 D9 b119 rfl ?_;unfold c119)|refine Ab4 (by assumption) rfl (by omega) ?_|refine AB3 (by assumption) rfl rfl rfl rfl rfl (by decide) rfl ?_|refine y9 (by assumption) rfl rfl rfl (by decide) (by first|exact AK7|(simp [A8,A9];done)|fail) (by first|exact AM6|exact A8|fail) rfl ?_|refine AT1 (by assumption) rfl rfl rfl (by first|exact AK7|(simp [A8,A9];done)|fail) (by first|exact AM6|exact A8|fail) rfl rfl ?_|refine sxH ?_|((with_reducible first|apply L8 hQz|apply L9 hQz)<;>(try intro hsp hQz))|exact hQz.out))<;>(try (conv=>whnf))))):p:=h ⟨hq⟩
section
variable {L:List Vw} {t:TS} {v:Vw} {s:Nat}
theorem plain_i3 {a b c:Int}:∀ x ∈ [AV.int .i64 a,.int .i64 b,.int .i64 c],Plain x:=fun x hx=>by
 simp only [List.mem_cons,List.not_mem_nil,or_false] at hx
 rcases hx with rfl|rfl|rfl<;>exact A8
def frV (f:Nat) (v:Vw):Vw:=(v.1,v.2.1,f,true)
theorem t_Split (h:TOk L t) (hs:s ∈ t.Q v.1) (hu:t.U s=v) {f:Nat} (hf:f < 1024) (hc:cntF L f=0) :
  ∃ t' A B,L=A++v::B∧TOk (A++frV f v::B) t'∧AA9 96 [.int .i64 (v.1:Nat),.int .i64 (v.2.1:Nat),.int .i64 (f:Nat)] t (.int .i64 0) t':=by
 obtain ⟨X,Y,A,B,hQ,hL,hX,hY,hsX,hsY⟩:=h.around hs hu
 have hv:v ∈ L:=by rw [hL];simp
 have hok:=h.ok v hv
 have hm:v.1 < t.m:=by rw [h.hm];exact hok.1
 have hk1:=Ae3 (f:Nat)
 rw [if_pos (Al9 hf)] at hk1
 have hfi:=t_find hok.1 hok.2.1 h.keys (h.entry hs hu)
 have hget:=h.get hs
 rw [hu] at hget
 have hcf:t.C f=0:=by rw [h.cnt,hc]
 have hne:f ≠ v.2.2.1:=fun e=>by subst e;rw [hL,AD1,AC1,if_pos rfl] at hc;omega
 have hC1:0 < t.C v.2.2.1:=by rw [h.cnt,hL,AD1,AC1,if_pos rfl];omega
 have hC2:t.C v.2.2.1≤2000:=by rw [h.cnt];exact Nat.le_trans (List.length_filter_le ..) h.len
 have g1:(tabC 1 4 t.C)[2+f]? = some (.int .i64 0):=by have:=tab_get (p:=1) (m:=4) (C:=t.C) hf;rw [hcf] at this;exact this
 have g2:(tabC 1 4 t.C)[2+v.2.2.1]? = some (.int .i64 (t.C v.2.2.1:Nat)):=tab_get hok.2.2
 have e1:(tabC 1 4 t.C).set (2+v.2.2.1) (.int .i64 ((t.C v.2.2.1:Nat) - 1:Int))=tabC 1 4 (BI2 t.C v.2.2.1 (t.C v.2.2.1 - 1)):=tab_set (by omega)
 generalize hC':BI2 t.C v.2.2.1 (t.C v.2.2.1 - 1)=C1 at *
 have hc1f:C1 f=0:=by rw [← hC'];unfold BI2;rw [if_neg hne,hcf]
 have g3:(tabC 1 4 C1)[2+f]? = some (.int .i64 0):=by have:=tab_get (p:=1) (m:=4) (C:=C1) hf;rw [hc1f] at this;exact this
 have e2:(tabC 1 4 C1).set (2+f) (.int .i64 1)=tabC 1 4 (BI2 C1 f 1):=tab_set rfl
 obtain ⟨i1,hput⟩:=p_put h.pool.inv (s:=s) (i:=v.1) ⟨hm,hQ⟩ (num v.1) (num v.2.1) (num f) (bo true)
 have hT:=h.chg (w:=frV f v) (C:=BI2 C1 f 1) hu hQ hL hX hY hsX hsY rfl rfl hf (fun x=>by
  rw [AD1,AC1]
  have hx:=h.cnt x
  rw [hL,AD1,AC1] at hx
  have hv2:=h.cnt v.2.2.1
  rw [hL,AD1,AC1,if_pos rfl] at hv2
  show BI2 C1 f 1 x=cntF A x+((if f=x then 1 else 0)+cntF B x)
  rw [← hC']
  unfold BI2
  by_cases h1:x=f
  ·subst h1;rw [if_pos rfl,if_pos rfl];rw [if_neg (Ne.symm hne)] at hx;omega
  ·rw [if_neg h1,if_neg (Ne.symm h1)]
   by_cases h2:x=v.2.2.1
   ·subst h2;rw [if_pos rfl];omega
   ·rw [if_neg h2];rw [if_neg (Ne.symm h2)] at hx;omega) ⟨i1,h.pool.m_le,h.pool.n_le,h.pool.n_pos⟩
 refine ⟨_,A,B,hL,hT,AA9.mk (E8 D9 b96 rfl ?_) plain_i3 A8⟩
 unfold c96
 obtain ⟨va,vk,vf,vw⟩:=v
 have hput':AL3 146 [.int .i64 (s:Nat),.agg [.int .i64 (va:Nat),.int .i64 (vk:Nat),.int .i64 (f:Nat),.bool true]] t.n t.m (AA4 t.n t.m t.V t.W t.V3 t.V4 t.S) (.int .i64 0) (AA4 t.n t.m (O1 t.V s (num va)) (O1 t.W s (num vk)) (O1 t.V3 s (num f)) (O1 t.V4 s (bo true)) t.S):=hput
 unfold vwC at hget
 dsimp only at *
 clear hput
 (refine wx_Yin ?_;repeat' (first|with_reducible refine And.intro ?_ ?_|intro hsp))
 all_goals exact V7 rfl A8 rfl rfl rfl rfl rfl
end
end Go.Proofs.YtphggldkligldaaGreat.Sh
namespace Go.Proofs.YtphggldkligldaaGreat.Sh
open Go Go.Am Go.Pol
theorem AA3 (v:Vw):∀ x ∈ vwC v,Plain x:=X9
theorem K9 (v:Vw):(vwC v).length=4:=rfl
theorem J3 {L:List Vw}:Plain (.isl (L.map vwC)):=AD2 fun e he=>by
 obtain ⟨v,_,rfl⟩:=List.mem_map.1 he;exact X9
theorem G8 {L:List Vw}:Plain (.agg [.isl (L.map vwC)]):=P9 fun x hx=>by
 obtain rfl:=List.mem_singleton.1 hx;exact J3

theorem Ao0 {top:Bool} {h:Hp} {N0:Nat} {x r:AV} {t:TS} (hr:AG8 (rn []) h ⟨tabS t,5⟩→WkV Tryz.prog (rn []) h ⟨tabS t,5⟩ x r) (h0:lk h.l 0=some (.cells (tabC 1 4 t.C))) (h1:lk h.l 1=some (.cells [.sl 2 0 t.n t.n 7,.sl 3 0 t.m t.m 3,.int .i64 (t.S.fr:Nat)])) (h2:lk h.l 2=some (.cells (D6 t.n t.V t.W t.V3 t.V4 t.S.L t.S.N t.S.P))) (h3:lk h.l 3=some (.cells (N9 t.m t.S.A t.S.B t.S.C))) (h4:lk h.l 4=some (.maps (t.E.map AK9))) (hN0:N0≤5:=by decide) :
  AU3 top Tryz.prog N0 h x (fun r' h'=>r'=r∧h'=⟨tabS t,5⟩):=by
 have hs:AG8 (rn []) h ⟨tabS t,5⟩:=fun i o hi=>by
  simp only [tabS,lk] at hi
  show ∃ o',lk h.l i=some o'
  split at hi
  ·rename_i e;subst e;exact ⟨_,h0⟩
  ·split at hi
   ·rename_i e;subst e;exact ⟨_,h1⟩
   ·split at hi
    ·rename_i e;subst e;exact ⟨_,h2⟩
    ·split at hi
     ·rename_i e;subst e;exact ⟨_,h3⟩
     ·split at hi
      ·rename_i e;subst e;exact ⟨_,h4⟩
      ·cases hi
 refine AA0 [] rfl hN0 (P6 rfl) (hr hs) ?_ ⟨rfl,rfl⟩
 exact AL7 hs (show 0 < 5 by decide) h0 rfl (show 1 < 5 by decide) rfl (show 4 < 5 by decide)
  (I4 (show 1 < 5 by decide) h1 (C8 (AE9 rfl (show 2 < 5 by decide) rfl (Nat.le_refl _) (Nat.le_refl _)) (C8 (AE9 rfl (show 3 < 5 by decide) rfl (Nat.le_refl _) (Nat.le_refl _)) (C8 (K8 rfl) F8)))
  (F5 hs (show 2 < 5 by decide) h2 rfl G9 (F5 hs (show 3 < 5 by decide) h3 rfl I7 (AD6 hs (show 4 < 5 by decide) h4 rfl K3 J8))))
theorem tab_not {t:TS} {d:Nat} (hd:5≤d):∀ j o,lk (Hp.l ⟨tabS t,5⟩) j=some o→rn [] j ≠ d:=fun j o hj=>by
 have : j < 5:=Classical.byContradiction fun hn=>by
  simp only [tabS,lk] at hj
  repeat' split at hj
  all_goals first|omega|cases hj
 show j ≠ d
 omega
theorem wk_frzW {σ:Nat→Nat} {h h':Hp} {d:Nat} {L:List Vw} (hi:L.length ≠ 0→lk h.l d=some (.cells (flat vwC L))) (hi':∀ j o,lk h'.l j=some o→σ j ≠ d) (hs:AG8 σ h h'):WkV Tryz.prog σ h h' (AN9 d 4 L.length) (.isl (L.map vwC)):=by
 by_cases hz:L.length=0
 ·rw [hz,BD1,List.eq_nil_of_length_eq_zero hz];exact AU4
 ·rw [AZ0 hz]
  refine Ac1 (hi hz) hi' hs (by simp) (fun e he=>?_) ?_ fun e he x hx=>?_
  ·obtain ⟨s,_,rfl⟩:=List.mem_map.1 he;rfl
  ·rw [List.drop_zero,List.take_of_length_le (by rw [I8 K9];exact Nat.le_refl _)];rfl
  ·obtain ⟨s,_,rfl⟩:=List.mem_map.1 he;exact X9 x hx
theorem BD3 (Q:List Nat):orErr (hd Q) 4 = .tup [.int .i64 (if Q.length=0 then 0 else hd (Q.drop 0)),.int .i64 (if Q.length=0 then 4 else 0)]:=by
 unfold orErr
 cases Q with
 | nil=>rfl
 | cons y0 L0=>rw [if_neg (show ¬ hd (y0::L0) = -1 by show ¬ ((y0:Nat):Int) = -1;omega),if_neg (show ¬ hd (y0::L0) = -1 by show ¬ ((y0:Nat):Int) = -1;omega),if_neg (by simp),if_neg (by simp)];rfl
section
variable {L:List Vw} {t:TS}
theorem TOk.len_of (h:TOk L t) (a:Nat):(ofA a L).length≤1024:=by
 have hs:Go.Pol.srt (ofA a L):=h.srt.sublist List.filter_sublist
 have h1:((ofA a L).map (·.2.1)).Nodup:=by
  refine List.Pairwise.map _ (R:=fun u v=>bef u v∧u.1=v.1) (fun u v huv=>by obtain ⟨hb,he⟩:=huv;unfold bef at hb;show u.2.1 ≠ v.2.1;omega) ?_
  refine List.Pairwise.imp_of_mem (R:=bef) (fun {u v} hu hv hb=>⟨hb,?_⟩) hs
  rw [(R5.1 hu).2,(R5.1 hv).2]
 have h2:=BM2 1024 _ h1 fun x hx=>by
  obtain ⟨v,hv,rfl⟩:=List.mem_map.1 hx
  exact (h.ok v (R5.1 hv).1).2.1
 rwa [List.length_map] at h2
theorem TOk.at_ (h:TOk L t) {a k:Nat} (hk:k < (t.Q a).length):nth 0 (t.Q a) k < t.n∧hd ((t.Q a).drop k)=(nth 0 (t.Q a) k:Nat)∧t.S.N (nth 0 (t.Q a) k)=hd ((t.Q a).drop (k+1))∧nth dV (ofA a L) k=t.U (nth 0 (t.Q a) k)∧nth 0 (t.Q a) k ∈ t.Q a∧((D6 t.n t.V t.W t.V3 t.V4 t.S.L t.S.N t.S.P).drop (nth 0 (t.Q a) k * 7)).take 4=vwC (t.U (nth 0 (t.Q a) k)):=by
 have hm:=AB6 (d:=0) hk
 have hlt:=(h.pool.inv.st.us a _ hm).1
 refine ⟨hlt,by rw [N8 hk,List.drop_eq_getElem_cons hk];rfl,(h.pool.inv.st.ch a ((t.Q a).take k) (nth 0 (t.Q a) k) ((t.Q a).drop (k+1)) (by rw [N8 hk,← List.drop_eq_getElem_cons hk,List.take_append_drop])).1,?_,hm,?_⟩
 ·rw [← h.lst,N8 (by rw [List.length_map];exact hk),N8 hk,List.getElem_map]
 ·rw [tkV hlt]
  obtain ⟨e1,e2,e3,e4⟩:=h.val a _ hm
  rw [e1,e2,e3,e4];rfl
theorem TOk.lenQ (h:TOk L t) (a:Nat):(ofA a L).length=(t.Q a).length:=by rw [← h.lst,List.length_map]
end
end Go.Proofs.YtphggldkligldaaGreat.Sh
namespace Go.Pol
def upto (a:Nat) (L:List Vw):List Vw:=L.filter fun v=>decide (v.1 < a)
theorem upto_s {L:List Vw} (h:srt L) (a:Nat):upto (a+1) L=upto a L++ofA a L:=by
 refine BC1 (h.sublist List.filter_sublist) (List.pairwise_append.2 ⟨h.sublist List.filter_sublist,h.sublist List.filter_sublist,fun u hu v hv=>?_⟩) fun v=>?_
 ·have h1:=(List.mem_filter.1 hu).2
  have h2:=(R5.1 hv).2
  simp only [decide_eq_true_eq] at h1
  unfold bef;omega
 ·unfold upto ofA
  simp only [List.mem_append,List.mem_filter,decide_eq_true_eq]
  constructor
  ·rintro ⟨h1,h2⟩
   rcases Nat.lt_or_ge v.1 a with h3|h3
   ·exact .inl ⟨h1,h3⟩
   ·exact .inr ⟨h1,by omega⟩
  ·rintro (⟨h1,h2⟩ | ⟨h1,h2⟩)<;>exact ⟨h1,by omega⟩
theorem upto_all {L:List Vw} (h:∀ v ∈ L,v.1 < 64):upto 64 L=L:=by
 unfold upto;rw [List.filter_eq_self];intro v hv;simpa using h v hv
theorem upto_0 (L:List Vw):upto 0 L=[]:=by unfold upto;rw [List.filter_eq_nil_iff];intro v _;simp
theorem upto_le (L:List Vw) (a:Nat):(upto a L).length≤L.length:=List.length_filter_le ..
end Go.Pol
namespace Go.Proofs.YtphggldkligldaaGreat.Sh
open Go Go.Am Go.Pol
theorem ppx_Yk {p:Prop} (h:p:=by ((first|with_reducible assumption|(with_reducible first|apply x9|apply G9|apply I7|apply V6|apply T9 _ _|apply X9|apply K7 AA3|fail)|exact ppw|fail);first|done|fail)):p:=h
open Go.Proofs.YtphggldkligldaaGreat.Sh renaming plx_Yf → plx
open Go.Proofs.YtphggldkligldaaGreat.Sh renaming ppx_Yk → ppx
theorem wx_Yk {p q:Prop} (hq:q) (h:R7 q→p:=by (intro hQz;((repeat' ((try (conv=>whnf));first|refine sxA ?_|refine J2 (gc2 hx) ?_|refine Y5 (by rw [F7];omega) rfl (Y0 (by rw [List.length_drop,F7];omega) hcell ?_)|refine sxF ?_|refine y9 (by assumption) rfl rfl rfl (by decide) (by first|(simp [A8,A9];done)|fail) F4 rfl ?_|refine An7 rfl ?_|(refine O6 D9 b140 rfl ?_;unfold c140)|(refine O6 D9 b174 rfl ?_;unfold c174)|refine AT2 D9 rfl hF2 hA2 hB2 rfl ?_|refine AT2 D9 rfl hF hA hB rfl ?_|refine AA2 (f:=vwC) (l2:=[(ua,uk,uf,uw)]) K9 (Y7 rfl rfl) (fun hz=>by first|(simp [lk,G5 hz];done)|exact G5 hz) (fun hz=>by first|(simp [lk,j6 hz];done)|exact j6 hz) rfl (by decide) ⟨by omega,by omega⟩ rfl ?_|(refine AA1 (f:=vwC) (l2:=[(ua,uk,uf,uw)]) K9 (Y7 rfl rfl) (fun hz=>by first|(simp [lk,G5 hz];done)|exact G5 hz) rfl (by decide) ⟨by omega,by omega⟩ ?_ ?_<;>intro hzz)|refine sxH ?_|((with_reducible first|apply L8 hQz|apply L9 hQz)<;>(try intro hsp hQz))|exact hQz.out))<;>(try (conv=>whnf))))):p:=h ⟨hq⟩
theorem wx_Ykn {p q:Prop} (hq:q) (h:R7 q→p:=by (intro hQz;((repeat' ((try (conv=>whnf));first|refine sxA ?_|refine sxN ?_|(refine O6 D9 b119 rfl ?_;unfold c119)|(refine O6 D9 b145 rfl ?_;unfold c145)|refine sxH ?_|((with_reducible first|apply L8 hQz|apply L9 hQz)<;>(try intro hsp hQz))|exact hQz.out))<;>(try (conv=>whnf))))):p:=h ⟨hq⟩
theorem lk_ownA {L:List Vw} {a b c d e f g:AObj} (hz:L.length ≠ 0):lk ((0,a)::(1,b)::(2,c)::(3,d)::(4,e)::(5,f)::[(6,g)].append (AE8 7 vwC L)) 7=some (.cells (flat vwC L)):=by
 simp [lk,G5 hz]
section
variable {L:List Vw} {t:TS}
theorem t_Save (h:TOk L t):AA9 81 [] t (.agg [.isl (L.map vwC)]) t:=by
 have hn2:t.n=2000:=h.hn
 have hlen:=h.len
 refine AA9.mk (E8 D9 b81 rfl ?_) (fun x hx=>by cases hx) G8
 unfold c81
 (refine wx_Yk ?_;repeat' (first|with_reducible refine And.intro ?_ ?_|intro hsp))
 (refine H9 [0] (fun (a:Nat)=>[(2,.ptr 5 0),(3,.ptr 6 0),(6,.int .i64 (a:Nat))]) (fun (a:Nat)=>⟨tabS t++[(5,.cells [.nils]),(6,.cells [AN9 7 4 (upto a L).length])]++AE8 7 vwC (upto a L),8⟩) (fun (a:Nat)=>a≤64) (fun (a:Nat)=>64 - a) (0) [] rfl (fun _=>by first|exact Nat.zero_le _|(dsimp only;omega)) ?_ (by ((try (conv=>whnf));(rw [upto_0]);exact wkxQ3)) ?_)
 ·exact Nat.zero_le _
 intro a ha
 by_cases ha4:a < 64
 ·have hen:=p_end h.pool.inv h.pool.n_pos (show a < t.m by rw [h.hm];exact ha4) true
  rw [if_pos rfl,BD3] at hen
  have hlo:=h.len_of a
  have hlq:=h.lenQ a
  have hup:=upto_s h.srt a
  have hul:=upto_le L (a+1)
  (refine wx_Yk ?_;repeat' (first|with_reducible refine And.intro ?_ ?_|intro hsp))
  refine AS1 D9 b171 rfl trivial ?_
  intro frl asl bdl hF hA hB
  unfold c171
  (refine wx_Ykn ?_;repeat' (first|with_reducible refine And.intro ?_ ?_|intro hsp))
  refine AS1 D9 b173 rfl trivial ?_
  intro frl2 asl2 bdl2 hF2 hA2 hB2
  unfold c173
  (refine wx_Yk ?_;repeat' (first|with_reducible refine And.intro ?_ ?_|intro hsp))
  (refine H9 [0,1,2,3] (fun (k:Nat)=>[(5,.int .i64 (if (t.Q a).length=0 then 0 else hd ((t.Q a).drop k))),(6,.int .i64 (if (t.Q a).length=0 then 4 else 0))]) (fun (k:Nat)=>⟨tabS t++[(5,.cells [.nils]),(6,.cells [AN9 21 4 (upto a L++(ofA a L).take k).length]),(8,.cells [.ptr 0 0]),(9,.cells [.int .i64 (a:Nat)]),(10,.loop .ready none frl [12] asl bdl),(11,.cells [.yld 10]),(17,.cells [.ptr 1 0]),(18,.cells [.int .i64 (a:Nat)]),(19,.cells [.bool false]),(20,.loop .ready none frl2 [15,16] asl2 bdl2)]++AE8 21 vwC (upto a L++(ofA a L).take k),22⟩) (fun (k:Nat)=>k≤(t.Q a).length) (fun (k:Nat)=>(t.Q a).length - k) (0) [(21,7)] rfl (fun _=>by first|exact Nat.zero_le _|(dsimp only;omega)) ?_ (by ((try (conv=>whnf));(rw [List.take_zero,List.append_nil]);exact wkxQ3)) ?_)
  ·exact Nat.zero_le _
  intro k hk
  by_cases hkl:k < (t.Q a).length
  ·obtain ⟨hx,hd0,hnx,hnv,hm,hcell⟩:=h.at_ hkl
   have hnx0:¬ (t.Q a).length=0:=by omega
   rw [if_neg hnx0,if_neg hnx0,hd0]
   have htk:upto a L++(ofA a L).take (k+1)=upto a L++(ofA a L).take k++[t.U (nth 0 (t.Q a) k)]:=by rw [d9 (d:=dV) (l:=ofA a L) (k:=k) (by omega),hnv,List.append_assoc]
   have hlk:(upto a L++(ofA a L).take k).length≤L.length:=by rw [hup] at hul;rw [List.length_append] at hul ⊢;rw [List.length_take];omega
   generalize nth 0 (t.Q a) k=x at *
   generalize t.U x=u at *
   obtain ⟨ua,uk,uf,uw⟩:=u
   unfold vwC at hcell
   dsimp only at hcell
   (refine wx_Yk ?_;repeat' (first|with_reducible refine And.intro ?_ ?_|intro hsp))
   all_goals exact D8 (k+1) [(21,25)] (by (try dsimp only);omega) (by first|omega|(dsimp only;omega)) rfl (by ((try dsimp only);rw [htk,if_neg hnx0]);exact wkxQ3)
  ·have hd1:hd ((t.Q a).drop k) = -1:=by rw [List.drop_of_length_le (by omega)];rfl
   rw [hd1]
   have hall:(ofA a L).take k=ofA a L:=List.take_of_length_le (by omega)
   rw [hall,← hup]
   by_cases hz:(t.Q a).length=0
   ·rw [if_pos hz,if_pos hz]
    (refine wx_Yk ?_;repeat' (first|with_reducible refine And.intro ?_ ?_|intro hsp))
    all_goals exact D8 (a+1) [(7,21)] (by (try dsimp only);omega) (by first|omega|(dsimp only;omega)) rfl (by exact wkxQ3)
   ·rw [if_neg hz,if_neg hz]
    (refine wx_Yk ?_;repeat' (first|with_reducible refine And.intro ?_ ?_|intro hsp))
    all_goals exact D8 (a+1) [(7,21)] (by (try dsimp only);omega) (by first|omega|(dsimp only;omega)) rfl (by exact wkxQ3)
 ·obtain rfl:a=64:=by omega
  have hall:=upto_all fun v hv=>(h.ok v hv).1
  (refine wx_Yk ?_;repeat' (first|with_reducible refine And.intro ?_ ?_|intro hsp))
  rw [hall]
  exact Ao0 (fun hs=>AE2 (C8 (wk_frzW (fun hz=>lk_ownA hz) (tab_not (by decide)) hs) F8)) rfl rfl rfl rfl rfl
end
end Go.Proofs.YtphggldkligldaaGreat.Sh
