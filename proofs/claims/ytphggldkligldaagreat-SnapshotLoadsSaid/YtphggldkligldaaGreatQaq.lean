/-
 take,Map,Unmap,Split.
 Split.
 What All yields: walked,Save.
 Save.
 Check of both;Of and Same of the document.
 New and Load.
 Systems in which frames are committed.
 The law's awake.
 The law's ready: a table and a system.
 Several slices of their own that grow: they stand one behind the other at the heap's end. No program in sight.
 A call that makes one block,in a region that draws its order;a call that reads alone. No program in sight.
-/
import Derived.Test.YtphggldkligldaaGreatShC
set_option linter.unusedSimpArgs false
set_option linter.unusedVariables false
set_option maxHeartbeats 1600000
namespace Go.Proofs.YtphggldkligldaaGreat.Sh
open Go Go.Am Go.Pol
theorem wx_Yhn {p q:Prop} (hq:q) (h:X0 q→p:=by (intro hQz;((repeat' ((try (conv=>whnf));first|refine sxA ?_|refine mdel_of hmf hcut rfl rfl rfl ?_|refine I4 (hC) ?_|refine E5 (by rw [tab_len];omega) hset ?_|refine sxN ?_|refine o8 (by assumption) rfl rfl rfl (by decide) (by first|(simp [A8,A9];done)|fail) AL0 rfl ?_|refine AS2 (by assumption) rfl rfl rfl (by first|(simp [A8,A9];done)|fail) AL0 rfl rfl ?_|refine sxH ?_|((with_reducible first|apply M9 hQz|apply N7 hQz)<;>(try intro hsp hQz))|exact hQz.out))<;>(try (conv=>whnf))))):p:=h ⟨hq⟩
theorem wx_Yh {p q:Prop} (hq:q) (h:X0 q→p:=by (intro hQz;((repeat' ((try (conv=>whnf));first|refine sxA ?_|refine I4 (by with_reducible assumption) ?_|refine BG8 hmf hj rfl rfl rfl rfl ?_|refine BW9 (by assumption) rfl rfl rfl ?_|refine BP3 rfl (by with_reducible assumption) ?_|refine sxF ?_|refine Aa4 (by assumption) rfl (by omega) ?_|refine AA2 (by assumption) rfl rfl rfl rfl rfl (by decide) rfl ?_|(refine M7 E9 b119 rfl ?_;unfold c119)|refine G9 (by assumption) ?_|refine sxH ?_|((with_reducible first|apply M9 hQz|apply N7 hQz)<;>(try intro hsp hQz))|exact hQz.out))<;>(try (conv=>whnf))))):p:=h ⟨hq⟩
section
variable {L:List Vw} {t:TS} {v:Vw} {s:Nat}
theorem t_take (h:TOk L t) (hs:s ∈ t.Q v.1) (hu:t.U s=v) :
  ∃ t' A B X Y,L=A++v::B∧TOk (A++B) t'∧t.Q v.1=X++s::Y∧t'.Q=AN3 t.Q v.1 (X++Y)∧t'.U=t.U∧AC1 147 [.int .i64 (s:Nat)] t (.agg (vwC v)) t':=by
 obtain ⟨X,Y,A,B,hQ,hL,hX,hY,hsX,hsY⟩:=h.around hs hu
 have hv:v ∈ L:=by rw [hL];simp
 have hok:=h.ok v hv
 have hm:v.1 < t.m:=by rw [h.hm];exact hok.1
 have hent:=h.entry hs hu
 obtain ⟨j,hmf,_,hj⟩:=mf_yes h.keys hent
 obtain ⟨S',h1,h2⟩:=p_take h.pool.inv h.pool.n_le (s:=s) (i:=v.1) ⟨hm,hQ⟩
 have hv4:=h.val v.1 s hs
 rw [hu] at hv4
 rw [hv4.1,hv4.2.1,hv4.2.2.1,hv4.2.2.2] at h2
 have hgood:BT2 t.n t.m (M5 t.V s z0) (M5 t.W s w0) (M5 t.V3 s w0) (M5 t.V4 s b0) (AN3 t.Q v.1 (X++Y)) S':=⟨h1,h.pool.m_le,h.pool.n_le,h.pool.n_pos⟩
 have hT:=h.cut hu hQ hL hX hY hsX hsY hj hgood
 have hC:(tabC 1 4 t.C)[2+v.2.2.1]? = some (.int .i64 (t.C v.2.2.1:Nat)):=tab_get hok.2.2
 have hC1:0 < t.C v.2.2.1:=by rw [h.cnt,hL,AC3,AB2,if_pos rfl];omega
 have hC2:t.C v.2.2.1≤2000:=by rw [h.cnt];exact Nat.le_trans (List.length_filter_le ..) h.len
 have hset:(tabC 1 4 t.C).set (2+v.2.2.1) (.int .i64 ((t.C v.2.2.1:Nat) - 1:Int))=tabC 1 4 (BD5 t.C v.2.2.1 (t.C v.2.2.1 - 1)):=tab_set (by omega)
 have hcut:=cut_E (E:=t.E) (j:=j)
 refine ⟨_,A,B,X,Y,hL,hT,hQ,rfl,rfl,AC1.mk (G5 E9 b147 rfl ?_) AW8 L9⟩
 unfold c147
 obtain ⟨va,vk,vf,vw⟩:=v
 have h2':AJ2 176 [.int .i64 (s:Nat)] t.n t.m (u6 t.n t.m t.V t.W t.V3 t.V4 t.S) (.tup [.agg [.int .i64 (va:Nat),.int .i64 (vk:Nat),.int .i64 (vf:Nat),.bool vw],.int .i64 0]) (u6 t.n t.m (M5 t.V s z0) (M5 t.W s w0) (M5 t.V3 s w0) (M5 t.V4 s b0) S'):=h2
 unfold vwC
 dsimp only at *
 (refine wx_Yhn ?_;repeat' (first|with_reducible refine And.intro ?_ ?_|intro hsp))
 all_goals exact X6 rfl J7 rfl rfl rfl rfl rfl
theorem plain_vl {a b c:Int} {w:Bool}:∀ x ∈ [AV.agg [.int .i64 a,.int .i64 b,.int .i64 c,.bool w]],Plain x:=fun x hx=>by
 obtain rfl:=List.mem_singleton.1 hx;exact J7
theorem k_right (a k f:Int) (w:Bool):F4 150 [.agg [.int .i64 a,.int .i64 k,.int .i64 f,.bool w]] (.bool (decide (inR 64 a∧inR 1024 k∧inR 1024 f))):=by
 refine F4.mk (I6 E9 b150 F6 ⟨J7,trivial⟩ A9 rfl ?_)
 unfold c150
 have ha:=AQ6 a
 have hk:=k_pages2 k f
 by_cases h1:inR 64 a<;>by_cases h2:(inR 1024 k∧inR 1024 f)
 all_goals first|rw [if_pos h1] at ha|rw [if_neg h1] at ha
 all_goals first|rw [if_pos h2] at hk|rw [if_neg h2] at hk
 all_goals (refine wx_Yh ?_;repeat' (first|with_reducible refine And.intro ?_ ?_|intro hsp))
 all_goals exact Q6 (by first|(simp [h1,h2];done)|(symm;rw [decide_eq_false_iff_not];intro h3;first|exact h1 h3.1|exact h2 h3.2)|(symm;rw [decide_eq_true_eq];exact ⟨h1,h2⟩))
theorem right_ok (hv:v.1 < 64∧v.2.1 < 1024∧v.2.2.1 < 1024):inR 64 (v.1:Nat)∧inR 1024 (v.2.1:Nat)∧inR 1024 (v.2.2.1:Nat):=⟨Aj6 hv.1,At5 hv.2.1,At5 hv.2.2⟩
theorem t_Map (h:TOk L t) (hv:v.1 < 64∧v.2.1 < 1024∧v.2.2.1 < 1024) (hn:∀ u ∈ L,¬ atV (v.1,v.2.1) u) (hl:L.length < 2000):∃ t',TOk (AY4 v L) t'∧AC1 93 [.agg (vwC v)] t (.int .i64 0) t':=by
 have hmf:=mf_no (h.noentry hn)
 have hlen:(t.E.map AO5).length=L.length:=by rw [List.length_map,h.elen]
 obtain ⟨t',h1,_,_,hput⟩:=t_put h hv hn hl
 refine ⟨t',h1,?_⟩
 obtain ⟨va,vk,vf,vw⟩:=v
 have hr:=k_right (va:Nat) (vk:Nat) (vf:Nat) vw
 rw [decide_eq_true (right_ok hv)] at hr
 unfold vwC at hput ⊢
 dsimp only at *
 refine AC1.mk (G5 E9 b93 rfl ?_) plain_vl A8
 unfold c93
 generalize L.length=n at *
 (refine wx_Yh ?_;repeat' (first|with_reducible refine And.intro ?_ ?_|intro hsp))
 all_goals exact X6 rfl A8 rfl rfl rfl rfl rfl
end
end Go.Proofs.YtphggldkligldaaGreat.Sh
namespace Go.Proofs.YtphggldkligldaaGreat.Sh
open Go Go.Am Go.Pol
theorem wx_Yin {p q:Prop} (hq:q) (h:X0 q→p:=by (intro hQz;((repeat' ((try (conv=>whnf));first|refine sxA ?_|refine I4 (by with_reducible assumption) ?_|refine E5 (by rw [tab_len];omega) e1 ?_|refine E5 (by rw [tab_len];omega) e2 ?_|refine sxN ?_|(refine M7 E9 b119 rfl ?_;unfold c119)|refine Aa4 (by assumption) rfl (by omega) ?_|refine AA2 (by assumption) rfl rfl rfl rfl rfl (by decide) rfl ?_|refine o8 (by assumption) rfl rfl rfl (by decide) (by first|exact AI6|(simp [A8,A9];done)|fail) (by first|exact AL0|exact A8|fail) rfl ?_|refine AS2 (by assumption) rfl rfl rfl (by first|exact AI6|(simp [A8,A9];done)|fail) (by first|exact AL0|exact A8|fail) rfl rfl ?_|refine sxH ?_|((with_reducible first|apply M9 hQz|apply N7 hQz)<;>(try intro hsp hQz))|exact hQz.out))<;>(try (conv=>whnf))))):p:=h ⟨hq⟩
section
variable {L:List Vw} {t:TS} {v:Vw} {s:Nat}
theorem plain_i3 {a b c:Int}:∀ x ∈ [AV.int .i64 a,.int .i64 b,.int .i64 c],Plain x:=fun x hx=>by
 simp only [List.mem_cons,List.not_mem_nil,or_false] at hx
 rcases hx with rfl|rfl|rfl<;>exact A8
def frV (f:Nat) (v:Vw):Vw:=(v.1,v.2.1,f,true)
theorem t_Split (h:TOk L t) (hs:s ∈ t.Q v.1) (hu:t.U s=v) {f:Nat} (hf:f < 1024) (hc:cntF L f=0) :
  ∃ t' A B,L=A++v::B∧TOk (A++frV f v::B) t'∧AC1 96 [.int .i64 (v.1:Nat),.int .i64 (v.2.1:Nat),.int .i64 (f:Nat)] t (.int .i64 0) t':=by
 obtain ⟨X,Y,A,B,hQ,hL,hX,hY,hsX,hsY⟩:=h.around hs hu
 have hv:v ∈ L:=by rw [hL];simp
 have hok:=h.ok v hv
 have hm:v.1 < t.m:=by rw [h.hm];exact hok.1
 have hk1:=Ac9 (f:Nat)
 rw [if_pos (At5 hf)] at hk1
 have hfi:=t_find hok.1 hok.2.1 h.keys (h.entry hs hu)
 have hget:=h.get hs
 rw [hu] at hget
 have hcf:t.C f=0:=by rw [h.cnt,hc]
 have hne:f ≠ v.2.2.1:=fun e=>by subst e;rw [hL,AC3,AB2,if_pos rfl] at hc;omega
 have hC1:0 < t.C v.2.2.1:=by rw [h.cnt,hL,AC3,AB2,if_pos rfl];omega
 have hC2:t.C v.2.2.1≤2000:=by rw [h.cnt];exact Nat.le_trans (List.length_filter_le ..) h.len
 have g1:(tabC 1 4 t.C)[2+f]? = some (.int .i64 0):=by have:=tab_get (p:=1) (m:=4) (C:=t.C) hf;rw [hcf] at this;exact this
 have g2:(tabC 1 4 t.C)[2+v.2.2.1]? = some (.int .i64 (t.C v.2.2.1:Nat)):=tab_get hok.2.2
 have e1:(tabC 1 4 t.C).set (2+v.2.2.1) (.int .i64 ((t.C v.2.2.1:Nat) - 1:Int))=tabC 1 4 (BD5 t.C v.2.2.1 (t.C v.2.2.1 - 1)):=tab_set (by omega)
 generalize hC':BD5 t.C v.2.2.1 (t.C v.2.2.1 - 1)=C1 at *
 have hc1f:C1 f=0:=by rw [← hC'];unfold BD5;rw [if_neg hne,hcf]
 have g3:(tabC 1 4 C1)[2+f]? = some (.int .i64 0):=by have:=tab_get (p:=1) (m:=4) (C:=C1) hf;rw [hc1f] at this;exact this
 have e2:(tabC 1 4 C1).set (2+f) (.int .i64 1)=tabC 1 4 (BD5 C1 f 1):=tab_set rfl
 obtain ⟨i1,hput⟩:=p_put h.pool.inv (s:=s) (i:=v.1) ⟨hm,hQ⟩ (num v.1) (num v.2.1) (num f) (bo true)
 have hT:=h.chg (w:=frV f v) (C:=BD5 C1 f 1) hu hQ hL hX hY hsX hsY rfl rfl hf (fun x=>by
  rw [AC3,AB2]
  have hx:=h.cnt x
  rw [hL,AC3,AB2] at hx
  have hv2:=h.cnt v.2.2.1
  rw [hL,AC3,AB2,if_pos rfl] at hv2
  show BD5 C1 f 1 x=cntF A x+((if f=x then 1 else 0)+cntF B x)
  rw [← hC']
  unfold BD5
  by_cases h1:x=f
  ·subst h1;rw [if_pos rfl,if_pos rfl];rw [if_neg (Ne.symm hne)] at hx;omega
  ·rw [if_neg h1,if_neg (Ne.symm h1)]
   by_cases h2:x=v.2.2.1
   ·subst h2;rw [if_pos rfl];omega
   ·rw [if_neg h2];rw [if_neg (Ne.symm h2)] at hx;omega) ⟨i1,h.pool.m_le,h.pool.n_le,h.pool.n_pos⟩
 refine ⟨_,A,B,hL,hT,AC1.mk (G5 E9 b96 rfl ?_) plain_i3 A8⟩
 unfold c96
 obtain ⟨va,vk,vf,vw⟩:=v
 have hput':AJ2 146 [.int .i64 (s:Nat),.agg [.int .i64 (va:Nat),.int .i64 (vk:Nat),.int .i64 (f:Nat),.bool true]] t.n t.m (u6 t.n t.m t.V t.W t.V3 t.V4 t.S) (.int .i64 0) (u6 t.n t.m (M5 t.V s (num va)) (M5 t.W s (num vk)) (M5 t.V3 s (num f)) (M5 t.V4 s (bo true)) t.S):=hput
 unfold vwC at hget
 dsimp only at *
 clear hput
 (refine wx_Yin ?_;repeat' (first|with_reducible refine And.intro ?_ ?_|intro hsp))
 all_goals exact X6 rfl A8 rfl rfl rfl rfl rfl
end
end Go.Proofs.YtphggldkligldaaGreat.Sh
namespace Go.Proofs.YtphggldkligldaaGreat.Sh
open Go Go.Am Go.Pol
theorem AA3 (v:Vw):∀ x ∈ vwC v,Plain x:=V8
theorem K3 (v:Vw):(vwC v).length=4:=rfl
theorem J2 {L:List Vw}:Plain (.isl (L.map vwC)):=AC4 fun e he=>by
 obtain ⟨v,_,rfl⟩:=List.mem_map.1 he;exact V8
theorem H9 {L:List Vw}:Plain (.agg [.isl (L.map vwC)]):=P5 fun x hx=>by
 obtain rfl:=List.mem_singleton.1 hx;exact J2

theorem Al3 {top:Bool} {h:Hp} {N0:Nat} {x r:AV} {t:TS} (hr:AH8 (rn []) h ⟨tabS t,5⟩→WkV Tryz.prog (rn []) h ⟨tabS t,5⟩ x r) (h0:lk h.l 0=some (.cells (tabC 1 4 t.C))) (h1:lk h.l 1=some (.cells [.sl 2 0 t.n t.n 7,.sl 3 0 t.m t.m 3,.int .i64 (t.S.fr:Nat)])) (h2:lk h.l 2=some (.cells (D6 t.n t.V t.W t.V3 t.V4 t.S.L t.S.N t.S.P))) (h3:lk h.l 3=some (.cells (O6 t.m t.S.A t.S.B t.S.C))) (h4:lk h.l 4=some (.maps (t.E.map AO5))) (hN0:N0≤5:=by decide) :
  AV7 top Tryz.prog N0 h x (fun r' h'=>r'=r∧h'=⟨tabS t,5⟩):=by
 have hs:AH8 (rn []) h ⟨tabS t,5⟩:=fun i o hi=>by
  simp only [tabS,lk] at hi
  show ∃ o',lk h.l i=some o'
  split at hi
  ·rename_i e;subst e;exact ⟨_,h0⟩
  ·split at hi
   ·rename_i e;subst e;exact ⟨_,h1⟩
   ·split at hi
    ·rename_i e;subst e;exact ⟨_,h2⟩
    ·split at hi
     ·rename_i e;subst e;exact ⟨_,h3⟩
     ·split at hi
      ·rename_i e;subst e;exact ⟨_,h4⟩
      ·cases hi
 refine y9 [] rfl hN0 (Q5 rfl) (hr hs) ?_ ⟨rfl,rfl⟩
 exact AO3 hs (show 0 < 5 by decide) h0 rfl (show 1 < 5 by decide) rfl (show 4 < 5 by decide)
  (J5 (show 1 < 5 by decide) h1 (C8 (AH0 rfl (show 2 < 5 by decide) rfl (Nat.le_refl _) (Nat.le_refl _)) (C8 (AH0 rfl (show 3 < 5 by decide) rfl (Nat.le_refl _) (Nat.le_refl _)) (C8 (L8 rfl) H7)))
  (F9 hs (show 2 < 5 by decide) h2 rfl F7 (F9 hs (show 3 < 5 by decide) h3 rfl H6 (AD4 hs (show 4 < 5 by decide) h4 rfl K4 J6))))
theorem tab_not {t:TS} {d:Nat} (hd:5≤d):∀ j o,lk (Hp.l ⟨tabS t,5⟩) j=some o→rn [] j ≠ d:=fun j o hj=>by
 have : j < 5:=Classical.byContradiction fun hn=>by
  simp only [tabS,lk] at hj
  repeat' split at hj
  all_goals first|omega|cases hj
 show j ≠ d
 omega
theorem wk_frzW {σ:Nat→Nat} {h h':Hp} {d:Nat} {L:List Vw} (hi:L.length ≠ 0→lk h.l d=some (.cells (flat vwC L))) (hi':∀ j o,lk h'.l j=some o→σ j ≠ d) (hs:AH8 σ h h'):WkV Tryz.prog σ h h' (AU0 d 4 L.length) (.isl (L.map vwC)):=by
 by_cases hz:L.length=0
 ·rw [hz,BG4,List.eq_nil_of_length_eq_zero hz];exact AZ3
 ·rw [AZ7 hz]
  refine Ah8 (hi hz) hi' hs (by simp) (fun e he=>?_) ?_ fun e he x hx=>?_
  ·obtain ⟨s,_,rfl⟩:=List.mem_map.1 he;rfl
  ·rw [List.drop_zero,List.take_of_length_le (by rw [H8 K3];exact Nat.le_refl _)];rfl
  ·obtain ⟨s,_,rfl⟩:=List.mem_map.1 he;exact V8 x hx
theorem Ay9 (Q:List Nat):orErr (hd Q) 4 = .tup [.int .i64 (if Q.length=0 then 0 else hd (Q.drop 0)),.int .i64 (if Q.length=0 then 4 else 0)]:=by
 unfold orErr
 cases Q with
 | nil=>rfl
 | cons y0 L0=>rw [if_neg (show ¬ hd (y0::L0) = -1 by show ¬ ((y0:Nat):Int) = -1;omega),if_neg (show ¬ hd (y0::L0) = -1 by show ¬ ((y0:Nat):Int) = -1;omega),if_neg (by simp),if_neg (by simp)];rfl
section
variable {L:List Vw} {t:TS}
theorem TOk.len_of (h:TOk L t) (a:Nat):(ofA a L).length≤1024:=by
 have hs:Go.Pol.srt (ofA a L):=h.srt.sublist List.filter_sublist
 have h1:((ofA a L).map (·.2.1)).Nodup:=by
  refine List.Pairwise.map _ (R:=fun u v=>bef u v∧u.1=v.1) (fun u v huv=>by obtain ⟨hb,he⟩:=huv;unfold bef at hb;show u.2.1 ≠ v.2.1;omega) ?_
  refine List.Pairwise.imp_of_mem (R:=bef) (fun {u v} hu hv hb=>⟨hb,?_⟩) hs
  rw [(R4.1 hu).2,(R4.1 hv).2]
 have h2:=BH2 1024 _ h1 fun x hx=>by
  obtain ⟨v,hv,rfl⟩:=List.mem_map.1 hx
  exact (h.ok v (R4.1 hv).1).2.1
 rwa [List.length_map] at h2
theorem TOk.at_ (h:TOk L t) {a k:Nat} (hk:k < (t.Q a).length):nth 0 (t.Q a) k < t.n∧hd ((t.Q a).drop k)=(nth 0 (t.Q a) k:Nat)∧t.S.N (nth 0 (t.Q a) k)=hd ((t.Q a).drop (k+1))∧nth dV (ofA a L) k=t.U (nth 0 (t.Q a) k)∧nth 0 (t.Q a) k ∈ t.Q a∧((D6 t.n t.V t.W t.V3 t.V4 t.S.L t.S.N t.S.P).drop (nth 0 (t.Q a) k * 7)).take 4=vwC (t.U (nth 0 (t.Q a) k)):=by
 have hm:=Z6 (d:=0) hk
 have hlt:=(h.pool.inv.st.us a _ hm).1
 refine ⟨hlt,by rw [K9 hk,List.drop_eq_getElem_cons hk];rfl,(h.pool.inv.st.ch a ((t.Q a).take k) (nth 0 (t.Q a) k) ((t.Q a).drop (k+1)) (by rw [K9 hk,← List.drop_eq_getElem_cons hk,List.take_append_drop])).1,?_,hm,?_⟩
 ·rw [← h.lst,K9 (by rw [List.length_map];exact hk),K9 hk,List.getElem_map]
 ·rw [tkV hlt]
  obtain ⟨e1,e2,e3,e4⟩:=h.val a _ hm
  rw [e1,e2,e3,e4];rfl
theorem TOk.lenQ (h:TOk L t) (a:Nat):(ofA a L).length=(t.Q a).length:=by rw [← h.lst,List.length_map]
end
end Go.Proofs.YtphggldkligldaaGreat.Sh
namespace Go.Pol
def upto (a:Nat) (L:List Vw):List Vw:=L.filter fun v=>decide (v.1 < a)
theorem upto_s {L:List Vw} (h:srt L) (a:Nat):upto (a+1) L=upto a L++ofA a L:=by
 refine Ax9 (h.sublist List.filter_sublist) (List.pairwise_append.2 ⟨h.sublist List.filter_sublist,h.sublist List.filter_sublist,fun u hu v hv=>?_⟩) fun v=>?_
 ·have h1:=(List.mem_filter.1 hu).2
  have h2:=(R4.1 hv).2
  simp only [decide_eq_true_eq] at h1
  unfold bef;omega
 ·unfold upto ofA
  simp only [List.mem_append,List.mem_filter,decide_eq_true_eq]
  constructor
  ·rintro ⟨h1,h2⟩
   rcases Nat.lt_or_ge v.1 a with h3|h3
   ·exact .inl ⟨h1,h3⟩
   ·exact .inr ⟨h1,by omega⟩
  ·rintro (⟨h1,h2⟩ | ⟨h1,h2⟩)<;>exact ⟨h1,by omega⟩
theorem upto_all {L:List Vw} (h:∀ v ∈ L,v.1 < 64):upto 64 L=L:=by
 unfold upto;rw [List.filter_eq_self];intro v hv;simpa using h v hv
theorem upto_0 (L:List Vw):upto 0 L=[]:=by unfold upto;rw [List.filter_eq_nil_iff];intro v _;simp
theorem upto_le (L:List Vw) (a:Nat):(upto a L).length≤L.length:=List.length_filter_le ..
end Go.Pol
namespace Go.Proofs.YtphggldkligldaaGreat.Sh
open Go Go.Am Go.Pol
theorem ppx_Yk {p:Prop} (h:p:=by ((first|with_reducible assumption|(with_reducible first|apply l9|apply F7|apply H6|apply R8|apply R3 _ _|apply V8|apply I7 AA3|fail)|exact ppw|fail);first|done|fail)):p:=h
open Go.Proofs.YtphggldkligldaaGreat.Sh renaming plx_Yf → plx
open Go.Proofs.YtphggldkligldaaGreat.Sh renaming ppx_Yk → ppx
theorem wx_Yk {p q:Prop} (hq:q) (h:X0 q→p:=by (intro hQz;((repeat' ((try (conv=>whnf));first|refine sxA ?_|refine I4 (gc2 hx) ?_|refine j5 (by rw [F3];omega) rfl (Y4 (by rw [List.length_drop,F3];omega) hcell ?_)|refine sxF ?_|refine o8 (by assumption) rfl rfl rfl (by decide) (by first|(simp [A8,A9];done)|fail) D8 rfl ?_|refine BA6 rfl ?_|(refine M7 E9 b140 rfl ?_;unfold c140)|(refine M7 E9 b174 rfl ?_;unfold c174)|refine AV5 E9 rfl hF2 hA2 hB2 rfl ?_|refine AV5 E9 rfl hF hA hB rfl ?_|refine AO2 (f:=vwC) (l2:=[(ua,uk,uf,uw)]) K3 (AH1 rfl rfl) (fun hz=>by first|(simp [lk,L6 hz];done)|exact L6 hz) (fun hz=>by first|(simp [lk,AL4 hz];done)|exact AL4 hz) rfl (by decide) ⟨by omega,by omega⟩ rfl ?_|(refine AO1 (f:=vwC) (l2:=[(ua,uk,uf,uw)]) K3 (AH1 rfl rfl) (fun hz=>by first|(simp [lk,L6 hz];done)|exact L6 hz) rfl (by decide) ⟨by omega,by omega⟩ ?_ ?_<;>intro hzz)|refine sxH ?_|((with_reducible first|apply M9 hQz|apply N7 hQz)<;>(try intro hsp hQz))|exact hQz.out))<;>(try (conv=>whnf))))):p:=h ⟨hq⟩
theorem wx_Ykn {p q:Prop} (hq:q) (h:X0 q→p:=by (intro hQz;((repeat' ((try (conv=>whnf));first|refine sxA ?_|refine sxN ?_|(refine M7 E9 b119 rfl ?_;unfold c119)|(refine M7 E9 b145 rfl ?_;unfold c145)|refine sxH ?_|((with_reducible first|apply M9 hQz|apply N7 hQz)<;>(try intro hsp hQz))|exact hQz.out))<;>(try (conv=>whnf))))):p:=h ⟨hq⟩
theorem lk_ownA {L:List Vw} {a b c d e f g:AObj} (hz:L.length ≠ 0):lk ((0,a)::(1,b)::(2,c)::(3,d)::(4,e)::(5,f)::[(6,g)].append (AJ5 7 vwC L)) 7=some (.cells (flat vwC L)):=by
 simp [lk,L6 hz]
section
variable {L:List Vw} {t:TS}
theorem t_Save (h:TOk L t):AC1 81 [] t (.agg [.isl (L.map vwC)]) t:=by
 have hn2:t.n=2000:=h.hn
 have hlen:=h.len
 refine AC1.mk (G5 E9 b81 rfl ?_) (fun x hx=>by cases hx) H9
 unfold c81
 (refine wx_Yk ?_;repeat' (first|with_reducible refine And.intro ?_ ?_|intro hsp))
 (refine G8 [0] (fun (a:Nat)=>[(2,.ptr 5 0),(3,.ptr 6 0),(6,.int .i64 (a:Nat))]) (fun (a:Nat)=>⟨tabS t++[(5,.cells [.nils]),(6,.cells [AU0 7 4 (upto a L).length])]++AJ5 7 vwC (upto a L),8⟩) (fun (a:Nat)=>a≤64) (fun (a:Nat)=>64 - a) (0) [] rfl (fun _=>by first|exact Nat.zero_le _|(dsimp only;omega)) ?_ (by ((try (conv=>whnf));(rw [upto_0]);exact wkxQ3)) ?_)
 ·exact Nat.zero_le _
 intro a ha
 by_cases ha4:a < 64
 ·have hen:=p_end h.pool.inv h.pool.n_pos (show a < t.m by rw [h.hm];exact ha4) true
  rw [if_pos rfl,Ay9] at hen
  have hlo:=h.len_of a
  have hlq:=h.lenQ a
  have hup:=upto_s h.srt a
  have hul:=upto_le L (a+1)
  (refine wx_Yk ?_;repeat' (first|with_reducible refine And.intro ?_ ?_|intro hsp))
  refine AR2 E9 b171 rfl trivial ?_
  intro frl asl bdl hF hA hB
  unfold c171
  (refine wx_Ykn ?_;repeat' (first|with_reducible refine And.intro ?_ ?_|intro hsp))
  refine AR2 E9 b173 rfl trivial ?_
  intro frl2 asl2 bdl2 hF2 hA2 hB2
  unfold c173
  (refine wx_Yk ?_;repeat' (first|with_reducible refine And.intro ?_ ?_|intro hsp))
  (refine G8 [0,1,2,3] (fun (k:Nat)=>[(5,.int .i64 (if (t.Q a).length=0 then 0 else hd ((t.Q a).drop k))),(6,.int .i64 (if (t.Q a).length=0 then 4 else 0))]) (fun (k:Nat)=>⟨tabS t++[(5,.cells [.nils]),(6,.cells [AU0 21 4 (upto a L++(ofA a L).take k).length]),(8,.cells [.ptr 0 0]),(9,.cells [.int .i64 (a:Nat)]),(10,.loop .ready none frl [12] asl bdl),(11,.cells [.yld 10]),(17,.cells [.ptr 1 0]),(18,.cells [.int .i64 (a:Nat)]),(19,.cells [.bool false]),(20,.loop .ready none frl2 [15,16] asl2 bdl2)]++AJ5 21 vwC (upto a L++(ofA a L).take k),22⟩) (fun (k:Nat)=>k≤(t.Q a).length) (fun (k:Nat)=>(t.Q a).length - k) (0) [(21,7)] rfl (fun _=>by first|exact Nat.zero_le _|(dsimp only;omega)) ?_ (by ((try (conv=>whnf));(rw [List.take_zero,List.append_nil]);exact wkxQ3)) ?_)
  ·exact Nat.zero_le _
  intro k hk
  by_cases hkl:k < (t.Q a).length
  ·obtain ⟨hx,hd0,hnx,hnv,hm,hcell⟩:=h.at_ hkl
   have hnx0:¬ (t.Q a).length=0:=by omega
   rw [if_neg hnx0,if_neg hnx0,hd0]
   have htk:upto a L++(ofA a L).take (k+1)=upto a L++(ofA a L).take k++[t.U (nth 0 (t.Q a) k)]:=by rw [Z9 (d:=dV) (l:=ofA a L) (k:=k) (by omega),hnv,List.append_assoc]
   have hlk:(upto a L++(ofA a L).take k).length≤L.length:=by rw [hup] at hul;rw [List.length_append] at hul ⊢;rw [List.length_take];omega
   generalize nth 0 (t.Q a) k=x at *
   generalize t.U x=u at *
   obtain ⟨ua,uk,uf,uw⟩:=u
   unfold vwC at hcell
   dsimp only at hcell
   (refine wx_Yk ?_;repeat' (first|with_reducible refine And.intro ?_ ?_|intro hsp))
   all_goals exact D9 (k+1) [(21,25)] (by (try dsimp only);omega) (by first|omega|(dsimp only;omega)) rfl (by ((try dsimp only);rw [htk,if_neg hnx0]);exact wkxQ3)
  ·have hd1:hd ((t.Q a).drop k) = -1:=by rw [List.drop_of_length_le (by omega)];rfl
   rw [hd1]
   have hall:(ofA a L).take k=ofA a L:=List.take_of_length_le (by omega)
   rw [hall,← hup]
   by_cases hz:(t.Q a).length=0
   ·rw [if_pos hz,if_pos hz]
    (refine wx_Yk ?_;repeat' (first|with_reducible refine And.intro ?_ ?_|intro hsp))
    all_goals exact D9 (a+1) [(7,21)] (by (try dsimp only);omega) (by first|omega|(dsimp only;omega)) rfl (by exact wkxQ3)
   ·rw [if_neg hz,if_neg hz]
    (refine wx_Yk ?_;repeat' (first|with_reducible refine And.intro ?_ ?_|intro hsp))
    all_goals exact D9 (a+1) [(7,21)] (by (try dsimp only);omega) (by first|omega|(dsimp only;omega)) rfl (by exact wkxQ3)
 ·obtain rfl:a=64:=by omega
  have hall:=upto_all fun v hv=>(h.ok v hv).1
  (refine wx_Yk ?_;repeat' (first|with_reducible refine And.intro ?_ ?_|intro hsp))
  rw [hall]
  exact Al3 (fun hs=>AN2 (C8 (wk_frzW (fun hz=>lk_ownA hz) (tab_not (by decide)) hs) H7)) rfl rfl rfl rfl rfl
end
end Go.Proofs.YtphggldkligldaaGreat.Sh
namespace Go.Pol
open Go.Am
abbrev Rw:=Int × Int × Int × Bool
def rwC (v:Rw):List AV:=[.int .i64 v.1,.int .i64 v.2.1,.int .i64 v.2.2.1,.bool v.2.2.2]
def dW:Rw:=(0,0,0,false)
def rwV (v:Vw):Rw:=((v.1:Nat),(v.2.1:Nat),(v.2.2.1:Nat),v.2.2.2)
theorem rw_len (v:Rw):(rwC v).length=4:=rfl
theorem BU4 {v:Rw}:∀ x ∈ rwC v,Plain x:=fun x hx=>by
 simp only [rwC,List.mem_cons,List.not_mem_nil,or_false] at hx
 rcases hx with rfl|rfl|rfl|rfl<;>first|exact A8|exact A9
theorem Ac4 {R:List Rw}:Plain (.isl (R.map rwC)):=AC4 fun e he=>by
 obtain ⟨v,_,rfl⟩:=List.mem_map.1 he;exact BU4
theorem Ac3 {R:List Rw}:Plain (.agg [.isl (R.map rwC)]):=P5 fun x hx=>by
 obtain rfl:=List.mem_singleton.1 hx;exact Ac4
theorem An7 (L:List Vw):(L.map rwV).map rwC=L.map vwC:=by rw [List.map_map];rfl
def okW (v:Rw):Prop:=(0≤v.1∧v.1 < 64)∧(0≤v.2.1∧v.2.1 < 1024)∧(0≤v.2.2.1∧v.2.2.1 < 1024)
instance (v:Rw):Decidable (okW v):=by unfold okW;infer_instance
def AS9 (u v:Rw):Prop:=u.1 < v.1∨(u.1=v.1∧u.2.1 < v.2.1)
instance (u v:Rw):Decidable (AS9 u v):=by unfold AS9;infer_instance
inductive ChkR (R:List Rw):Int→Int→Prop
 | big:2000 < R.length→ChkR R 0 5
 | range (k:Nat):R.length≤2000→k < R.length→(∀ j,j < k→okW (nth dW R j))→¬ okW (nth dW R k)→ChkR R (k:Nat) 7
 | pair (k:Nat):R.length≤2000→1≤k→k < R.length→(∀ j,j < R.length→okW (nth dW R j))→(∀ j,j+1 < k→AS9 (nth dW R j) (nth dW R (j+1)))→¬ AS9 (nth dW R (k - 1)) (nth dW R k)→ChkR R (k:Nat) (if AS9 (nth dW R k) (nth dW R (k - 1)) then 6 else 8)
 | ok:R.length≤2000→(∀ j,j < R.length→okW (nth dW R j))→(∀ j,j+1 < R.length→AS9 (nth dW R j) (nth dW R (j+1)))→ChkR R 0 0
theorem ChkR.uniq {R:List Rw} {i e i' e':Int} (h:ChkR R i e) (h':ChkR R i' e'):i=i'∧e=e':=by
 cases h with
 | big h1=>cases h' with
  | big h2=>exact ⟨rfl,rfl⟩
  | range k h2=>omega
  | pair k h2=>omega
  | ok h2=>omega
 | range k h1 h2 h3 h4=>cases h' with
  | big g1=>omega
  | range k' g1 g2 g3 g4 =>
   have : k=k':=by
    rcases Nat.lt_trichotomy k k' with h|h|h
    ·exact absurd (g3 k h) h4
    ·exact h
    ·exact absurd (h3 k' h) g4
   subst this;exact ⟨rfl,rfl⟩
  | pair k' g1 g2 g3 g4=>exact absurd (g4 k h2) h4
  | ok g1 g2=>exact absurd (g2 k h2) h4
 | pair k h1 h2 h3 h4 h5 h6=>cases h' with
  | big g1=>omega
  | range k' g1 g2 g3 g4=>exact absurd (h4 k' g2) g4
  | pair k' g1 g2 g3 g4 g5 g6 =>
   have : k=k':=by
    rcases Nat.lt_trichotomy k k' with h|h|h
    ·have:=g5 (k - 1) (by omega);rw [show k - 1+1=k by omega] at this;exact absurd this h6
    ·exact h
    ·have:=h5 (k' - 1) (by omega);rw [show k' - 1+1=k' by omega] at this;exact absurd this g6
   subst this;exact ⟨rfl,rfl⟩
  | ok g1 g2 g3=>have:=g3 (k - 1) (by omega);rw [show k - 1+1=k by omega] at this;exact absurd this h6
 | ok h1 h2 h3=>cases h' with
  | big g1=>omega
  | range k' g1 g2 g3 g4=>exact absurd (h2 k' g2) g4
  | pair k' g1 g2 g3 g4 g5 g6=>have:=h3 (k' - 1) (by omega);rw [show k' - 1+1=k' by omega] at this;exact absurd this g6
  | ok=>exact ⟨rfl,rfl⟩
theorem least_or {p:Nat→Prop} (n:Nat):(∃ k,k < n∧(∀ j,j < k→p j)∧¬ p k)∨∀ j,j < n→p j:=by
 induction n with
 | zero=>exact .inr fun j hj=>by omega
 | succ n ih =>
  rcases ih with ⟨k,h1,h2,h3⟩|h
  ·exact .inl ⟨k,by omega,h2,h3⟩
  ·by_cases hp:p n
   ·exact .inr fun j hj=>by
     rcases Nat.lt_or_ge j n with h1|h1
     ·exact h j h1
     ·obtain rfl:j=n:=by omega
      exact hp
   ·exact .inl ⟨n,by omega,h,hp⟩
theorem chk_ex (R:List Rw):∃ i e,ChkR R i e:=by
 by_cases h:2000 < R.length
 ·exact ⟨_,_,.big h⟩
 ·rcases least_or (p:=fun j=>okW (nth dW R j)) R.length with ⟨k,h1,h2,h3⟩|ha
  ·exact ⟨_,_,.range k (by omega) h1 h2 h3⟩
  ·rcases least_or (p:=fun j=>AS9 (nth dW R j) (nth dW R (j+1))) (R.length - 1) with ⟨k,h1,h2,h3⟩|hb
   ·exact ⟨_,_,.pair (k+1) (by omega) (by omega) (by omega) ha (fun j hj=>h2 j (by omega)) h3⟩
   ·exact ⟨_,_,.ok (by omega) ha fun j hj=>hb j (by omega)⟩
theorem chk_views {R:List Rw} {i:Int} (h:ChkR R i 0):∃ L:List Vw,R=L.map rwV∧srt L∧L.length≤2000∧∀ v ∈ L,v.1 < 64∧v.2.1 < 1024∧v.2.2.1 < 1024:=by
 have h0:i=0∧R.length≤2000∧(∀ j,j < R.length→okW (nth dW R j))∧(∀ j,j+1 < R.length→AS9 (nth dW R j) (nth dW R (j+1))):=by
  obtain ⟨i',e',h'⟩:=chk_ex R
  have hu:=h.uniq h'
  cases h' with
  | big h1=>exact absurd hu.2 (by decide)
  | range k=>exact absurd hu.2 (by decide)
  | pair k=>exfalso;have:=hu.2;split at this<;>omega
  | ok h1 h2 h3=>exact ⟨hu.1,h1,h2,h3⟩
 obtain ⟨_,h1,h2,h3⟩:=h0
 have key:R=(R.map fun v:Rw=>((v.1.toNat,v.2.1.toNat,v.2.2.1.toNat,v.2.2.2):Vw)).map rwV:=by
  rw [List.map_map]
  conv=>lhs;rw [← List.map_id R]
  refine List.map_congr_left fun v hv=>?_
  obtain ⟨j,hj,rfl⟩:=List.mem_iff_getElem.1 hv
  have:=h2 j hj
  rw [K9 hj] at this
  generalize R[j]=w at *
  unfold okW at this
  refine Prod.ext ?_ (Prod.ext ?_ (Prod.ext ?_ rfl))
  ·show w.1=((w.1.toNat:Nat):Int);omega
  ·show w.2.1=((w.2.1.toNat:Nat):Int);omega
  ·show w.2.2.1=((w.2.2.1.toNat:Nat):Int);omega
 refine ⟨_,key,?_,by rw [List.length_map];exact h1,fun v hv=>?_⟩
 ·have hp:R.Pairwise AS9:=by
   have tr:∀ {u v w:Rw},AS9 u v→AS9 v w→AS9 u w:=fun {u v w} a b=>by unfold AS9 at *;omega
   clear key h2 h h1
   induction R with
   | nil=>exact List.Pairwise.nil
   | cons u R ih =>
    have ih':=ih fun j hj=>h3 (j+1) (by simpa using hj)
    refine List.pairwise_cons.2 ⟨fun v hv=>?_,ih'⟩
    cases R with
    | nil=>cases hv
    | cons w R =>
     have h4:AS9 u w:=h3 0 (by simp)
     rcases List.mem_cons.1 hv with rfl|hv
     ·exact h4
     ·exact tr h4 ((List.pairwise_cons.1 ih').1 v hv)
  refine List.Pairwise.map _ (R:=fun u v=>AS9 u v∧okW u∧okW v) (fun u v huv=>?_) ?_
  ·obtain ⟨h4,h5,h6⟩:=huv
   unfold AS9 at h4;unfold okW at h5 h6;unfold bef;dsimp only;omega
  ·refine List.Pairwise.imp_of_mem (R:=AS9) (fun {u v} hu hv hb=>⟨hb,?_,?_⟩) hp
   ·obtain ⟨j,hj,rfl⟩:=List.mem_iff_getElem.1 hu;have:=h2 j hj;rwa [K9 hj] at this
   ·obtain ⟨j,hj,rfl⟩:=List.mem_iff_getElem.1 hv;have:=h2 j hj;rwa [K9 hj] at this
 ·obtain ⟨w,hw,rfl⟩:=List.mem_map.1 hv
  obtain ⟨j,hj,rfl⟩:=List.mem_iff_getElem.1 hw
  have:=h2 j hj
  rw [K9 hj] at this
  unfold okW at this
  obtain ⟨⟨h4,h5⟩,⟨h6,h7⟩,h8,h9⟩:=this
  refine ⟨?_,?_,?_⟩
  ·show R[j].1.toNat < 64;omega
  ·show R[j].2.1.toNat < 1024;omega
  ·show R[j].2.2.1.toNat < 1024;omega
end Go.Pol
namespace Go.Proofs.YtphggldkligldaaGreat.Sh
open Go Go.Am Go.Pol
theorem plx_Ba {p:Prop} (h:p:=by ((first|exact plw|(with_reducible first|apply L9|apply J7|apply J2|apply H9|apply Ac4|apply Ac3|fail)|fail);first|done|fail)):p:=h
theorem ppx_Ba {p:Prop} (h:p:=by ((first|with_reducible assumption|(with_reducible first|apply V8|apply I7 AA3|apply BU4|fail)|exact ppw|fail);first|done|fail)):p:=h
open Go.Proofs.YtphggldkligldaaGreat.Sh renaming plx_Ba → plx
open Go.Proofs.YtphggldkligldaaGreat.Sh renaming ppx_Ba → ppx
theorem wx_Ba {p q:Prop} (hq:q) (h:X0 q→p:=by (intro hQz;((repeat' ((try (conv=>whnf));first|refine sxA ?_|refine o7 (d:=dV) K3 (by first|assumption|omega) (by with_reducible assumption) ?_|refine o7 (d:=dW) rw_len (by first|assumption|omega) (by with_reducible assumption) ?_|refine el_pred (d:=dW) rw_len (by omega) (by with_reducible assumption) ?_|refine sxF ?_|refine AO2 (f:=vwC) (l2:=[(u1,u2,u3,u4)]) K3 (AH1 rfl rfl) (fun hz=>by first|(simp [lk,L6 hz];done)|exact L6 hz) (fun hz=>by first|(simp [lk,AL4 hz];done)|exact AL4 hz) rfl (by decide) ⟨by omega,by omega⟩ rfl ?_|(refine AO1 (f:=vwC) (l2:=[(u1,u2,u3,u4)]) K3 (AH1 rfl rfl) (fun hz=>by first|(simp [lk,L6 hz];done)|exact L6 hz) rfl (by decide) ⟨by omega,by omega⟩ ?_ ?_<;>intro hzz)|refine G9 (by assumption) ?_|refine O1 (by assumption) ?_|(refine M7 E9 b127 rfl ?_;unfold c127)|(refine M7 E9 b128 rfl ?_;unfold c128)|refine sxH ?_|((with_reducible first|apply M9 hQz|apply N7 hQz)<;>(try intro hsp hQz))|exact hQz.out))<;>(try (conv=>whnf))))):p:=h ⟨hq⟩
section
variable {L A B:List Vw} {v:Vw} {R:List Rw}
def ofI (a:Int) (L:List Vw):List Vw:=L.filter fun v=>decide ((v.1:Int)=a)
theorem ofI_nat (a:Nat) (L:List Vw):ofI (a:Nat) L=ofA a L:=by unfold ofI ofA;congr 1;funext v;exact decide_eq_decide.2 (by omega)
theorem ofI_nil (a:Int):ofI a []=[]:=rfl
theorem ofI_snoc (a:Int) (v:Vw):ofI a (L++[v])=if (v.1:Int)=a then ofI a L++[v] else ofI a L:=by
 unfold ofI;rw [List.filter_append];by_cases h:(v.1:Int)=a<;>simp [h]
theorem q_of (a:Int) (hl:L.length≤4000):F4 131 [.agg [.isl (L.map vwC)],.int .i64 a] (.isl ((ofI a L).map vwC)):=by
 refine F4.mk (I6 E9 b131 F6 ⟨H9,A8,trivial⟩ J2 rfl ?_)
 unfold c131
 (refine wx_Ba ?_;repeat' (first|with_reducible refine And.intro ?_ ?_|intro hsp))
 (refine G8 [1,2] (fun (i:Nat)=>[(5,AU0 1 4 (ofI a (L.take i)).length),(6,.int .i64 (i:Nat))]) (fun (i:Nat)=>⟨[(0,.cells [.isl (L.map vwC)])]++AJ5 1 vwC (ofI a (L.take i)),2⟩) (fun (i:Nat)=>i≤L.length) (fun (i:Nat)=>L.length - i) (0) [] rfl (fun _=>by first|exact Nat.zero_le _|(dsimp only;omega)) ?_ (by ((try (conv=>whnf));(rw [List.take_zero,ofI_nil]);exact wkxQ4)) ?_)
 ·exact Nat.zero_le _
 intro i hi
 have hc:(ofI a (L.take i)).length≤i:=Nat.le_trans (List.length_filter_le ..) (by rw [List.length_take];omega)
 by_cases hia:i < L.length
 ·have ht:=congrArg (ofI a) (Z9 (d:=dV) hia)
  rw [ofI_snoc] at ht
  generalize hx:nth dV L i=u at *
  obtain ⟨u1,u2,u3,u4⟩:=u
  dsimp only at ht
  by_cases hf:(u1:Int)=a
  ·rw [if_pos hf] at ht
   (refine wx_Ba ?_;repeat' (first|with_reducible refine And.intro ?_ ?_|intro hsp))
   all_goals exact D9 (i+1) [(1,3)] (by (try dsimp only);omega) (by first|omega|(dsimp only;omega)) rfl (by ((try dsimp only);rw [ht]);exact wkxQ4)
  ·rw [if_neg hf] at ht
   (refine wx_Ba ?_;repeat' (first|with_reducible refine And.intro ?_ ?_|intro hsp))
   all_goals exact D9 (i+1) [] (by (try dsimp only);omega) (by first|omega|(dsimp only;omega)) rfl (by ((try dsimp only);rw [ht]);exact wkxQ4)
 ·(refine wx_Ba ?_;repeat' (first|with_reducible refine And.intro ?_ ?_|intro hsp))
  rw [List.take_of_length_le (by omega)]
  exact AN8 (wk_frzO K3 AA3 fun hz=>by simp [lk,L6 hz])
theorem el_pred {f:Rw→List AV} {l:List Rw} {i sz:Nat} {K:List AV→Prop} {d x:Rw} (hf:∀ x,(f x).length=sz) (hj:i < l.length) (hx:nth d l i=x) (hk:K (f x)):ElX (l.map f) (((i+1:Nat):Int) - 1).toNat sz K:=by
 rw [show (((i+1:Nat):Int) - 1).toNat=i by omega];exact o7 hf hj hx hk
theorem q_same (hl:L.length≤4000):F4 80 [.isl (L.map vwC),.isl (L.map vwC)] (.bool true):=by
 refine F4.mk (I6 E9 b80 F6 ⟨J2,J2,trivial⟩ A9 rfl ?_)
 unfold c80
 (refine wx_Ba ?_;repeat' (first|with_reducible refine And.intro ?_ ?_|intro hsp))
 (refine G8 [0,1] (fun (i:Nat)=>[(5,.int .i64 (i:Nat))]) (fun (i:Nat)=>⟨[],0⟩) (fun (i:Nat)=>i≤L.length) (fun (i:Nat)=>L.length - i) (0) [] rfl (fun _=>by first|exact Nat.zero_le _|(dsimp only;omega)) ?_ (by ((try (conv=>whnf));exact K8)) ?_)
 ·exact Nat.zero_le _
 intro i hi
 by_cases hia:i < L.length
 ·generalize hx:nth dV L i=u at *
  (refine wx_Ba ?_;repeat' (first|with_reducible refine And.intro ?_ ?_|intro hsp))
  all_goals first|exact D9 (i+1) [] (by (try dsimp only);omega) (by first|omega|(dsimp only;omega)) rfl (by exact K8)|(exfalso;simp at hsp;done)
 ·(refine wx_Ba ?_;repeat' (first|with_reducible refine And.intro ?_ ?_|intro hsp))
  all_goals exact Q6 rfl
theorem p_check {i0 e0:Int} (h:ChkR R i0 e0):F4 116 [.agg [.isl (R.map rwC)]] (.tup [.int .i64 i0,.int .i64 e0]):=by
 refine F4.mk (I6 E9 b116 F6 ⟨Ac3,trivial⟩ D8 rfl ?_)
 unfold c116
 by_cases hbig:2000 < R.length
 ·obtain ⟨rfl,rfl⟩:=h.uniq (.big hbig)
  (refine wx_Ba ?_;repeat' (first|with_reducible refine And.intro ?_ ?_|intro hsp))
  all_goals exact E8 rfl D8
 ·(refine wx_Ba ?_;repeat' (first|with_reducible refine And.intro ?_ ?_|intro hsp))
  (refine G8 [1,14,15] (fun (i:Nat)=>[(16,.int .i64 (i:Nat))]) (fun (i:Nat)=>⟨[(0,.cells [.isl (R.map rwC)])],1⟩) (fun (i:Nat)=>i≤R.length∧∀ j,j < i→okW (nth dW R j)) (fun (i:Nat)=>R.length - i) (0) [] rfl (fun _=>by first|exact Nat.zero_le _|(dsimp only;omega)) ?_ (by ((try (conv=>whnf));exact K8)) ?_)
  ·exact ⟨Nat.zero_le _,fun j hj=>by omega⟩
  rintro i ⟨hi,hok⟩
  by_cases hil:i < R.length
  ·have hr:=k_right (nth dW R i).1 (nth dW R i).2.1 (nth dW R i).2.2.1 (nth dW R i).2.2.2
   by_cases hbad:okW (nth dW R i)
   ·rw [decide_eq_true (show inR 64 (nth dW R i).1∧inR 1024 (nth dW R i).2.1∧inR 1024 (nth dW R i).2.2.1 from hbad)] at hr
    have hok2:∀ j,j < i+1→okW (nth dW R j):=fun j hj=>by
     rcases Nat.lt_or_ge j i with h1|h1
     ·exact hok j h1
     ·obtain rfl:j=i:=by omega
      exact hbad
    clear hok hbad
    generalize hx:nth dW R i=u at *
    (refine wx_Ba ?_;repeat' (first|with_reducible refine And.intro ?_ ?_|intro hsp))
    all_goals exact D9 (i+1) [] ⟨by omega,hok2⟩ (by first|omega|(dsimp only;omega)) rfl (by exact K8)
   ·rw [decide_eq_false (show ¬ (inR 64 (nth dW R i).1∧inR 1024 (nth dW R i).2.1∧inR 1024 (nth dW R i).2.2.1) from hbad)] at hr
    obtain ⟨rfl,rfl⟩:=h.uniq (.range i (by omega) hil hok hbad)
    clear hok hbad
    generalize hx:nth dW R i=u at *
    (refine wx_Ba ?_;repeat' (first|with_reducible refine And.intro ?_ ?_|intro hsp))
    all_goals exact E8 rfl D8
  ·obtain rfl:i=R.length:=by omega
   (refine wx_Ba ?_;repeat' (first|with_reducible refine And.intro ?_ ?_|intro hsp))
   (refine G8 [1,27,28] (fun (i:Nat)=>[(29,.int .i64 (i:Nat))]) (fun (i:Nat)=>⟨[(0,.cells [.isl (R.map rwC)])],1⟩) (fun (i:Nat)=>i≤R.length∧∀ j,j+1 < i→AS9 (nth dW R j) (nth dW R (j+1))) (fun (i:Nat)=>R.length - i) (0) [] rfl (fun _=>by first|exact Nat.zero_le _|(dsimp only;omega)) ?_ (by ((try (conv=>whnf));exact K8)) ?_)
   ·exact ⟨Nat.zero_le _,fun j hj=>by omega⟩
   rintro i ⟨hi,hbf⟩
   by_cases hil:i < R.length
   ·cases i with
    | zero =>
     generalize hx:nth dW R 0=u at *
     (refine wx_Ba ?_;repeat' (first|with_reducible refine And.intro ?_ ?_|intro hsp))
     all_goals exact D9 1 [] ⟨by omega,fun j hj=>by omega⟩ (by first|omega|(dsimp only;omega)) rfl (by exact K8)
    | succ i =>
     by_cases hb:AS9 (nth dW R i) (nth dW R (i+1))
     ·have hbf2:∀ j,j+1 < i+1+1→AS9 (nth dW R j) (nth dW R (j+1)):=fun j hj=>by
       rcases Nat.lt_or_ge (j+1) (i+1) with h1|h1
       ·exact hbf j h1
       ·obtain rfl:j=i:=by omega
        exact hb
      clear hbf hok
      unfold AS9 at hb
      generalize hx:nth dW R i=u at *
      generalize hy:nth dW R (i+1)=w at *
      (refine wx_Ba ?_;repeat' (first|with_reducible refine And.intro ?_ ?_|intro hsp))
      all_goals exact D9 (i+1+1) [] ⟨by omega,hbf2⟩ (by first|omega|(dsimp only;omega)) rfl (by exact K8)
     ·obtain ⟨rfl,rfl⟩:=h.uniq (.pair (i+1) (by omega) (by omega) hil hok (fun j hj=>hbf j hj) hb)
      clear hbf hok h
      rw [show i+1 - 1=i by omega]
      by_cases h6:AS9 (nth dW R (i+1)) (nth dW R i)
      ·rw [if_pos h6]
       unfold AS9 at hb h6
       generalize hx:nth dW R i=u at *
       generalize hy:nth dW R (i+1)=w at *
       (refine wx_Ba ?_;repeat' (first|with_reducible refine And.intro ?_ ?_|intro hsp))
       all_goals exact E8 rfl D8
      ·rw [if_neg h6]
       unfold AS9 at hb h6
       generalize hx:nth dW R i=u at *
       generalize hy:nth dW R (i+1)=w at *
       (refine wx_Ba ?_;repeat' (first|with_reducible refine And.intro ?_ ?_|intro hsp))
       all_goals exact E8 rfl D8
   ·obtain rfl:i=R.length:=by omega
    obtain ⟨rfl,rfl⟩:=h.uniq (.ok (by omega) hok hbf)
    (refine wx_Ba ?_;repeat' (first|with_reducible refine And.intro ?_ ?_|intro hsp))
    all_goals exact E8 rfl D8
theorem BF9 {v:Rw}:Plain (.agg [.int .i64 v.1,.int .i64 v.2.1,.int .i64 v.2.2.1,.bool v.2.2.2]):=J7
theorem AX6 (u w:Rw) (b:Bool) (h:b=decide (AS9 u w)):F4 138 [.agg [.int .i64 u.1,.int .i64 u.2.1,.int .i64 u.2.2.1,.bool u.2.2.2],.agg [.int .i64 w.1,.int .i64 w.2.1,.int .i64 w.2.2.1,.bool w.2.2.2]] (.bool b):=by
 refine F4.mk (I6 E9 b138 F6 ⟨BF9,BF9,trivial⟩ A9 rfl ?_)
 unfold c138
 subst h
 have ht:AS9 u w ↔ u.1 < w.1∨(u.1=w.1∧u.2.1 < w.2.1):=Iff.rfl
 (refine wx_Ba ?_;repeat' (first|with_reducible refine And.intro ?_ ?_|intro hsp))
 all_goals exact Q6 (by first|(symm;rw [decide_eq_true_eq,ht];omega)|(symm;rw [decide_eq_false_iff_not,ht];omega)|(by_cases h4:u.2.1 < w.2.1<;>simp [ht,h4]<;>omega))
theorem q_check {i0 e0:Int} (h:ChkR R i0 e0):F4 77 [.agg [.isl (R.map rwC)]] (.tup [.int .i64 i0,.int .i64 e0]):=by
 refine F4.mk (I6 E9 b77 F6 ⟨Ac3,trivial⟩ D8 rfl ?_)
 unfold c77
 by_cases hbig:2000 < R.length
 ·obtain ⟨rfl,rfl⟩:=h.uniq (.big hbig)
  (refine wx_Ba ?_;repeat' (first|with_reducible refine And.intro ?_ ?_|intro hsp))
  all_goals exact E8 rfl D8
 ·(refine wx_Ba ?_;repeat' (first|with_reducible refine And.intro ?_ ?_|intro hsp))
  (refine G8 [1] (fun (i:Nat)=>[(4,.int .i64 (i:Nat))]) (fun (i:Nat)=>⟨[(0,.cells [.isl (R.map rwC)])],1⟩) (fun (i:Nat)=>i≤R.length∧∀ j,j < i→okW (nth dW R j)) (fun (i:Nat)=>R.length - i) (0) [] rfl (fun _=>by first|exact Nat.zero_le _|(dsimp only;omega)) ?_ (by ((try (conv=>whnf));exact K8)) ?_)
  ·exact ⟨Nat.zero_le _,fun j hj=>by omega⟩
  rintro i ⟨hi,hok⟩
  by_cases hil:i < R.length
  ·by_cases hbad:okW (nth dW R i)
   ·have hok2:∀ j,j < i+1→okW (nth dW R j):=fun j hj=>by
     rcases Nat.lt_or_ge j i with h1|h1
     ·exact hok j h1
     ·obtain rfl:j=i:=by omega
      exact hbad
    clear hok
    unfold okW at hbad
    generalize hx:nth dW R i=u at *
    (refine wx_Ba ?_;repeat' (first|with_reducible refine And.intro ?_ ?_|intro hsp))
    all_goals exact D9 (i+1) [] ⟨by omega,hok2⟩ (by first|omega|(dsimp only;omega)) rfl (by exact K8)
   ·obtain ⟨rfl,rfl⟩:=h.uniq (.range i (by omega) hil hok hbad)
    clear hok h
    unfold okW at hbad
    generalize hx:nth dW R i=u at *
    (refine wx_Ba ?_;repeat' (first|with_reducible refine And.intro ?_ ?_|intro hsp))
    all_goals exact E8 rfl D8
  ·obtain rfl:i=R.length:=by omega
   (refine wx_Ba ?_;repeat' (first|with_reducible refine And.intro ?_ ?_|intro hsp))
   (refine G8 [1] (fun (i:Nat)=>[(6,.int .i64 ((i+1:Nat):Int))]) (fun (i:Nat)=>⟨[(0,.cells [.isl (R.map rwC)])],1⟩) (fun (i:Nat)=>i≤R.length∧∀ j,j+1 < i+1→j+1 < R.length→AS9 (nth dW R j) (nth dW R (j+1))) (fun (i:Nat)=>R.length - i) (0) [] rfl (fun _=>by first|exact Nat.zero_le _|(dsimp only;omega)) ?_ (by ((try (conv=>whnf));exact K8)) ?_)
   ·exact ⟨Nat.zero_le _,fun j hj=>by omega⟩
   rintro i ⟨hi,hbf⟩
   by_cases hil:i+1 < R.length
   ·by_cases hb:AS9 (nth dW R i) (nth dW R (i+1))
    ·have hbf2:∀ j,j+1 < i+1+1→j+1 < R.length→AS9 (nth dW R j) (nth dW R (j+1)):=fun j hj hj2=>by
      rcases Nat.lt_or_ge (j+1) (i+1) with h1|h1
      ·exact hbf j h1 hj2
      ·obtain rfl:j=i:=by omega
       exact hb
     clear hbf hok
     have k1:=AX6 (nth dW R i) (nth dW R (i+1)) true (decide_eq_true hb).symm
     have k2:=AX6 (nth dW R (i+1)) (nth dW R i) false (decide_eq_false (by unfold AS9 at hb ⊢;omega)).symm
     unfold AS9 at hb
     generalize hx:nth dW R i=u at *
     generalize hy:nth dW R (i+1)=w at *
     (refine wx_Ba ?_;repeat' (first|with_reducible refine And.intro ?_ ?_|intro hsp))
     all_goals exact D9 (i+1) [] ⟨by omega,hbf2⟩ (by first|omega|(dsimp only;omega)) rfl (by exact K8)
    ·obtain ⟨rfl,rfl⟩:=h.uniq (.pair (i+1) (by omega) (by omega) hil hok (fun j hj=>hbf j hj (by omega)) hb)
     clear hbf hok h
     rw [show i+1 - 1=i by omega]
     by_cases h6:AS9 (nth dW R (i+1)) (nth dW R i)
     ·rw [if_pos h6]
      have k2:=AX6 (nth dW R (i+1)) (nth dW R i) true (decide_eq_true h6).symm
      unfold AS9 at hb h6
      generalize hx:nth dW R i=u at *
      generalize hy:nth dW R (i+1)=w at *
      (refine wx_Ba ?_;repeat' (first|with_reducible refine And.intro ?_ ?_|intro hsp))
      all_goals exact E8 rfl D8
     ·rw [if_neg h6]
      have k1:=AX6 (nth dW R i) (nth dW R (i+1)) false (decide_eq_false hb).symm
      have k2:=AX6 (nth dW R (i+1)) (nth dW R i) false (decide_eq_false h6).symm
      unfold AS9 at hb h6
      generalize hx:nth dW R i=u at *
      generalize hy:nth dW R (i+1)=w at *
      (refine wx_Ba ?_;repeat' (first|with_reducible refine And.intro ?_ ?_|intro hsp))
      all_goals exact E8 rfl D8
   ·obtain ⟨rfl,rfl⟩:=h.uniq (.ok (by omega) hok fun j hj=>hbf j (by omega) hj)
    (refine wx_Ba ?_;repeat' (first|with_reducible refine And.intro ?_ ?_|intro hsp))
    all_goals exact E8 rfl D8
end
end Go.Proofs.YtphggldkligldaaGreat.Sh
namespace Go.Pol
open Go.Am
theorem insV_last {L:List Vw} (h:srt L) {k:Nat} (hk:k < L.length) {d:Vw}:AY4 (nth d L k) (L.take k)=L.take (k+1):=by
 rw [Z9 (d:=d) hk]
 have h1:=BA0 (v:=nth d L k) (X:=L.take k) (Y:=[]) (fun u hu=>?_) (fun u Y' e=>by cases e)
 ·rwa [List.append_nil] at h1
 ·obtain ⟨i,hi,rfl⟩:=List.mem_iff_getElem.1 hu
  rw [List.length_take] at hi
  rw [List.getElem_take,K9 hk]
  exact (List.pairwise_iff_getElem.1 h) i k (by omega) hk (by omega)
theorem chain {α:Type} {P:Nat→α→Prop} {S:Nat→α→α→Prop} {n:Nat} (x0:α) (h0:P 0 x0) (hs:∀ k x,k < n→P k x→∃ y,P (k+1) y∧S k x y):∃ f:Nat→α,f 0=x0∧(∀ k,k≤n→P k (f k))∧∀ k,k < n→S k (f k) (f (k+1)):=by
 classical
 refine ⟨fun k=>Nat.rec x0 (fun k x=>if h:k < n∧P k x then Classical.choose (hs k x h.1 h.2) else x) k,rfl,?_,?_⟩
 ·intro k
  induction k with
  | zero=>exact fun _=>h0
  | succ k ih =>
   intro hk
   have h1:=ih (by omega)
   show P (k+1) (dite _ _ _)
   rw [dif_pos ⟨by omega,h1⟩]
   exact (Classical.choose_spec (hs k _ (by omega) h1)).1
 ·have key:∀ k,k≤n→P k (Nat.rec x0 (fun k x=>if h:k < n∧P k x then Classical.choose (hs k x h.1 h.2) else x) k):=by
   intro k
   induction k with
   | zero=>exact fun _=>h0
   | succ k ih =>
    intro hk
    have h1:=ih (by omega)
    show P (k+1) (dite _ _ _)
    rw [dif_pos ⟨by omega,h1⟩]
    exact (Classical.choose_spec (hs k _ (by omega) h1)).1
  intro k hk
  have h1:=key k (by omega)
  show S k _ (dite _ _ _)
  rw [dif_pos ⟨hk,h1⟩]
  exact (Classical.choose_spec (hs k _ hk h1)).2
theorem BM5 {L:List Vw} (h:srt L) {k:Nat} (hk:k < L.length):∀ u ∈ L.take k,¬ atV ((nth dV L k).1,(nth dV L k).2.1) u:=fun u hu ha=>by
 obtain ⟨i,hi,rfl⟩:=List.mem_iff_getElem.1 hu
 rw [List.length_take] at hi
 have h1:=(List.pairwise_iff_getElem.1 h) i k (by omega) hk (by omega)
 rw [List.getElem_take,K9 hk] at ha
 unfold bef at h1;unfold atV at ha;omega
end Go.Pol
namespace Go.Proofs.YtphggldkligldaaGreat.Sh
open Go Go.Am Go.Pol
theorem plx_Da {p:Prop} (h:p:=by ((first|exact plw|(with_reducible first|apply L9|apply J7|apply J2|apply H9|fail)|fail);first|done|fail)):p:=h
theorem ppx_Da {p:Prop} (h:p:=by ((first|with_reducible assumption|(with_reducible first|apply F7|apply H6|apply R8|apply R3 _ _|apply V8|apply I7 AA3|fail)|exact ppw|fail);first|done|fail)):p:=h
open Go.Proofs.YtphggldkligldaaGreat.Sh renaming plx_Da → plx
open Go.Proofs.YtphggldkligldaaGreat.Sh renaming ppx_Da → ppx
theorem wx_Da {p q:Prop} (hq:q) (h:X0 q→p:=by (intro hQz;((repeat' ((try (conv=>whnf));first|refine sxA ?_|refine o7 (d:=dV) K3 (by first|assumption|omega) (by with_reducible assumption) ?_|refine sxF ?_|refine cx_new (n:=2000) (m:=64) (by decide) (by decide) (by decide) (by decide) ?_|refine G9 (by assumption) ?_|refine cx_NT (by assumption) ?_|refine AA2 (by assumption) rfl rfl rfl rfl rfl (by decide) rfl ?_|refine sxH ?_|((with_reducible first|apply M9 hQz|apply N7 hQz)<;>(try intro hsp hQz))|exact hQz.out))<;>(try (conv=>whnf))))):p:=h ⟨hq⟩
def T0:TS:=⟨2000,64,fun _=>z0,fun _=>w0,fun _=>w0,fun _=>b0,fun _=>[],S0 2000 64,fun _=>dV,[],fun _=>0⟩
theorem tok_0:TOk [] T0:=⟨rfl,rfl,good_0 (by decide) (by decide) (by decide),fun a s hs=>(by cases hs),fun a=>rfl,List.nodup_nil,fun p s=>⟨fun h=>(by cases h),fun h=>(by cases h.1)⟩,rfl,fun f=>rfl,fun v hv=>(by cases hv),List.Pairwise.nil,Nat.zero_le _⟩
theorem tab_0 {p m:Nat}:(.ptr p 0 :: .mapr m::List.replicate 1024 (.int .i64 0):List AV)=tabC p m fun _=>0:=by
 unfold tabC
 congr 2
 refine List.ext_getElem? fun i=>?_
 by_cases h:i < 1024
 ·rw [List.getElem?_replicate,if_pos h,V6 h];rfl
 ·rw [List.getElem?_eq_none (by rw [List.length_replicate];omega),List.getElem?_eq_none (by rw [j4];omega)]
theorem end_newT {top:Bool} {h:Hp} {x r:AV} {t:TS} (a b c d e:Nat) {cs:List AV} (hd:Ae1 [a,b,c,d,e]=true)
  (hr:AH8 (rn [(0,a),(1,b),(2,c),(3,d),(4,e)]) h ⟨tabS t,5⟩→WkV Tryz.prog (rn [(0,a),(1,b),(2,c),(3,d),(4,e)]) h ⟨tabS t,5⟩ x r) (hc:cs=tabC b e t.C) (h0:lk h.l a=some (.cells cs)) (h1:lk h.l b=some (.cells [.sl c 0 t.n t.n 7,.sl d 0 t.m t.m 3,.int .i64 (t.S.fr:Nat)])) (h2:lk h.l c=some (.cells (D6 t.n t.V t.W t.V3 t.V4 t.S.L t.S.N t.S.P))) (h3:lk h.l d=some (.cells (O6 t.m t.S.A t.S.B t.S.C))) (h4:lk h.l e=some (.maps (t.E.map AO5))) :
  AV7 top Tryz.prog 0 h x (fun r' h'=>r'=r∧h'=⟨tabS t,5⟩):=by
 subst hc
 have hs:AH8 (rn [(0,a),(1,b),(2,c),(3,d),(4,e)]) h ⟨tabS t,5⟩:=fun i o hi=>by
  simp only [tabS,lk] at hi
  split at hi
  ·rename_i e;subst e;exact ⟨_,h0⟩
  ·split at hi
   ·rename_i e;subst e;exact ⟨_,h1⟩
   ·split at hi
    ·rename_i e;subst e;exact ⟨_,h2⟩
    ·split at hi
     ·rename_i e;subst e;exact ⟨_,h3⟩
     ·split at hi
      ·rename_i e;subst e;exact ⟨_,h4⟩
      ·cases hi
 refine y9 [(0,a),(1,b),(2,c),(3,d),(4,e)] rfl (Nat.zero_le _) (Q5 ?_) (hr hs) ?_ ⟨rfl,rfl⟩
 ·exact hd
 ·exact AO3 hs (show 0 < 5 by decide) h0 rfl (show 1 < 5 by decide) rfl (show 4 < 5 by decide)
   (J5 (show 1 < 5 by decide) h1 (C8 (AH0 rfl (show 2 < 5 by decide) rfl (Nat.le_refl _) (Nat.le_refl _)) (C8 (AH0 rfl (show 3 < 5 by decide) rfl (Nat.le_refl _) (Nat.le_refl _)) (C8 (L8 rfl) H7)))
   (F9 hs (show 2 < 5 by decide) h2 rfl F7 (F9 hs (show 3 < 5 by decide) h3 rfl H6 (AD4 hs (show 4 < 5 by decide) h4 rfl K4 J6))))
structure LocNT (f:Nat) (avs:List AV) (t:TS):Prop where
 out:AY7 Tryz.prog G0 f avs [] 0 fun x h=>x = .ptr 0 0∧h=⟨tabS t,5⟩
 pa:∀ x ∈ avs,Plain x
structure LocLT (f:Nat) (avs:List AV) (t:TS):Prop where
 out:AY7 Tryz.prog G0 f avs [] 0 fun x h=>x = .tup [.ptr 0 0,.int .i64 0]∧h=⟨tabS t,5⟩
 pa:∀ x ∈ avs,Plain x
def tabN (t:TS) (a b c d e:Nat):List (Nat × AObj):=[(a,.cells (tabC b e t.C)),(b,.cells [.sl c 0 t.n t.n 7,.sl d 0 t.m t.m 3,.int .i64 (t.S.fr:Nat)]),(c,.cells (D6 t.n t.V t.W t.V3 t.V4 t.S.L t.S.N t.S.P)),(d,.cells (O6 t.m t.S.A t.S.B t.S.C)),(e,.maps (t.E.map AO5))]
theorem AK4 {p:Nat→Nat→Prop} {i j i' j':Nat} {C:Nat→Nat} (h:p i i') (h':p j j'):RnL p (tabC i j C) (tabC i' j' C):=⟨J4 h,rn_map h',C9 R8⟩
theorem cx_NT {f nx:Nat} {avs:List AV} {t:TS} {l:List (Nat × AObj)} {K:AV→Hp→Prop} (hc:LocNT f avs t) (hk:K (.ptr nx 0) ⟨tabN t nx (nx+1) (nx+2) (nx+3) (nx+4)++l,nx+5⟩):AG2 Tryz.prog G0 (.fn f [] []) avs ⟨l,nx⟩ K:=by
 have k0:back [] nx 0 nx:=rfl
 have k1:back [] nx 1 (nx+1):=rfl
 have k2:back [] nx 2 (nx+2):=rfl
 have k3:back [] nx 3 (nx+3):=rfl
 have k4:back [] nx 4 (nx+4):=rfl
 refine AF0 (r':=.ptr nx 0) (l1:=tabN t nx (nx+1) (nx+2) (nx+3) (nx+4)) [] hc.out F6 rfl .nil (by simpa using C9 hc.pa) (by simp) (J4 k0)
  (.cons k0 (AK4 k1 k4) (.cons k1 ⟨Y3 k2,Y3 k3,D5 A8,trivial⟩ (.cons k2 X8 (.cons k3 p9 (.maps k4 K4 .nil))))) (Ad3 hk)
theorem cx_LT {f nx:Nat} {avs:List AV} {t:TS} {l:List (Nat × AObj)} {K:AV→Hp→Prop} (hc:LocLT f avs t) (hk:K (.tup [.ptr nx 0,.int .i64 0]) ⟨tabN t nx (nx+1) (nx+2) (nx+3) (nx+4)++l,nx+5⟩):AG2 Tryz.prog G0 (.fn f [] []) avs ⟨l,nx⟩ K:=by
 have k0:back [] nx 0 nx:=rfl
 have k1:back [] nx 1 (nx+1):=rfl
 have k2:back [] nx 2 (nx+2):=rfl
 have k3:back [] nx 3 (nx+3):=rfl
 have k4:back [] nx 4 (nx+4):=rfl
 refine AF0 (r':=.tup [.ptr nx 0,.int .i64 0]) (l1:=tabN t nx (nx+1) (nx+2) (nx+3) (nx+4)) [] hc.out F6 rfl .nil (by simpa using C9 hc.pa) (by simp) (Au4 ⟨J4 k0,D5 A8,trivial⟩)
  (.cons k0 (AK4 k1 k4) (.cons k1 ⟨Y3 k2,Y3 k3,D5 A8,trivial⟩ (.cons k2 X8 (.cons k3 p9 (.maps k4 K4 .nil))))) (Ad3 hk)
set_option maxRecDepth 20000 in
theorem n_New:LocNT 99 [] T0:=by
 refine LocNT.mk (G5 E9 b99 rfl ?_) fun x hx=>by cases hx
 unfold c99
 (refine wx_Da ?_;repeat' (first|with_reducible refine And.intro ?_ ?_|intro hsp))
 exact end_newT 4 0 1 2 3 rfl (fun hs=>X7 rfl (by decide)) tab_0 rfl rfl rfl rfl rfl
section
variable {L:List Vw} {R:List Rw}
theorem l_Load_no {i e:Int} (h:ChkR R i e) (he:e ≠ 0):F4 46 [.agg [.isl (R.map rwC)]] (.tup [.nilp,.int .i64 e]):=by
 refine F4.mk (I6 E9 b46 F6 ⟨Ac3,trivial⟩ (G7 fun x hx=>by simp only [List.mem_cons,List.not_mem_nil,or_false] at hx;rcases hx with rfl|rfl;exact AD0;exact A8) rfl ?_)
 unfold c46
 have hc:=p_check h
 (refine wx_Da ?_;repeat' (first|with_reducible refine And.intro ?_ ?_|intro hsp))
 all_goals exact E8 rfl (G7 fun x hx=>by simp only [List.mem_cons,List.not_mem_nil,or_false] at hx;rcases hx with rfl|rfl;exact AD0;exact A8)
theorem chk_of {i:Int} (hs:srt L) (hl:L.length≤2000) (ho:∀ v ∈ L,v.1 < 64∧v.2.1 < 1024∧v.2.2.1 < 1024):ChkR (L.map rwV) 0 0:=by
 refine .ok (by rw [List.length_map];exact hl) (fun j hj=>?_) fun j hj=>?_
 ·rw [K9 hj,List.getElem_map]
  rw [List.length_map] at hj
  have:=ho _ (List.getElem_mem hj)
  generalize L[j]=v at *
  unfold okW rwV;dsimp only;omega
 ·rw [K9 (by omega),K9 hj,List.getElem_map,List.getElem_map]
  rw [List.length_map] at hj
  have:=List.pairwise_iff_getElem.1 hs j (j+1) (by omega) hj (by omega)
  generalize L[j]=v at *
  generalize L[j+1]=w at *
  unfold bef at this
  unfold AS9 rwV;dsimp only;omega
theorem l_Load (hs:srt L) (hl:L.length≤2000) (ho:∀ v ∈ L,v.1 < 64∧v.2.1 < 1024∧v.2.2.1 < 1024):∃ t,TOk L t∧LocLT 46 [.agg [.isl (L.map vwC)]] t:=by
 obtain ⟨T,hT0,hT,hS⟩:=chain (n:=L.length) (P:=fun k t=>TOk (L.take k) t) (S:=fun k t t'=>AC1 117 [.agg (vwC (nth dV L k))] t (.tup []) t') T0 (by rw [List.take_zero];exact tok_0) (fun k x hk hx=>by
  have hm:=Z6 (d:=dV) hk
  obtain ⟨t',h1,_,_,h2⟩:=t_put hx (ho _ hm) (BM5 hs hk) (by rw [List.length_take];omega)
  rw [insV_last hs hk] at h1
  exact ⟨t',h1,h2⟩)
 refine ⟨T L.length,by have:=hT _ (Nat.le_refl _);rwa [List.take_length] at this,LocLT.mk (G5 E9 b46 rfl ?_) fun x hx=>by obtain rfl:=List.mem_singleton.1 hx;exact H9⟩
 unfold c46
 have hc:=p_check (chk_of (i:=0) hs hl ho)
 rw [An7] at hc
 have hnew:=n_New
 rw [← hT0] at hnew
 (refine wx_Da ?_;repeat' (first|with_reducible refine And.intro ?_ ?_|intro hsp))
 (refine G8 [19,20] (fun (k:Nat)=>[(6,.ptr 0 0),(21,.int .i64 (k:Nat))]) (fun (k:Nat)=>⟨tabN (T k) 0 1 2 3 4,5⟩) (fun (k:Nat)=>k≤L.length) (fun (k:Nat)=>L.length - k) (0) [(0,1),(1,2),(2,3),(3,4),(4,5)] rfl (fun _=>by first|exact Nat.zero_le _|(dsimp only;omega)) ?_ (by ((try (conv=>whnf));exact U7)) ?_)
 ·exact Nat.zero_le _
 intro k hk
 by_cases hkl:k < L.length
 ·have hput:=hS k hkl
  generalize hx:nth dV L k=v at *
  (refine wx_Da ?_;repeat' (first|with_reducible refine And.intro ?_ ?_|intro hsp))
  all_goals exact D9 (k+1) [] (by (try dsimp only);omega) (by first|omega|(dsimp only;omega)) rfl (by exact U7)
 ·obtain rfl:k=L.length:=by omega
  (refine wx_Da ?_;repeat' (first|with_reducible refine And.intro ?_ ?_|intro hsp))
  exact Al3 (fun hs=>AG9 (C8 (X7 rfl (show 0 < 5 by decide)) (C8 (L8 rfl) H7))) rfl rfl rfl rfl rfl
end
end Go.Proofs.YtphggldkligldaaGreat.Sh
namespace Go.Pol
open Go.Am
end Go.Pol
namespace Go.Proofs.YtphggldkligldaaGreat.Sh
open Go Go.Am Go.Pol
def natC (n:Nat):AV:=.int .i64 (n:Nat)
theorem AH3 {l:List Nat}:∀ x ∈ l.map natC,Plain x:=fun x hx=>by
 obtain ⟨n,_,rfl⟩:=List.mem_map.1 hx;exact A8
end Go.Proofs.YtphggldkligldaaGreat.Sh
namespace Go.Proofs.YtphggldkligldaaGreat.Sh
open Go Go.Am Go.Pol
end Go.Proofs.YtphggldkligldaaGreat.Sh
namespace Go.Pol
open Go.Am
def frs (L:List Vw):List Nat:=L.map (·.2.2.1)
end Go.Pol
namespace Go.Proofs.YtphggldkligldaaGreat.Sh
open Go Go.Am Go.Pol
theorem AQ1 (n:Nat):∀ x ∈ [natC n],Plain x:=fun x hx=>by obtain rfl:=List.mem_singleton.1 hx;exact A8
def nat1 (n:Nat):List AV:=[natC n]
theorem Ak3 (n:Nat):(nat1 n).length=1:=rfl
section
variable {L:List Vw} {R:List Rw}
def rdN (t:TS) (s:Sy) (a b c d e g:Nat):List (Nat × AObj):=[(a,.cells (tabC b e t.C)),(b,.cells [.sl c 0 t.n t.n 7,.sl d 0 t.m t.m 3,.int .i64 (t.S.fr:Nat)]),(c,.cells (D6 t.n t.V t.W t.V3 t.V4 t.S.L t.S.N t.S.P)),(d,.cells (O6 t.m t.S.A t.S.B t.S.C)),(e,.maps (t.E.map AO5)),(g,.cells s.a)]
end
end Go.Proofs.YtphggldkligldaaGreat.Sh
namespace Go.Am
section
variable {α:Type} {f:α→List AV} {L:List α} {d i:Nat} {r:List (Nat × AObj)}
theorem del_tS {k:List (Nat × AObj)→Prop} (h:BL6 r d k):BL6 (AJ5 d f L++r) d k:=by
 by_cases hz:L.length=0
 ·rw [AU1 hz];exact h
 ·rw [AL2 hz];simp only [List.cons_append,List.nil_append,BL6];rw [show Nat.beq d d=true by simp];exact h
theorem del_tO {k:List (Nat × AObj)→Prop} (hi:Nat.beq i d=false) (h:BL6 r i fun r'=>k (AJ5 d f L++r')):BL6 (AJ5 d f L++r) i k:=by
 by_cases hz:L.length=0
 ·rw [AU1 hz] at h ⊢;exact h
 ·rw [AL2 hz] at h ⊢;simp only [List.cons_append,List.nil_append,BL6,hi] at h ⊢;exact h
theorem lk_tN (hz:L.length=0):lk (AJ5 d f L++r) i=lk r i:=by rw [AU1 hz];rfl
theorem lk_tA {r':List (Nat × AObj)} (h:i ≠ d):lk (r'++AJ5 d f L) i=lk r' i:=by
 by_cases hz:L.length=0
 ·rw [AU1 hz,List.append_nil]
 ·rw [AL2 hz]
  induction r' with
  | nil=>simp [lk,h]
  | cons p r' ih=>obtain ⟨j,o⟩:=p;simp only [List.cons_append,lk];rw [ih]
theorem Ap0 (h:i ≠ d):lk (AJ5 d f L) i=none:=by
 have:=lk_tA (f:=f) (L:=L) (r':=[]) h
 exact this
theorem del_n {k:List (Nat × AObj)→Prop} (h:k []):BL6 [] i k:=h
end
structure TlO (P:Program) (σ:Nat→Nat) (h h':Hp) (ks:List Nat) (tl:List (Nat × AObj)):Prop where
 key:∀ j o,lk tl j=some o→j ∈ ks
 sub:∀ j o,lk tl j=some o→∃ o',lk h.l (σ j)=some o'
 wko:AH8 σ h h'→WkO P σ h h' tl
section
variable {P:Program} {σ:Nat→Nat} {h h':Hp} {ks:List Nat} {r:List (Nat × AObj)} {α:Type} {f:α→List AV} {L:List α} {i n:Nat}
theorem tl_nil:TlO P σ h h' [] []:=⟨fun j o hj=>(by cases hj),fun j o hj=>(by cases hj),fun _=>J6⟩
theorem BM3 (hp:∀ c,∀ x ∈ f c,Plain x) (h4:Nat.blt i h'.next=true) (h3:L.length ≠ 0→lk h.l (σ i)=some (.cells (flat f L))) (hr:TlO P σ h h' ks r):TlO P σ h h' (i::ks) (AJ5 i f L++r):=by
 refine ⟨fun j o hj=>?_,fun j o hj=>?_,fun hs=>Ae2 (wko_own (Ar6 h4) hp hs h3) (hr.wko hs)⟩
 ·rcases Aj0 hj with hj|hj
  ·obtain ⟨rfl,_⟩:=AQ4 hj;exact List.mem_cons_self ..
  ·exact List.mem_cons_of_mem _ (hr.key j o hj)
 ·rcases Aj0 hj with hj|hj
  ·obtain ⟨rfl,hz⟩:=AQ4 hj;exact ⟨_,h3 hz⟩
  ·exact hr.sub j o hj
theorem lk_keys:∀ {ks:List Nat} {j:Nat},j ∈ ks→∃ o,lk (ks.map fun k=>(k,AObj.cells [])) j=some o
 | k::ks,j,hj=>by
  simp only [List.map_cons,lk]
  by_cases e:j=k
  ·exact ⟨_,if_pos e⟩
  ·rw [if_neg e]
   rcases List.mem_cons.1 hj with e2|hj
   ·exact absurd e2 e
   ·exact lk_keys hj
theorem lk_up2 {tl:List (Nat × AObj)} (hk:∀ j o,lk tl j=some o→j ∈ ks) {j:Nat} {o:AObj}:∀ {l0:List (Nat × AObj)},lk (l0++tl) j=some o→∃ o',lk (l0++ks.map fun k=>(k,AObj.cells [])) j=some o'
 | [],hj=>lk_keys (hk j o hj)
 | (q,x)::l0,hj=>by
  simp only [List.cons_append,lk] at hj ⊢
  split
  ·exact ⟨_,rfl⟩
  ·rename_i e;rw [if_neg e] at hj;exact lk_up2 hk hj
theorem weak_t {ren:List (Nat × Nat)} {sf sf':SF} {l0 tl:List (Nat × AObj)} {nx:Nat} (h1:Ae1 ((l0.map fun p=>rn ren p.1)++ks.map (rn ren))=true) (h2:subB (rn ren) h.l l0=true) (ht:TlO P (rn ren) h ⟨l0++tl,nx⟩ ks tl)
  (hf:AH8 (rn ren) h ⟨l0++tl,nx⟩→WkF P (rn ren) h ⟨l0++tl,nx⟩ sf sf') (ho:AH8 (rn ren) h ⟨l0++tl,nx⟩→WkO P (rn ren) h ⟨l0++tl,nx⟩ l0):BS8 P ren n sf h sf' ⟨l0++tl,nx⟩:=by
 have hs:AH8 (rn ren) h ⟨l0++tl,nx⟩:=fun j o hj=>by
  rcases Aj0 hj with hj|hj
  ·exact AZ5 (h:=h) (h':=⟨l0,nx⟩) h2 j o hj
  ·exact ht.sub j o hj
 have h5:BC7 (rn ren) (l0++ks.map fun k=>(k,AObj.cells [])):=Q5 (by rw [List.map_append,List.map_map];exact h1)
 have h6:BC7 (rn ren) (l0++tl):=fun a b o o' ha hb e=>by
  obtain ⟨_,ha⟩:=lk_up2 ht.key ha
  obtain ⟨_,hb⟩:=lk_up2 ht.key hb
  exact h5 a b _ _ ha hb e
 exact ⟨Am3 h6 (AT0 (AC6 (hf hs))) (Ae2 (ho hs) (ht.wko hs))⟩
end
end Go.Am
namespace Go.Am
section
variable {P:Program} {G:Gl}
end
theorem BK9 {qa qb:Prop} {α:Type} {L:List α} {l:List (Nat × AObj)} {nx sz bytes d:Nat} {x:AV} {k:AV→Up→List Nat→Prop} (hq:X0 ((L.length=0→qa)∧(L.length ≠ 0→qb))) (h:X0 (L.length=0→qa)→X0 (L.length ≠ 0→qb)→AppX l nx sz bytes (AU0 d sz L.length) x k):AppX l nx sz bytes (AU0 d sz L.length) x k:=h ⟨hq.out.1⟩ ⟨hq.out.2⟩
end Go.Am
