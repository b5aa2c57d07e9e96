/-
 Fork.
-/
import Derived.Test.YtphggldkligldaaShE
set_option linter.unusedSimpArgs false
set_option linter.unusedVariables false
namespace Go.Pol
open Go.Am
def roV (v:Vw):Vw:=(v.1,v.2.1,v.2.2.1,false)
def cpV (b:Nat) (v:Vw):Vw:=(b,v.2.1,v.2.2.1,false)
structure Frk (L O:List Vw) (b k:Nat) (M:List Vw):Prop where
 mem:∀ v,v ∈ M ↔ (v ∈ L∧v ∉ O.take k)∨∃ u,u ∈ O.take k∧(v=roV u∨v=cpV b u)
 len:M.length=L.length+k
theorem nth_take_not {L:List Vw} (h:srt L) {k:Nat} (hk:k < L.length):nth dV L k ∉ L.take k:=fun hm=>take_ne h hk _ hm ⟨rfl,rfl⟩
theorem mem_take_s {L:List Vw} {k:Nat} (hk:k < L.length) {v:Vw}:v ∈ L.take (k+1) ↔ v ∈ L.take k∨v=nth dV L k:=by
 rw [take_nth (d:=dV) hk,List.mem_append,List.mem_singleton]
end Go.Pol
namespace Go.Proofs.Ytphggldkligldaa.Sh
open Go Go.Am Go.Pol
theorem plx_Yo {p:Prop} (h:p:=by ((first|assumption|exact plain_int|exact plain_bool|exact plain_undef|exact plain_nils|exact plain_nilp|exact plain_nilf|exact plain_str|with_reducible apply plain_int|with_reducible apply plain_bool|with_reducible apply plain_vwC|with_reducible apply plain_vwE|with_reducible apply plain_vs|with_reducible apply plain_vsA|with_reducible apply plain_t2|fail);first|done|fail)):p:=h
theorem prx_Yo {p:Prop} (h:p:=by (((repeat' (first|exact plain_all0|refine plain_all2 ?_ ?_|exact plain_int|first|assumption|exact plain_int|exact plain_bool|exact plain_undef|exact plain_nils|exact plain_nilp|exact plain_nilf|exact plain_str|with_reducible apply plain_int|with_reducible apply plain_bool|with_reducible apply plain_vwC|with_reducible apply plain_vwE|with_reducible apply plain_vs|with_reducible apply plain_vsA|with_reducible apply plain_t2)));first|done|fail)):p:=h
theorem ppx_Yo {p:Prop} (h:p:=by ((first|with_reducible assumption|with_reducible apply ints_plain|with_reducible apply cells_plain|with_reducible apply ends_plain|with_reducible apply cnt_plain|with_reducible apply memI_plain _ _|with_reducible apply vw_plain|with_reducible apply plain_flat vw_plain'|with_reducible apply a_plain|with_reducible apply plain_map (fun _=>plain_int)|with_reducible apply plain_map (fun _=>plain_bool)|exact prx_Yo|fail);first|done|fail)):p:=h
theorem wvx_Yo {p:Prop} (h:p:=by ((first|exact wk_undef|exact wk_int (by first|rfl|omega|(dsimp only;omega))|exact wk_bool rfl|exact wk_ptr rfl (by first|decide|simp|omega)|exact wk_map rfl (by first|decide|simp|omega)|exact wk_sl rfl (by first|decide|simp|omega) (by first|rfl|omega|simp) (by first|omega|simp) (by first|omega|simp)|exact wk_own rfl (by first|decide|simp|omega)|exact wk_nil0 (by first|rfl|simp)|exact wk_slown rfl (by first|decide|omega|(simp;done)) (by first|omega|(simp;done)) (by first|rfl|omega|(simp;done)|(simp;omega))|exact wk_plain hs plx_Yo|(with_reducible refine wk_fn ?_ ?_<;>repeat' (first|with_reducible exact wkl_nil|with_reducible refine wkl_cons ?_ ?_|exact wk_ptr rfl (by first|decide|simp|omega)))|(with_reducible refine wk_agg ?_;repeat' (first|with_reducible exact wkl_nil|with_reducible refine wkl_cons ?_ ?_|exact wk_int (by first|rfl|omega|(dsimp only;omega))|exact wk_bool rfl))|exact wk_yld rfl (by first|decide|simp|omega)|(with_reducible refine wk_tup ?_;repeat' (first|with_reducible exact wkl_nil|with_reducible refine wkl_cons ?_ ?_|exact wk_int (by first|rfl|omega|(dsimp only;omega))|exact wk_bool rfl|exact wk_ptr rfl (by first|decide|simp|omega)))|fail);first|done|fail)):p:=h
theorem wkx_Yo {p:Prop} (h:p:=by (refine weak_s (by exact oneOf_of rfl) (by exact subH_of rfl) (by intro hs;(repeat' ((try (conv=>whnf));first|with_reducible exact True.intro|with_reducible refine And.intro ?_ ?_|(with_reducible refine WkX.mk ?_;first|exact wvx_Yo|fail)))) (by intro hs;(try dsimp only);(repeat' (first|with_reducible exact wko_nil|refine wko_tab hs (by first|decide|omega|simp) rfl rfl (by first|decide|omega|simp) rfl (by first|decide|omega|simp) ?_|refine wko_maps hs (by first|decide|omega|simp) rfl rfl key_plain ?_|refine wko_plain hs (by first|decide|omega|simp) rfl (by first|rfl) (by (first|exact ppx_Yo|fail|((refine plain_app ?_ ?_)<;>(first|exact ppx_Yo|fail)))) ?_|refine wko_cells (by first|decide|omega|simp) rfl (by repeat' (first|with_reducible exact wkl_nil|with_reducible refine wkl_cons ?_ ?_|(first|exact wvx_Yo|fail))) ?_|refine wko_loop (by first|decide|omega|simp) rfl (by ((try subst hF);(try subst hF2);exact wkl_sd (wkf_sget (by (repeat' ((try (conv=>whnf));first|with_reducible exact True.intro|with_reducible refine And.intro ?_ ?_|(with_reducible refine WkX.mk ?_;first|exact wvx_Yo|fail))))))) ?_|exact wko_nil))))):p:=h
theorem wx_Yo {p q:Prop} (hq:q) (h:HidP q→p:=by (intro hQz;((repeat' ((try (conv=>whnf));first|(with_reducible first|refine run_cons ?_|refine runq_cons ?_|refine code_seq ?_|refine code_reg ?_|refine code_cond ?_|refine run_nil ?_|refine runq_nil ?_|refine rund_op rfl ?_|refine rund_nil ?_|refine code_block ?_|refine code_skip ?_|refine code_exit ?_|refine code_ret ?_|refine code_range ?_|refine rund_fast (by decide +kernel) ?_|refine rund_slow (by decide +kernel) ?_|refine br_tt ?_|refine br_ff ?_|refine br_n ?_|refine br_and ?_|refine br_or ?_|refine br_t (by assumption) ?_|refine br_f (by assumption) ?_|refine eq_i64 (by omega) ?_|refine el_tn ?_)|((with_reducible refine br_dt ?_ ?_);focus omega)|((with_reducible refine br_df ?_ ?_);focus omega)|((with_reducible apply br_dq hQz)<;>(try intro hsp hQz))|((with_reducible refine ck_x ?_ ?_);focus (first|omega|rfl|assumption|decide|(simp only [List.length_map,List.length_cons,List.length_nil];omega)))|(with_reducible first|refine eq_tn ?_|refine eq_tn1 ?_|refine eq_tn2 ?_|refine eq_m1 ?_|refine eq_m2 ?_|refine eq_zm ?_|refine eq_z ?_|refine len_map ?_|refine len_sl ?_|refine len_nils ?_|refine len_own' ?_|refine len_isl ?_|refine eq_u8 (by omega) ?_|refine eq_u16 (by omega) ?_)|(with_reducible first|refine eq_rfl ?_|refine ChkX.mk (by kernel_rfl) ?_|refine code_q rfl ?_|refine code_d (by decide +kernel) ?_|refine end_go rfl ?_)|refine cx_pool (by assumption) rfl rfl rfl (by decide) (by first|exact plain_iv|(simp [plain_int,plain_bool];done)|fail) (by first|exact plain_t2|exact plain_int|fail) rfl ?_|refine len_map ?_|refine len_isl ?_|refine el_of rfl rfl ?_|refine del_own ?_|refine del_own' rfl ?_|refine as_go rfl ?_|refine rd_go rfl ?_|refine rg_end rfl ?_|refine flat_ownX ?_|refine EqLX.mk ?_|((with_reducible apply br_bq hQz)<;>(try intro hsp hQz))|exact hQz.out))<;>(try (conv=>whnf))))):p:=h ⟨hq⟩
theorem wx_Yon {p q:Prop} (hq:q) (h:HidP q→p:=by (intro hQz;((repeat' ((try (conv=>whnf));first|(with_reducible first|refine run_cons ?_|refine runq_cons ?_|refine code_seq ?_|refine code_reg ?_|refine code_cond ?_|refine run_nil ?_|refine runq_nil ?_|refine rund_op rfl ?_|refine rund_nil ?_|refine code_block ?_|refine code_skip ?_|refine code_exit ?_|refine code_ret ?_|refine code_range ?_|refine rund_fast (by decide +kernel) ?_|refine rund_slow (by decide +kernel) ?_|refine br_tt ?_|refine br_ff ?_|refine br_n ?_|refine br_and ?_|refine br_or ?_|refine br_t (by assumption) ?_|refine br_f (by assumption) ?_|refine eq_i64 (by omega) ?_|refine el_tn ?_)|((with_reducible refine br_dt ?_ ?_);focus omega)|((with_reducible refine br_df ?_ ?_);focus omega)|((with_reducible apply br_dq hQz)<;>(try intro hsp hQz))|((with_reducible refine ck_x ?_ ?_);focus (first|omega|rfl|assumption|decide|(simp only [List.length_map,List.length_cons,List.length_nil];omega)))|(with_reducible first|refine eq_tn ?_|refine eq_tn1 ?_|refine eq_tn2 ?_|refine eq_m1 ?_|refine eq_m2 ?_|refine eq_zm ?_|refine eq_z ?_|refine len_map ?_|refine len_sl ?_|refine len_nils ?_|refine len_own' ?_|refine len_isl ?_|refine eq_u8 (by omega) ?_|refine eq_u16 (by omega) ?_)|refine mlen_of rfl (by with_reducible assumption) ?_|refine nthK_of (gc2 hx) ?_|refine dropK_of (by rw [cells_len];omega) rfl (takeK_of (by rw [List.length_drop,cells_len];omega) hcell ?_)|(with_reducible first|refine eq_rfl ?_|refine ChkX.mk (by kernel_rfl) ?_|refine code_d (by decide +kernel) ?_|refine end_go rfl ?_)|(refine cx_in hmix b53 rfl ?_;unfold c53)|(refine cx_in hmix b55 rfl ?_;unfold c55)|refine cx_locV (by assumption) rfl (by omega) ?_|refine cx_pool (by assumption) rfl rfl rfl (by decide) (by first|exact plain_iv|(simp [plain_int,plain_bool];done)|fail) (by first|exact plain_t2|exact plain_int|fail) rfl ?_|refine dcx_pool (by assumption) rfl rfl rfl (by first|(simp [plain_int,plain_bool];done)|fail) plain_t2 rfl rfl ?_|(refine cx_in hmix b76 rfl ?_;unfold c76)|refine cx_yldE hmix rfl hF2 hA2 hB2 rfl ?_|refine cx_tab c2 rfl rfl rfl rfl rfl (by decide) rfl ?_|refine dcx_pool (by assumption) rfl rfl rfl (by first|exact plain_iv|(simp [plain_int,plain_bool];done)|fail) (by first|exact plain_t2|exact plain_int|fail) rfl rfl ?_|refine len_map ?_|refine len_isl ?_|refine el_of rfl rfl ?_|refine del_own ?_|refine del_own' rfl ?_|refine as_go rfl ?_|refine rd_go rfl ?_|refine rg_end rfl ?_|refine flat_ownX ?_|refine EqLX.mk ?_|((with_reducible apply br_bq hQz)<;>(try intro hsp hQz))|exact hQz.out))<;>(try (conv=>whnf))))):p:=h ⟨hq⟩
section
variable {L:List Vw} {t:TS}
theorem fork_U {O:List Vw} {Q0:List Nat} {U:Nat→Vw} {k:Nat} (hk:k < O.length) (hU:Q0.map U=(O.take k).map roV++O.drop k):k < Q0.length∧U (nth 0 Q0 k)=nth dV O k:=by
 have hQl:Q0.length=O.length:=by
  have:=congrArg List.length hU
  simp only [List.length_map,List.length_append,List.length_take,List.length_drop] at this;omega
 have hkq:k < Q0.length:=by omega
 have h1:(Q0.map U)[k]? = ((O.take k).map roV++O.drop k)[k]?:=by rw [hU]
 rw [List.getElem?_map,List.getElem?_append_right (by rw [List.length_map,List.length_take];omega),List.length_map,List.length_take,Nat.min_eq_left (by omega),Nat.sub_self,List.getElem?_drop,Nat.add_zero,List.getElem?_eq_getElem hkq,List.getElem?_eq_getElem hk] at h1
 rw [nth_get hkq,nth_get hk];exact ⟨hkq,Option.some.inj h1⟩
theorem fork_step {a b:Nat} (hab:a ≠ b) (hb:b < 64) (hL:Go.Pol.srt L) (hnb:∀ v ∈ L,v.1 ≠ b) (hlen:L.length+(ofA a L).length≤2000) {Q0:List Nat} {k:Nat} {M:List Vw} (hk:k < (ofA a L).length) (hM:Frk L (ofA a L) b k M) (ht:TOk M t) (hQ:t.Q a=Q0) (hU:Q0.map t.U=((ofA a L).take k).map roV++(ofA a L).drop k) :
  ∃ t2 M2,(Frk L (ofA a L) b (k+1) M2∧TOk M2 t2∧t2.Q a=Q0∧Q0.map t2.U=((ofA a L).take (k+1)).map roV++(ofA a L).drop (k+1)) ∧
   LocP 68 [.int .i64 (nth 0 Q0 k:Nat),.agg (vwC (roV (nth dV (ofA a L) k)))] t.n t.m (poolS t.n t.m t.V t.W t.V3 t.V4 t.S) (.int .i64 0) (poolS t.n t.m (updV t.V (nth 0 Q0 k) (num (nth dV (ofA a L) k).1)) (updV t.W (nth 0 Q0 k) (num (nth dV (ofA a L) k).2.1)) (updV t.V3 (nth 0 Q0 k) (num (nth dV (ofA a L) k).2.2.1)) (updV t.V4 (nth 0 Q0 k) (bo false)) t.S) ∧
   LocT 66 [.agg (vwC (cpV b (nth dV (ofA a L) k)))] (t.chg (nth 0 Q0 k) (roV (nth dV (ofA a L) k)) t.C) (.tup []) t2:=by
 have hO:Go.Pol.srt (ofA a L):=hL.sublist List.filter_sublist
 have hQl:Q0.length=(ofA a L).length:=by
  have:=congrArg List.length hU
  simp only [List.length_map,List.length_append,List.length_take,List.length_drop] at this;omega
 have hkq:k < Q0.length:=by omega
 have hxm:nth 0 Q0 k ∈ t.Q a:=by rw [hQ];exact nth_mem hkq
 have hxU:t.U (nth 0 Q0 k)=nth dV (ofA a L) k:=by
  have h1:(Q0.map t.U)[k]? = (((ofA a L).take k).map roV++(ofA a L).drop k)[k]?:=by rw [hU]
  rw [List.getElem?_map,List.getElem?_append_right (by rw [List.length_map,List.length_take];omega),List.length_map,List.length_take,Nat.min_eq_left (by omega),Nat.sub_self,List.getElem?_drop,Nat.add_zero,List.getElem?_eq_getElem hkq,List.getElem?_eq_getElem hk] at h1
  rw [nth_get hkq,nth_get hk];exact Option.some.inj h1
 have hum:nth dV (ofA a L) k ∈ ofA a L:=nth_mem hk
 have hua:(nth dV (ofA a L) k).1=a:=(mem_ofA.1 hum).2
 have huL:nth dV (ofA a L) k ∈ L:=(mem_ofA.1 hum).1
 have hnt:=nth_take_not hO hk
 have htn:=take_ne hO hk
 have hms:=fun v=>mem_take_s (v:=v) hk
 have htk:=take_nth (d:=dV) hk
 have hdr:(ofA a L).drop k=nth dV (ofA a L) k::(ofA a L).drop (k+1):=by rw [nth_get hk,List.drop_eq_getElem_cons hk]
 generalize hu:nth dV (ofA a L) k=u at *
 generalize hx:nth 0 Q0 k=x at *
 have hxm':x ∈ t.Q u.1:=by rw [hua];exact hxm
 obtain ⟨X,Y,A,B,hQx,hMx,hX,hY,hsX,hsY⟩:=ht.around hxm' hxU
 have huM:u ∈ M:=by rw [hMx];simp
 have hok:=ht.ok u huM
 have hm:u.1 < t.m:=by rw [ht.hm];exact hok.1
 obtain ⟨i1,hput⟩:=p_put ht.pool.inv (s:=x) (i:=u.1) ⟨hm,hQx⟩ (num u.1) (num u.2.1) (num u.2.2.1) (bo false)
 have hT:=ht.chg (w:=roV u) (C:=t.C) hxU hQx hMx hX hY hsX hsY rfl rfl hok.2.2 (fun f=>by
  have:=ht.cnt f
  rw [hMx,cnt_app,cnt_cons] at this
  rw [cnt_app,cnt_cons];exact this) ⟨i1,ht.pool.m_le,ht.pool.n_le,ht.pool.n_pos⟩
 have hsrM:=ht.srt
 rw [hMx] at hsrM
 have hne:=mid_ne hsrM
 -- who is in the turned list
 have hmem1:∀ v,v ∈ A++roV u::B ↔ (v ∈ M∧v ≠ u)∨v=roV u:=fun v=>by
  rw [hMx]
  simp only [List.mem_append,List.mem_cons]
  constructor
  ·rintro (h|h|h)
   ·exact .inl ⟨.inl h,fun e=>hne.1 v h (e▸at_self u)⟩
   ·exact .inr h
   ·exact .inl ⟨.inr (.inr h),fun e=>hne.2 v h (e▸at_self u)⟩
  ·rintro (⟨h|h|h,h2⟩|h)
   ·exact .inl h
   ·exact absurd h h2
   ·exact .inr (.inr h)
   ·exact .inr (.inl h)
 have hsrt1:=hT.srt
 have hnat:∀ w ∈ A++roV u::B,¬ atV (b,u.2.1) w:=fun w hw ha=>by
  rcases (hmem1 w).1 hw with ⟨h1,h2⟩|h1
  ·rcases (hM.mem w).1 h1 with ⟨h3,_⟩ | ⟨u',h3,h4|h4⟩
   ·exact hnb w h3 ha.1
   ·rw [h4] at ha
    have h5:u'.1=b:=ha.1
    have h6:=(mem_ofA.1 (List.mem_of_mem_take h3)).2
    omega
   ·rw [h4] at ha
    have h5:u'.2.1=u.2.1:=ha.2
    have h6:=(mem_ofA.1 (List.mem_of_mem_take h3)).2
    exact htn u' h3 ⟨by rw [h6,hua],h5⟩
  ·rw [h1] at ha
   have h5:u.1=b:=ha.1
   omega
 have hl1:(A++roV u::B).length=L.length+k:=by rw [← hM.len,hMx];simp
 obtain ⟨t2,ht2,_,hQ2,hput2⟩:=t_put hT (v:=cpV b u) ⟨hb,hok.2⟩ hnat (by omega)
 refine ⟨t2,_,⟨⟨fun v=>?_,?_⟩,ht2,?_,?_⟩,hput,hput2⟩
 ·rw [mem_ins,hmem1,hM.mem]
  constructor
  ·rintro (h | ⟨⟨h1,h2⟩ | ⟨u',h1,h2⟩,h3⟩|h)
   ·exact .inr ⟨u,(hms u).2 (.inr rfl),.inr h⟩
   ·exact .inl ⟨h1,fun h4=>(((hms v).1 h4).elim h2 h3)⟩
   ·exact .inr ⟨u',(hms u').2 (.inl h1),h2⟩
   ·exact .inr ⟨u,(hms u).2 (.inr rfl),.inl h⟩
  ·rintro (⟨h1,h2⟩ | ⟨u',h1,h2⟩)
   ·exact .inr (.inl ⟨.inl ⟨h1,fun h3=>h2 ((hms v).2 (.inl h3))⟩,fun e=>h2 ((hms v).2 (.inr e))⟩)
   ·rcases (hms u').1 h1 with h3|rfl
    ·refine .inr (.inl ⟨.inr ⟨u',h3,h2⟩,fun e=>?_⟩)
     rcases h2 with h2|h2
     ·rw [e] at h2
      have h6:=(mem_ofA.1 (List.mem_of_mem_take h3)).2
      exact htn u' h3 ⟨by rw [h6,hua],by rw [h2];rfl⟩
     ·rw [e] at h2
      have h7:u.1=b:=by rw [h2];rfl
      omega
    ·rcases h2 with h2|h2
     ·exact .inr (.inr h2)
     ·exact .inl h2
 ·rw [len_ins,hl1];omega
 ·rw [hQ2 a (show a ≠ (cpV b u).1 from hab)];exact hQ
 ·have h1:=ht2.lst a
  rw [hQ2 a (show a ≠ (cpV b u).1 from hab),ofA_ins_ne (show a ≠ (cpV b u).1 from hab),← hT.lst] at h1
  have hQx':Q0=X++x::Y:=by rw [← hQ,← hua];exact hQx
  have h2:(t.chg x (roV u) t.C).Q a=Q0:=hQ
  rw [h2] at h1
  rw [h1]
  show Q0.map (updU t.U x (roV u))=_
  have h3:X.length=k:=by
   have hnd:=ht.pool.inv.st.nd a
   rw [hQ,hQx'] at hnd
   have e1:(X++x::Y)[X.length]? = some x:=by simp
   have e2:(X++x::Y)[k]? = some x:=by rw [← hQx',List.getElem?_eq_getElem hkq,← hx,nth_get hkq]
   have hl:=(List.getElem?_eq_some_iff.1 e1)
   have hl2:=(List.getElem?_eq_some_iff.1 e2)
   obtain ⟨b1,e1⟩:=hl
   obtain ⟨b2,e2⟩:=hl2
   exact (List.getElem_inj hnd).1 (e1.trans e2.symm)
  have h4:X.map t.U++u::Y.map t.U=((ofA a L).take k).map roV++u::(ofA a L).drop (k+1):=by
   rw [← hdr,← hU,hQx',List.map_append,List.map_cons,hxU]
  have h5:=List.append_inj h4 (by rw [List.length_map,List.length_map,List.length_take,h3];omega)
  rw [hQx',List.map_append,List.map_cons,map_updU hsX,map_updU hsY,updU_at,htk,List.map_append,h5.1,(List.cons.inj h5.2).2,List.append_assoc]
  rfl
theorem TOk.len_q (h:TOk L t) {a:Nat} (ha:a < 64):LocP 70 [.int .i64 (a:Nat)] t.n t.m (poolS t.n t.m t.V t.W t.V3 t.V4 t.S) (.tup [.int .i64 ((ofA a L).length:Nat),.int .i64 0]) (poolS t.n t.m t.V t.W t.V3 t.V4 t.S):=by
 rw [h.lenQ];exact p_len h.pool.inv h.pool.n_pos (by rw [h.hm];exact ha)
set_option maxHeartbeats 1600000 in
theorem t_Fork (h:TOk L t) {a b:Nat} (hab:a ≠ b) (ha:a < 64) (hb:b < 64) (hnb:ofA b L=[]) (hlen:L.length+(ofA a L).length≤2000) :
  ∃ t' M,TOk M t'∧Frk L (ofA a L) b (ofA a L).length M∧LocT 45 [.int .i64 (a:Nat),.int .i64 (b:Nat)] t (.tup [.int .i64 ((ofA a L).length:Nat),.int .i64 0]) t':=by
 have hnb':∀ v ∈ L,v.1 ≠ b:=fun v hv e=>by
  have : v ∈ ofA b L:=mem_ofA.2 ⟨hv,e⟩
  rw [hnb] at this;cases this
 have hlq:=h.lenQ a
 obtain ⟨T,hT0,hT,hst⟩:=chain (n:=(ofA a L).length) (P:=fun k (x:List Vw × TS)=>Frk L (ofA a L) b k x.1∧TOk x.1 x.2∧x.2.Q a=t.Q a∧(t.Q a).map x.2.U=((ofA a L).take k).map roV++(ofA a L).drop k)
  (S := fun k (x y : List Vw × TS) => LocP 68 [.int .i64 (nth 0 (t.Q a) k : Nat), .agg (vwC (roV (nth dV (ofA a L) k)))] x.2.n x.2.m (poolS x.2.n x.2.m x.2.V x.2.W x.2.V3 x.2.V4 x.2.S) (.int .i64 0) (poolS x.2.n x.2.m (updV x.2.V (nth 0 (t.Q a) k) (num (nth dV (ofA a L) k).1)) (updV x.2.W (nth 0 (t.Q a) k) (num (nth dV (ofA a L) k).2.1)) (updV x.2.V3 (nth 0 (t.Q a) k) (num (nth dV (ofA a L) k).2.2.1)) (updV x.2.V4 (nth 0 (t.Q a) k) (bo false)) x.2.S) ∧
   LocT 66 [.agg (vwC (cpV b (nth dV (ofA a L) k)))] (x.2.chg (nth 0 (t.Q a) k) (roV (nth dV (ofA a L) k)) x.2.C) (.tup []) y.2)
  (L, t) ⟨⟨fun v => by simp, rfl⟩, h, rfl, by rw [h.lst]; simp⟩ (fun k x hk hx => by
   obtain ⟨h1,h2,h3,h4⟩:=hx
   obtain ⟨t2,M2,h5,h6,h7⟩:=fork_step hab hb h.srt hnb' hlen hk h1 h2 h3 h4
   exact ⟨(M2,t2),h5,h6,h7⟩)
 obtain ⟨g1,g2,_,_⟩:=hT _ (Nat.le_refl _)
 have hen:=p_end h.pool.inv h.pool.n_pos (show a < t.m by rw [h.hm];exact ha) true
 rw [if_pos rfl,orErr_hd] at hen
 have k1:=k_arenas2 (a:Nat) (b:Nat)
 rw [if_pos ⟨inR64 ha,inR64 hb⟩] at k1
 have l1:=h.len_q ha
 have l2:LocP 70 [.int .i64 (b:Nat)] t.n t.m (poolS t.n t.m t.V t.W t.V3 t.V4 t.S) (.tup [.int .i64 0,.int .i64 0]) (poolS t.n t.m t.V t.W t.V3 t.V4 t.S):=by have:=h.len_q hb;rw [hnb] at this;exact this
 have hml:(t.E.map keyE).length=L.length:=by rw [List.length_map,h.elen]
 have hLl:=h.len
 refine ⟨(T (ofA a L).length).2,(T (ofA a L).length).1,g2,g1,LocT.mk (loc_x hmix b45 rfl ?_) plain_i2 plain_t2⟩
 unfold c45
 generalize hn1:(ofA a L).length=n1 at *
 (refine wx_Yon ?_;repeat' (first|with_reducible refine And.intro ?_ ?_|intro hsp))
 refine range_x hmix b74 rfl trivial ?_
 intro frl2 asl2 bdl2 hF2 hA2 hB2
 unfold c74
 (refine wx_Yo ?_;repeat' (first|with_reducible refine And.intro ?_ ?_|intro hsp))
 have hTQ:(T 0).2=t:=by rw [hT0]
 rw [← hlq] at hen ⊢
 clear hen l1 l2 k1
 (refine loop_x [0,1,2,3] (fun (k:Nat)=>[(5,.int .i64 (if n1=0 then 0 else hd ((t.Q a).drop k))),(6,.int .i64 (if n1=0 then 4 else 0))]) (fun (k:Nat)=>⟨tabS (T k).2++[(5,.cells [.ptr 0 0]),(6,.cells [.int .i64 (b:Nat)]),(18,.cells [.ptr 1 0]),(19,.cells [.int .i64 (a:Nat)]),(20,.cells [.bool false]),(21,.loop .ready none frl2 [65,66] asl2 bdl2)],22⟩) (fun (k:Nat)=>k≤n1) (fun (k:Nat)=>n1 - k) (0) [] rfl (fun _=>by first|exact Nat.zero_le _|(dsimp only;omega)) ?_ (by ((try (conv=>whnf));(rw [hTQ]);exact wkx_Yo)) ?_)
 ·exact Nat.zero_le _
 intro k hk
 by_cases hkl:k < n1
 ·obtain ⟨f1,f2,f3,f4⟩:=hT k hk
  obtain ⟨c1,c2⟩:=hst k hkl
  have hkq:k < ((T k).2.Q a).length:=by rw [f3];omega
  obtain ⟨hx,hd0,hnx,hnv,hm,hcell⟩:=f2.at_ hkq
  rw [f3] at hx hd0 hnx hcell
  rw [(fork_U (by omega) f4).2] at hcell
  have hua:(nth dV (ofA a L) k).1=a:=(mem_ofA.1 (nth_mem (by omega))).2
  rw [if_neg (show ¬ n1=0 by omega),if_neg (show ¬ n1=0 by omega),hd0]
  have hnx0:¬ n1=0:=by omega
  have hn2:(T k).2.n=2000:=f2.hn
  clear hnv hm f1 f2 f3 f4 hd0 hkq
  generalize nth dV (ofA a L) k=u at *
  generalize nth 0 (t.Q a) k=x at *
  obtain ⟨ua,uk,uf,uw⟩:=u
  unfold roV vwC at c1
  unfold cpV vwC at c2
  unfold vwC at hcell
  dsimp only at c1 c2 hcell hua
  subst hua
  (refine wx_Yon ?_;repeat' (first|with_reducible refine And.intro ?_ ?_|intro hsp))
  all_goals exact next_x (k+1) [] (by (try dsimp only);omega) (by first|omega|(dsimp only;omega)) rfl (by ((try dsimp only);rw [if_neg hnx0]);exact wkx_Yo)
 ·obtain rfl:k=n1:=by omega
  have hd1:hd ((t.Q a).drop k) = -1:=by rw [List.drop_of_length_le (by omega)];rfl
  rw [hd1]
  by_cases hz:k=0
  ·rw [if_pos hz,if_pos hz]
   (refine wx_Yo ?_;repeat' (first|with_reducible refine And.intro ?_ ?_|intro hsp))
   exact end_tab rfl plain_t2 rfl rfl rfl rfl rfl
  ·rw [if_neg hz,if_neg hz]
   (refine wx_Yo ?_;repeat' (first|with_reducible refine And.intro ?_ ?_|intro hsp))
   exact end_tab rfl plain_t2 rfl rfl rfl rfl rfl
end
end Go.Proofs.Ytphggldkligldaa.Sh
