/-
 Drop.
-/
import Derived.Test.YtphggldkligldaaYo
set_option linter.unusedSimpArgs false
set_option linter.unusedVariables false
namespace Go.Pol
open Go.Am
def noA (a:Nat) (L:List Vw):List Vw:=L.filter fun v=>decide (v.1 ≠ a)
def lessV (L O:List Vw) (k:Nat):List Vw:=L.filter fun v=>decide (v ∉ O.take k)
theorem less_0 (L O:List Vw):lessV L O 0=L:=by unfold lessV;rw [List.filter_eq_self];intro v _;simp
theorem less_all (L:List Vw) (a:Nat):lessV L (ofA a L) (ofA a L).length=noA a L:=by
 unfold lessV noA
 rw [List.take_length]
 refine List.filter_congr fun v hv=>decide_eq_decide.2 ?_
 rw [mem_ofA]
 exact ⟨fun h e=>h ⟨hv,e⟩,fun h e=>h e.2⟩
theorem less_s {L O A B:List Vw} {k:Nat} (hL:srt L) (hk:k < O.length) (h:lessV L O k=A++nth dV O k::B):lessV L O (k+1)=A++B:=by
 have hs:srt (lessV L O k):=hL.sublist List.filter_sublist
 have hs2:=hs
 rw [h] at hs2
 have hne:=mid_ne hs2
 refine srt_ext (hL.sublist List.filter_sublist) (hs2.sublist (List.Sublist.append_left (List.sublist_cons_self ..) _)) fun v=>?_
 have hm:v ∈ lessV L O k ↔ v ∈ A∨v=nth dV O k∨v ∈ B:=by rw [h];simp
 have h1:v ∈ lessV L O k ↔ v ∈ L∧v ∉ O.take k:=by unfold lessV;rw [List.mem_filter,decide_eq_true_eq]
 have h2:v ∈ lessV L O (k+1) ↔ v ∈ L∧¬ (v ∈ O.take k∨v=nth dV O k):=by unfold lessV;rw [List.mem_filter,decide_eq_true_eq,mem_take_s hk]
 rw [h2,List.mem_append]
 constructor
 ·rintro ⟨h3,h4⟩
  rcases hm.1 (h1.2 ⟨h3,fun e=>h4 (.inl e)⟩) with h5|h5|h5
  ·exact .inl h5
  ·exact absurd (.inr h5) h4
  ·exact .inr h5
 ·intro h3
  have h4:v ∈ lessV L O k:=hm.2 (h3.elim .inl fun h=>.inr (.inr h))
  refine ⟨(h1.1 h4).1,fun e=>?_⟩
  rcases e with e|e
  ·exact (h1.1 h4).2 e
  ·rcases h3 with h5|h5
   ·exact hne.1 v h5 (e▸at_self v)
   ·exact hne.2 v h5 (e▸at_self v)
def goneB (L O:List Vw) (k f:Nat):Bool:=decide (f ∈ frs (O.take k)) && decide (cntF (lessV L O k) f=0)
theorem gone_s {L O A B:List Vw} {k f:Nat} (hL:srt L) (hk:k < O.length) (h:lessV L O k=A++nth dV O k::B):goneB L O (k+1) f=if f=(nth dV O k).2.2.1 then decide (cntF (A++B) (nth dV O k).2.2.1=0) else goneB L O k f:=by
 unfold goneB
 rw [less_s hL hk h,h,take_nth (d:=dV) hk]
 have e1:f ∈ frs (O.take k++[nth dV O k]) ↔ f ∈ frs (O.take k)∨f=(nth dV O k).2.2.1:=by unfold frs;simp
 by_cases hf:f=(nth dV O k).2.2.1
 ·rw [if_pos hf,decide_eq_true (e1.2 (.inr hf)),← hf];rfl
 ·rw [if_neg hf]
  have e2:decide (f ∈ frs (O.take k++[nth dV O k]))=decide (f ∈ frs (O.take k)):=decide_eq_decide.2 (by rw [e1];exact ⟨fun h=>h.elim id fun e=>absurd e hf,.inl⟩)
  rw [e2,cnt_app,cnt_app,cnt_cons,if_neg (Ne.symm hf),Nat.zero_add]
theorem gone_0 (L O:List Vw) (f:Nat):goneB L O 0 f=false:=by unfold goneB frs;simp
def goneU (g:Nat→Bool) (k:Nat):List Nat:=(List.range k).filter g
theorem goneU_s (g:Nat→Bool) (k:Nat):goneU g (k+1)=if g k=true then goneU g k++[k] else goneU g k:=by
 unfold goneU;rw [List.range_succ,List.filter_append]
 by_cases h:g k=true<;>simp [h]
theorem goneU_0 (g:Nat→Bool):goneU g 0=[]:=rfl
theorem goneU_le (g:Nat→Bool) (k:Nat):(goneU g k).length≤k:=Nat.le_trans (List.length_filter_le ..) (by rw [List.length_range];exact Nat.le_refl _)
def goneL (L:List Vw) (a:Nat):List Nat:=goneU (goneB L (ofA a L) (ofA a L).length) 1024
theorem rep_bool:(List.replicate 1024 (.bool false):List AV)=memA 1024 fun _=>.bool false:=by
 refine List.ext_getElem? fun i=>?_
 by_cases h:i < 1024
 ·rw [List.getElem?_replicate,if_pos h,memA_get h]
 ·rw [List.getElem?_eq_none (by rw [List.length_replicate];omega),List.getElem?_eq_none (by rw [memA_len];omega)]
end Go.Pol
namespace Go.Proofs.Ytphggldkligldaa.Sh
open Go Go.Am Go.Pol
theorem plx_Yp {p:Prop} (h:p:=by ((first|assumption|exact plain_int|exact plain_bool|exact plain_undef|exact plain_nils|exact plain_nilp|exact plain_nilf|exact plain_str|with_reducible apply plain_int|with_reducible apply plain_bool|with_reducible apply plain_vwC|with_reducible apply plain_vwE|with_reducible apply plain_vs|with_reducible apply plain_vsA|with_reducible apply plain_t2|with_reducible apply plain_ga|fail);first|done|fail)):p:=h
theorem prx_Yp {p:Prop} (h:p:=by (((repeat' (first|exact plain_all0|refine plain_all2 ?_ ?_|exact plain_int|first|assumption|exact plain_int|exact plain_bool|exact plain_undef|exact plain_nils|exact plain_nilp|exact plain_nilf|exact plain_str|with_reducible apply plain_int|with_reducible apply plain_bool|with_reducible apply plain_vwC|with_reducible apply plain_vwE|with_reducible apply plain_vs|with_reducible apply plain_vsA|with_reducible apply plain_t2|with_reducible apply plain_ga)));first|done|fail)):p:=h
theorem ppx_Yp {p:Prop} (h:p:=by ((first|with_reducible assumption|with_reducible apply ints_plain|with_reducible apply cells_plain|with_reducible apply ends_plain|with_reducible apply cnt_plain|with_reducible apply memI_plain _ _|with_reducible apply vw_plain|with_reducible apply plain_flat vw_plain'|with_reducible apply a_plain|with_reducible apply bool_plain|with_reducible apply plain_flat nat1_plain|with_reducible apply plain_map (fun _=>plain_int)|with_reducible apply plain_map (fun _=>plain_bool)|exact prx_Yp|fail);first|done|fail)):p:=h
theorem wvx_Yp {p:Prop} (h:p:=by ((first|exact wk_undef|exact wk_int (by first|rfl|omega|(dsimp only;omega))|exact wk_bool rfl|exact wk_ptr rfl (by first|decide|simp|omega)|exact wk_map rfl (by first|decide|simp|omega)|exact wk_sl rfl (by first|decide|simp|omega) (by first|rfl|omega|simp) (by first|omega|simp) (by first|omega|simp)|exact wk_own rfl (by first|decide|simp|omega)|exact wk_nil0 (by first|rfl|simp)|exact wk_slown rfl (by first|decide|omega|(simp;done)) (by first|omega|(simp;done)) (by first|rfl|omega|(simp;done)|(simp;omega))|exact wk_plain hs plx_Yp|(with_reducible refine wk_fn ?_ ?_<;>repeat' (first|with_reducible exact wkl_nil|with_reducible refine wkl_cons ?_ ?_|exact wk_ptr rfl (by first|decide|simp|omega)))|(with_reducible refine wk_agg ?_;repeat' (first|with_reducible exact wkl_nil|with_reducible refine wkl_cons ?_ ?_|exact wk_int (by first|rfl|omega|(dsimp only;omega))|exact wk_bool rfl))|exact wk_yld rfl (by first|decide|simp|omega)|(with_reducible refine wk_tup ?_;repeat' (first|with_reducible exact wkl_nil|with_reducible refine wkl_cons ?_ ?_|exact wk_int (by first|rfl|omega|(dsimp only;omega))|exact wk_bool rfl|exact wk_ptr rfl (by first|decide|simp|omega)))|fail);first|done|fail)):p:=h
theorem wkx_Yp {p:Prop} (h:p:=by (refine weak_s (by exact oneOf_of rfl) (by exact subH_of rfl) (by intro hs;(repeat' ((try (conv=>whnf));first|with_reducible exact True.intro|with_reducible refine And.intro ?_ ?_|(with_reducible refine WkX.mk ?_;first|exact wvx_Yp|fail)))) (by intro hs;(try dsimp only);(repeat' (first|with_reducible exact wko_nil|refine wko_tab hs (by first|decide|omega|simp) rfl rfl (by first|decide|omega|simp) rfl (by first|decide|omega|simp) ?_|refine wko_maps hs (by first|decide|omega|simp) rfl rfl key_plain ?_|refine wko_plain hs (by first|decide|omega|simp) rfl (by first|rfl) (by (first|exact ppx_Yp|fail|((refine plain_app ?_ ?_)<;>(first|exact ppx_Yp|fail)))) ?_|refine wko_cells (by first|decide|omega|simp) rfl (by repeat' (first|with_reducible exact wkl_nil|with_reducible refine wkl_cons ?_ ?_|(first|exact wvx_Yp|fail))) ?_|refine wko_loop (by first|decide|omega|simp) rfl (by ((try subst hF);(try subst hF2);exact wkl_sd (wkf_sget (by (repeat' ((try (conv=>whnf));first|with_reducible exact True.intro|with_reducible refine And.intro ?_ ?_|(with_reducible refine WkX.mk ?_;first|exact wvx_Yp|fail))))))) ?_|exact wko_nil))))):p:=h
theorem wkx_Yp1 {p:Prop} (h:p:=by (refine weak_o (by rfl) (by rfl) (fun hz=>by first|exact absurd rfl hz|(simp [lk,lk_ownE hz];done)|exact lk_ownE hz|rfl) (by rfl) (nat1_plain) (by intro hs;(repeat' ((try (conv=>whnf));first|with_reducible exact True.intro|with_reducible refine And.intro ?_ ?_|(with_reducible refine WkX.mk ?_;first|exact wvx_Yp|fail)))) (by intro hs;(repeat' (first|with_reducible exact wko_nil|refine wko_tab hs (by first|decide|omega|simp) rfl rfl (by first|decide|omega|simp) rfl (by first|decide|omega|simp) ?_|refine wko_maps hs (by first|decide|omega|simp) rfl rfl key_plain ?_|refine wko_plain hs (by first|decide|omega|simp) rfl (by first|rfl) (by (first|exact ppx_Yp|fail|((refine plain_app ?_ ?_)<;>(first|exact ppx_Yp|fail)))) ?_|refine wko_cells (by first|decide|omega|simp) rfl (by repeat' (first|with_reducible exact wkl_nil|with_reducible refine wkl_cons ?_ ?_|(first|exact wvx_Yp|fail))) ?_|refine wko_loop (by first|decide|omega|simp) rfl (by ((try subst hF);(try subst hF2);exact wkl_sd (wkf_sget (by (repeat' ((try (conv=>whnf));first|with_reducible exact True.intro|with_reducible refine And.intro ?_ ?_|(with_reducible refine WkX.mk ?_;first|exact wvx_Yp|fail))))))) ?_|exact wko_nil))))):p:=h
theorem wx_Yp {p q:Prop} (hq:q) (h:HidP q→p:=by (intro hQz;((repeat' ((try (conv=>whnf));first|(with_reducible first|refine run_cons ?_|refine runq_cons ?_|refine code_seq ?_|refine code_reg ?_|refine code_cond ?_|refine run_nil ?_|refine runq_nil ?_|refine rund_op rfl ?_|refine rund_nil ?_|refine code_block ?_|refine code_skip ?_|refine code_exit ?_|refine code_ret ?_|refine code_range ?_|refine rund_fast (by decide +kernel) ?_|refine rund_slow (by decide +kernel) ?_|refine br_tt ?_|refine br_ff ?_|refine br_n ?_|refine br_and ?_|refine br_or ?_|refine br_t (by assumption) ?_|refine br_f (by assumption) ?_|refine eq_i64 (by omega) ?_|refine el_tn ?_)|((with_reducible refine br_dt ?_ ?_);focus omega)|((with_reducible refine br_df ?_ ?_);focus omega)|((with_reducible apply br_dq hQz)<;>(try intro hsp hQz))|((with_reducible refine ck_x ?_ ?_);focus (first|omega|rfl|assumption|decide|(simp only [List.length_map,List.length_cons,List.length_nil];omega)))|(with_reducible first|refine eq_tn ?_|refine eq_tn1 ?_|refine eq_tn2 ?_|refine eq_m1 ?_|refine eq_m2 ?_|refine eq_zm ?_|refine eq_z ?_|refine len_map ?_|refine len_sl ?_|refine len_nils ?_|refine len_own' ?_|refine len_isl ?_|refine eq_u8 (by omega) ?_|refine eq_u16 (by omega) ?_)|refine dropK_of (by rw [memA_len];omega) rfl (takeK_of (by rw [List.length_drop,memA_len];omega) hgl ?_)|refine nthK_of (hgx) ?_|(with_reducible first|refine eq_rfl ?_|refine ChkX.mk (by kernel_rfl) ?_|refine code_q rfl ?_|refine code_d (by decide +kernel) ?_|refine end_go rfl ?_)|refine cx_pool (by assumption) rfl rfl rfl (by decide) (by first|(simp [plain_int,plain_bool];done)|fail) plain_t2 rfl ?_|refine apps_own (f:=nat1) (l2:=[f]) nat1_len (src_of rfl rfl) (fun hz=>by first|(simp [lk,lk_ownE hz];done)|exact lk_ownE hz) (fun hz=>by first|(simp [lk,lk_ownN hz];done)|exact lk_ownN hz) rfl (by decide) ⟨by omega,by omega⟩ rfl ?_|(refine appx_own (f:=nat1) (l2:=[f]) nat1_len (src_of rfl rfl) (fun hz=>by first|(simp [lk,lk_ownE hz];done)|exact lk_ownE hz) rfl (by decide) ⟨by omega,by omega⟩ ?_ ?_<;>intro hzz)|refine len_map ?_|refine len_isl ?_|refine el_of rfl rfl ?_|refine del_own ?_|refine del_own' rfl ?_|refine as_go rfl ?_|refine rd_go rfl ?_|refine rg_end rfl ?_|refine flat_ownX ?_|refine EqLX.mk ?_|((with_reducible apply br_bq hQz)<;>(try intro hsp hQz))|exact hQz.out))<;>(try (conv=>whnf))))):p:=h ⟨hq⟩
theorem wx_Ypn {p q:Prop} (hq:q) (h:HidP q→p:=by (intro hQz;((repeat' ((try (conv=>whnf));first|(with_reducible first|refine run_cons ?_|refine runq_cons ?_|refine code_seq ?_|refine code_reg ?_|refine code_cond ?_|refine run_nil ?_|refine runq_nil ?_|refine rund_op rfl ?_|refine rund_nil ?_|refine code_block ?_|refine code_skip ?_|refine code_exit ?_|refine code_ret ?_|refine code_range ?_|refine rund_fast (by decide +kernel) ?_|refine rund_slow (by decide +kernel) ?_|refine br_tt ?_|refine br_ff ?_|refine br_n ?_|refine br_and ?_|refine br_or ?_|refine br_t (by assumption) ?_|refine br_f (by assumption) ?_|refine eq_i64 (by omega) ?_|refine el_tn ?_)|((with_reducible refine br_dt ?_ ?_);focus omega)|((with_reducible refine br_df ?_ ?_);focus omega)|((with_reducible apply br_dq hQz)<;>(try intro hsp hQz))|((with_reducible refine ck_x ?_ ?_);focus (first|omega|rfl|assumption|decide|(simp only [List.length_map,List.length_cons,List.length_nil];omega)))|(with_reducible first|refine eq_tn ?_|refine eq_tn1 ?_|refine eq_tn2 ?_|refine eq_m1 ?_|refine eq_m2 ?_|refine eq_zm ?_|refine eq_z ?_|refine len_map ?_|refine len_sl ?_|refine len_nils ?_|refine len_own' ?_|refine len_isl ?_|refine eq_u8 (by omega) ?_|refine eq_u16 (by omega) ?_)|refine nthK_of (gc2 hx) ?_|refine dropK_of (by rw [cells_len];omega) rfl (takeK_of (by rw [List.length_drop,cells_len];omega) hcell ?_)|refine nthK_of (hC) ?_|refine set1K_of (by rw [memA_len];omega) hset ?_|(with_reducible first|refine eq_rfl ?_|refine ChkX.mk (by kernel_rfl) ?_|refine code_d (by decide +kernel) ?_|refine end_go rfl ?_)|(refine cx_in hmix b53 rfl ?_;unfold c53)|(refine cx_in hmix b55 rfl ?_;unfold c55)|refine cx_locV (by assumption) rfl (by omega) ?_|(refine cx_in hmix b76 rfl ?_;unfold c76)|refine cx_yldE hmix rfl hF2 hA2 hB2 rfl ?_|refine cx_tab c1 rfl rfl rfl rfl rfl (by decide) rfl ?_|refine len_map ?_|refine len_isl ?_|refine el_of rfl rfl ?_|refine del_own ?_|refine del_own' rfl ?_|refine as_go rfl ?_|refine rd_go rfl ?_|refine rg_end rfl ?_|refine flat_ownX ?_|refine EqLX.mk ?_|((with_reducible apply br_bq hQz)<;>(try intro hsp hQz))|exact hQz.out))<;>(try (conv=>whnf))))):p:=h ⟨hq⟩
theorem bool_plain {g:Nat→Bool}:∀ x ∈ memA 1024 (fun f=>AV.bool (g f)),Plain x:=memA_plain fun _ _=>plain_bool
theorem plain_ga {g:Nat→Bool}:Plain (.agg (memA 1024 fun f=>AV.bool (g f))):=plain_agg bool_plain
theorem plain_ns {l:List Nat}:Plain (.isl (l.map nat1)):=plain_isl fun e he=>by
 obtain ⟨n,_,rfl⟩:=List.mem_map.1 he;exact nat1_plain n
theorem plain_tn {l:List Nat} {e:Int}:Plain (.tup [.isl (l.map nat1),.int .i64 e]):=plain_tup fun x hx=>by
 simp only [List.mem_cons,List.not_mem_nil,or_false] at hx
 rcases hx with rfl|rfl
 ·exact plain_ns
 ·exact plain_int
theorem wk_frzN {σ:Nat→Nat} {h h':Hp} {d:Nat} {L:List Nat} (hi:L.length ≠ 0→lk h.l d=some (.cells (flat nat1 L))) (hi':∀ j o,lk h'.l j=some o→σ j ≠ d) (hs:SubH σ h h'):WkV Try.prog σ h h' (ownV d 1 L.length) (.isl (L.map nat1)):=by
 by_cases hz:L.length=0
 ·rw [hz,own_z,List.eq_nil_of_length_eq_zero hz];exact wk_nils
 ·rw [own_s hz]
  refine wk_frz (hi hz) hi' hs (by simp) (fun e he=>?_) ?_ fun e he x hx=>?_
  ·obtain ⟨s,_,rfl⟩:=List.mem_map.1 he;rfl
  ·rw [List.drop_zero,List.take_of_length_le (by rw [flat_len nat1_len];exact Nat.le_refl _)];rfl
  ·obtain ⟨s,_,rfl⟩:=List.mem_map.1 he;exact nat1_plain s x hx
section
variable {L:List Vw} {t:TS}
theorem drop_step {a k:Nat} {Q0:List Nat} {U0:Nat→Vw} {x:TS} (hL:Go.Pol.srt L) (hU:Q0.map U0=ofA a L) (hk:k < (ofA a L).length) (h1:TOk (lessV L (ofA a L) k) x) (h2:x.Q a=Q0.drop k) (h3:x.U=U0) :
  ∃ y,(TOk (lessV L (ofA a L) (k+1)) y∧y.Q a=Q0.drop (k+1)∧y.U=U0)∧(∃ A B,lessV L (ofA a L) k=A++nth dV (ofA a L) k::B)∧LocT 56 [.int .i64 (nth 0 Q0 k:Nat)] x (.agg (vwC (nth dV (ofA a L) k))) y:=by
 have hQl:Q0.length=(ofA a L).length:=by rw [← hU,List.length_map]
 have hkq:k < Q0.length:=by omega
 have hdr:Q0.drop k=nth 0 Q0 k::Q0.drop (k+1):=by rw [nth_get hkq,List.drop_eq_getElem_cons hkq]
 have hua:(nth dV (ofA a L) k).1=a:=(mem_ofA.1 (nth_mem hk)).2
 have hxU:x.U (nth 0 Q0 k)=nth dV (ofA a L) k:=by
  rw [h3,nth_get hkq,nth_get hk]
  have : (Q0.map U0)[k]'(by rw [List.length_map];exact hkq)=(ofA a L)[k]:=by simp only [hU]
  rw [List.getElem_map] at this;exact this
 have hxm:nth 0 Q0 k ∈ x.Q (nth dV (ofA a L) k).1:=by rw [hua,h2,hdr];exact List.mem_cons_self ..
 obtain ⟨y,A,B,X,Y,e1,e2,e3,e4,e5,e6⟩:=t_take h1 hxm hxU
 refine ⟨y,⟨?_,?_,by rw [e5,h3]⟩,⟨A,B,e1⟩,e6⟩
 ·rw [less_s hL hk e1];exact e2
 ·rw [e4,hua,updQ_at]
  rw [hua,h2,hdr] at e3
  cases X with
  | nil=>exact (List.cons.inj e3).2.symm
  | cons z X =>
   have hnd:=h1.pool.inv.st.nd a
   rw [h2,hdr,e3] at hnd
   have h4:=(List.cons.inj e3).1
   subst h4
   exact absurd (List.mem_append_right X (List.mem_cons_self ..)) (List.nodup_cons.1 hnd).1
set_option maxHeartbeats 1600000 in
set_option maxRecDepth 20000 in
theorem t_Drop (h:TOk L t) {a:Nat} (ha:a < 64) :
  ∃ t',TOk (noA a L) t'∧LocT 30 [.int .i64 (a:Nat)] t (.tup [.isl ((goneL L a).map nat1),.int .i64 0]) t':=by
 have hlq:=h.lenQ a
 obtain ⟨T,hT0,hT,hst⟩:=chain (n:=(ofA a L).length) (P:=fun k (x:TS)=>TOk (lessV L (ofA a L) k) x∧x.Q a=(t.Q a).drop k∧x.U=t.U)
  (S:=fun k (x y:TS)=>(∃ A B,lessV L (ofA a L) k=A++nth dV (ofA a L) k::B)∧LocT 56 [.int .i64 (nth 0 (t.Q a) k:Nat)] x (.agg (vwC (nth dV (ofA a L) k))) y)
  t ⟨by rw [less_0];exact h,by rw [List.drop_zero],rfl⟩ (fun k x hk hx=>drop_step h.srt (h.lst a) hk hx.1 hx.2.1 hx.2.2)
 obtain ⟨g1,_,_⟩:=hT _ (Nat.le_refl _)
 rw [less_all] at g1
 have hen:=p_end h.pool.inv h.pool.n_pos (show a < t.m by rw [h.hm];exact ha) true
 rw [if_pos rfl,orErr_hd] at hen
 have k1:=k_arenas1 (a:Nat)
 rw [if_pos (inR64 ha)] at k1
 refine ⟨T (ofA a L).length,g1,LocT.mk (loc_x hmix b30 rfl ?_) plain_i1 plain_tn⟩
 unfold c30
 generalize hn1:(ofA a L).length=n1 at *
 (refine wx_Ypn ?_;repeat' (first|with_reducible refine And.intro ?_ ?_|intro hsp))
 refine range_x hmix b74 rfl trivial ?_
 intro frl2 asl2 bdl2 hF2 hA2 hB2
 unfold c74
 (refine wx_Yp ?_;repeat' (first|with_reducible refine And.intro ?_ ?_|intro hsp))
 rw [← hlq,rep_bool]
 have hg0:memA 1024 (fun f=>AV.bool (goneB L (ofA a L) 0 f))=memA 1024 fun _=>AV.bool false:=memA_congr fun f _=>by rw [gone_0]
 clear hen k1
 (refine loop_x [0,1,2,3] (fun (k:Nat)=>[(5,.int .i64 (if n1=0 then 0 else hd ((t.Q a).drop k))),(6,.int .i64 (if n1=0 then 4 else 0))]) (fun (k:Nat)=>⟨tabS (T k)++[(5,.cells [.ptr 0 0]),(7,.cells (memA 1024 fun f=>.bool (goneB L (ofA a L) k f))),(8,.cells [.ptr 1 0]),(9,.cells [.int .i64 (a:Nat)]),(10,.cells [.bool false]),(11,.loop .ready none frl2 [27,28] asl2 bdl2)],12⟩) (fun (k:Nat)=>k≤n1) (fun (k:Nat)=>n1 - k) (0) [] rfl (fun _=>by first|exact Nat.zero_le _|(dsimp only;omega)) ?_ (by ((try (conv=>whnf));(rw [hT0,hg0]);exact wkx_Yp)) ?_)
 ·exact Nat.zero_le _
 intro k hk
 by_cases hkl:k < n1
 ·obtain ⟨f1,f2,f3⟩:=hT k hk
  obtain ⟨⟨A,B,hAB⟩,c1⟩:=hst k hkl
  have hkq:0 < ((T k).Q a).length:=by rw [f2,List.length_drop];omega
  obtain ⟨hx,hd0,hnx,hnv,hm,hcell⟩:=f1.at_ hkq
  have e0:nth 0 ((T k).Q a) 0=nth 0 (t.Q a) k:=by rw [f2];unfold nth;rw [List.getElem?_drop,Nat.add_zero]
  rw [e0] at hx hd0 hnx hcell
  rw [f2,List.drop_zero] at hd0
  rw [f2,List.drop_drop,show k+(0+1)=k+1 by omega] at hnx
  have hkO:k < (ofA a L).length:=by omega
  have hok:=h.ok _ (mem_ofA.1 (nth_mem (d:=dV) hkO)).1
  have h4:=(hT (k+1) (by omega)).1
  have hC:(tabC 1 4 (T (k+1)).C)[2+(nth dV (ofA a L) k).2.2.1]? = some (.int .i64 ((T (k+1)).C (nth dV (ofA a L) k).2.2.1:Nat)):=tab_get hok.2.2
  have hset:(memA 1024 fun f=>AV.bool (goneB L (ofA a L) k f)).set (nth dV (ofA a L) k).2.2.1 (.bool (decide (((T (k+1)).C (nth dV (ofA a L) k).2.2.1:Int)=0)))=memA 1024 fun f=>AV.bool (goneB L (ofA a L) (k+1) f):=by
   rw [memA_set]
   refine memA_congr fun f hf=>?_
   rw [gone_s h.srt hkO hAB,h4.cnt,less_s h.srt hkO hAB]
   split
   ·congr 1;exact decide_eq_decide.2 (by omega)
   ·rfl
  rw [if_neg (show ¬ n1=0 by omega),if_neg (show ¬ n1=0 by omega),hd0]
  have hnx0:¬ n1=0:=by omega
  have hn2:(T k).n=2000:=f1.hn
  clear hnv hm f1 f2 f3 hd0 hkq h4 hAB e0
  generalize hu:nth dV (ofA a L) k=u at *
  generalize nth 0 (t.Q a) k=x at *
  obtain ⟨ua,uk,uf,uw⟩:=u
  unfold vwC at c1
  dsimp only at c1 hC hset hok
  (refine wx_Ypn ?_;repeat' (first|with_reducible refine And.intro ?_ ?_|intro hsp))
  all_goals exact next_x (k+1) [] (by (try dsimp only);omega) (by first|omega|(dsimp only;omega)) rfl (by ((try dsimp only);rw [if_neg hnx0]);exact wkx_Yp)
 ·obtain rfl:k=n1:=by omega
  have hd1:hd ((t.Q a).drop k) = -1:=by rw [List.drop_of_length_le (by omega)];rfl
  rw [hd1]
  have hgl:((memA 1024 fun f=>AV.bool (goneB L (ofA a L) k f)).drop 0).take 1024=memA 1024 fun f=>AV.bool (goneB L (ofA a L) k f):=by rw [List.drop_zero,List.take_of_length_le (by rw [memA_len];exact Nat.le_refl _)]
  have hgoal:goneL L a=goneU (goneB L (ofA a L) k) 1024:=by unfold goneL;rw [hn1]
  rw [hgoal]
  generalize goneB L (ofA a L) k=g at *
  by_cases hz:k=0
  ·rw [if_pos hz,if_pos hz]
   (refine wx_Yp ?_;repeat' (first|with_reducible refine And.intro ?_ ?_|intro hsp))
   (refine loop_x [43] (fun (f:Nat)=>[(4,ownV 12 1 (goneU g f).length),(44,.int .i64 (f:Nat))]) (fun (f:Nat)=>⟨tabS (T k)++ownH 12 nat1 (goneU g f),13⟩) (fun (f:Nat)=>f≤1024) (fun (f:Nat)=>1024 - f) (0) [] rfl (fun _=>by first|exact Nat.zero_le _|(dsimp only;omega)) ?_ (by ((try (conv=>whnf));(rw [goneU_0]);exact wkx_Yp1)) ?_)
   ·exact Nat.zero_le _
   intro f hf
   have hgf:=goneU_le g f
   by_cases hf2:f < 1024
   ·have hgx:(memA 1024 fun f=>AV.bool (g f))[f]? = some (.bool (g f)):=memA_get hf2
    have hgs:=goneU_s g f
    cases hb:g f
    ·rw [hb,if_neg (by simp)] at hgs
     rw [hb] at hgx
     (refine wx_Yp ?_;repeat' (first|with_reducible refine And.intro ?_ ?_|intro hsp))
     all_goals exact next_x (f+1) [] (by (try dsimp only);omega) (by first|omega|(dsimp only;omega)) rfl (by ((try dsimp only);rw [hgs]);exact wkx_Yp1)
    ·rw [hb,if_pos rfl] at hgs
     rw [hb] at hgx
     (refine wx_Yp ?_;repeat' (first|with_reducible refine And.intro ?_ ?_|intro hsp))
     all_goals exact next_x (f+1) [(12,14)] (by (try dsimp only);omega) (by first|omega|(dsimp only;omega)) rfl (by ((try dsimp only);rw [hgs]);exact wkx_Yp1)
   ·obtain rfl:f=1024:=by omega
    (refine wx_Yp ?_;repeat' (first|with_reducible refine And.intro ?_ ?_|intro hsp))
    exact end_tabW (fun hs=>wk_tup (wkl_cons (wk_frzN (fun hz=>by simp [lk,tabS,lk_ownE hz]) (tab_not (by decide)) hs) (wkl_cons (wk_int rfl) wkl_nil))) rfl rfl rfl rfl rfl
  ·rw [if_neg hz,if_neg hz]
   (refine wx_Yp ?_;repeat' (first|with_reducible refine And.intro ?_ ?_|intro hsp))
   (refine loop_x [43] (fun (f:Nat)=>[(4,ownV 12 1 (goneU g f).length),(44,.int .i64 (f:Nat))]) (fun (f:Nat)=>⟨tabS (T k)++ownH 12 nat1 (goneU g f),13⟩) (fun (f:Nat)=>f≤1024) (fun (f:Nat)=>1024 - f) (0) [] rfl (fun _=>by first|exact Nat.zero_le _|(dsimp only;omega)) ?_ (by ((try (conv=>whnf));(rw [goneU_0]);exact wkx_Yp1)) ?_)
   ·exact Nat.zero_le _
   intro f hf
   have hgf:=goneU_le g f
   by_cases hf2:f < 1024
   ·have hgx:(memA 1024 fun f=>AV.bool (g f))[f]? = some (.bool (g f)):=memA_get hf2
    have hgs:=goneU_s g f
    cases hb:g f
    ·rw [hb,if_neg (by simp)] at hgs
     rw [hb] at hgx
     (refine wx_Yp ?_;repeat' (first|with_reducible refine And.intro ?_ ?_|intro hsp))
     all_goals exact next_x (f+1) [] (by (try dsimp only);omega) (by first|omega|(dsimp only;omega)) rfl (by ((try dsimp only);rw [hgs]);exact wkx_Yp1)
    ·rw [hb,if_pos rfl] at hgs
     rw [hb] at hgx
     (refine wx_Yp ?_;repeat' (first|with_reducible refine And.intro ?_ ?_|intro hsp))
     all_goals exact next_x (f+1) [(12,14)] (by (try dsimp only);omega) (by first|omega|(dsimp only;omega)) rfl (by ((try dsimp only);rw [hgs]);exact wkx_Yp1)
   ·obtain rfl:f=1024:=by omega
    (refine wx_Yp ?_;repeat' (first|with_reducible refine And.intro ?_ ?_|intro hsp))
    exact end_tabW (fun hs=>wk_tup (wkl_cons (wk_frzN (fun hz=>by simp [lk,tabS,lk_ownE hz]) (tab_not (by decide)) hs) (wkl_cons (wk_int rfl) wkl_nil))) rfl rfl rfl rfl rfl
end
end Go.Proofs.Ytphggldkligldaa.Sh
