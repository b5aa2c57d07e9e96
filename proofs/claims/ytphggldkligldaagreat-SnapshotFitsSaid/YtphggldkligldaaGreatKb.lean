/-
 Load of a good book.
-/
import Derived.Test.YtphggldkligldaaGreatJk
set_option linter.unusedSimpArgs false
set_option linter.unusedVariables false
namespace Go.Proofs.YtphggldkligldaaGreat.Sh
open Go Go.Am Go.Pol
theorem plx_Kb {p:Prop} (h:p:=by ((first|assumption|exact plain_int|exact plain_bool|exact plain_undef|exact plain_nils|exact plain_nilp|exact plain_nilf|exact plain_str|with_reducible apply plain_int|with_reducible apply plain_bool|with_reducible apply plain_vwC|with_reducible apply plain_vwE|with_reducible apply plain_vs|with_reducible apply plain_stA|with_reducible apply plain_ns|with_reducible apply plain_bc|with_reducible apply plain_none|with_reducible apply plain_is|with_reducible apply plain_pl|with_reducible apply plain_rls|with_reducible apply plain_sn|fail);first|done|fail)):p:=h
theorem prx_Kb {p:Prop} (h:p:=by (((repeat' (first|exact plain_all0|refine plain_all2 ?_ ?_|exact plain_int|first|assumption|exact plain_int|exact plain_bool|exact plain_undef|exact plain_nils|exact plain_nilp|exact plain_nilf|exact plain_str|with_reducible apply plain_int|with_reducible apply plain_bool|with_reducible apply plain_vwC|with_reducible apply plain_vwE|with_reducible apply plain_vs|with_reducible apply plain_stA|with_reducible apply plain_ns|with_reducible apply plain_bc|with_reducible apply plain_none|with_reducible apply plain_is|with_reducible apply plain_pl|with_reducible apply plain_rls|with_reducible apply plain_sn)));first|done|fail)):p:=h
theorem ppx_Kb {p:Prop} (h:p:=by ((first|with_reducible assumption|with_reducible apply cells_plain|with_reducible apply ends_plain|with_reducible apply cnt_plain|with_reducible apply memI_plain _ _|with_reducible apply vw_plain|with_reducible apply nat_plain|with_reducible apply a_plain|with_reducible apply b_plain|with_reducible apply rdK_plain|with_reducible apply bc_plain|with_reducible apply plain_flat int1_plain|with_reducible apply sn_plain|with_reducible apply plain_map (fun _=>plain_int)|with_reducible apply plain_map (fun _=>plain_bool)|exact prx_Kb|fail);first|done|fail)):p:=h
theorem wvx_Kb {p:Prop} (h:p:=by ((first|exact wk_undef|exact wk_int (by first|rfl|omega|(dsimp only;omega))|exact wk_bool rfl|exact wk_ptr rfl (by first|decide|simp|omega)|exact wk_map rfl (by first|decide|simp|omega)|exact wk_sl rfl (by first|decide|simp|omega) (by first|rfl|omega|simp) (by first|omega|simp) (by first|omega|simp)|exact wk_own rfl (by first|decide|simp|omega)|exact wk_nil0 (by first|rfl|simp)|exact wk_slown rfl (by first|decide|omega|(simp;done)) (by first|omega|(simp;done)) (by first|rfl|omega|(simp;done)|(simp;omega))|exact wk_plain hs plx_Kb|(with_reducible refine wk_fn ?_ ?_<;>repeat' (first|with_reducible exact wkl_nil|with_reducible refine wkl_cons ?_ ?_|exact wk_ptr rfl (by first|decide|simp|omega)))|(with_reducible refine wk_agg ?_;repeat' (first|with_reducible exact wkl_nil|with_reducible refine wkl_cons ?_ ?_|exact wk_int (by first|rfl|omega|(dsimp only;omega))|exact wk_bool rfl))|exact wk_yld rfl (by first|decide|simp|omega)|(with_reducible refine wk_tup ?_;repeat' (first|with_reducible exact wkl_nil|with_reducible refine wkl_cons ?_ ?_|exact wk_int (by first|rfl|omega|(dsimp only;omega))|exact wk_bool rfl|exact wk_ptr rfl (by first|decide|simp|omega)))|fail);first|done|fail)):p:=h
theorem wkx_Kb {p:Prop} (h:p:=by (refine weak_s (by exact oneOf_of rfl) (by exact subH_of rfl) (by intro hs;(repeat' ((try (conv=>whnf));first|with_reducible exact True.intro|with_reducible refine And.intro ?_ ?_|(with_reducible refine WkX.mk ?_;first|exact wvx_Kb|fail)))) (by intro hs;(try dsimp only);(repeat' (first|with_reducible exact wko_nil|refine wko_tab hs (by first|decide|omega|simp) rfl rfl (by first|decide|omega|simp) rfl (by first|decide|omega|simp) ?_|refine wko_maps hs (by first|decide|omega|simp) rfl rfl key_plain ?_|refine wko_plain hs (by first|decide|omega|simp) rfl (by first|rfl) (by (first|exact ppx_Kb|fail|((refine plain_app ?_ ?_)<;>(first|exact ppx_Kb|fail)))) ?_|refine wko_cells (by first|decide|omega|simp) rfl (by repeat' (first|with_reducible exact wkl_nil|with_reducible refine wkl_cons ?_ ?_|(first|exact wvx_Kb|fail))) ?_|refine wko_loop (by first|decide|omega|simp) rfl (by ((try subst hF);(try subst hF2);exact wkl_sd (wkf_sget (by (repeat' ((try (conv=>whnf));first|with_reducible exact True.intro|with_reducible refine And.intro ?_ ?_|(with_reducible refine WkX.mk ?_;first|exact wvx_Kb|fail))))))) ?_|exact wko_nil))))):p:=h
theorem wx_Kb {p q:Prop} (hq:q) (h:HidP q→p:=by (intro hQz;((repeat' ((try (conv=>whnf));first|(with_reducible first|refine run_cons ?_|refine runq_cons ?_|refine code_seq ?_|refine code_reg ?_|refine code_cond ?_|refine run_nil ?_|refine runq_nil ?_|refine rund_op rfl ?_|refine rund_nil ?_|refine code_block ?_|refine code_skip ?_|refine code_exit ?_|refine code_ret ?_|refine code_range ?_|refine rund_fast (by decide +kernel) ?_|refine rund_slow (by decide +kernel) ?_|refine br_tt ?_|refine br_ff ?_|refine br_n ?_|refine br_and ?_|refine br_or ?_|refine br_t (by assumption) ?_|refine br_f (by assumption) ?_|refine eq_i64 (by omega) ?_|refine el_tn ?_)|((with_reducible refine br_dt ?_ ?_);focus omega)|((with_reducible refine br_df ?_ ?_);focus omega)|((with_reducible apply br_dq hQz)<;>(try intro hsp hQz))|((with_reducible refine ck_x ?_ ?_);focus (first|omega|rfl|assumption|decide|(simp only [List.length_map,List.length_cons,List.length_nil];omega)))|(with_reducible first|refine eq_tn ?_|refine eq_tn1 ?_|refine eq_tn2 ?_|refine eq_m1 ?_|refine eq_m2 ?_|refine eq_zm ?_|refine eq_z ?_|refine len_map ?_|refine len_sl ?_|refine len_nils ?_|refine len_own' ?_|refine len_isl ?_|refine eq_u8 (by omega) ?_|refine eq_u16 (by omega) ?_)|refine el_mapE (d:=dV) vw_len (by first|assumption|omega) (by with_reducible assumption) ?_|(with_reducible first|refine eq_rfl ?_|refine ChkX.mk (by kernel_rfl) ?_|refine code_q rfl ?_|refine code_d (by decide +kernel) ?_|refine end_go rfl ?_)|refine cx_locS hc rfl (by decide) ?_|refine cx_pureS (by assumption) ?_|refine cx_LT hld ?_|refine cx_tab (by assumption) rfl rfl rfl rfl rfl (by decide) rfl ?_|refine cx_locS hck rfl (by decide) ?_|refine cx_yldE hmix rfl hF hA hB rfl ?_|refine rd_ret rfl ?_|refine rg_ret rfl ?_|(refine cx_in hmix b75 rfl ?_;unfold c75)|refine len_map ?_|refine len_isl ?_|refine el_of rfl rfl ?_|refine del_own ?_|refine del_own' rfl ?_|refine as_go rfl ?_|refine rd_go rfl ?_|refine rg_end rfl ?_|refine flat_ownX ?_|refine EqLX.mk ?_|((with_reducible apply br_bq hQz)<;>(try intro hsp hQz))|exact hQz.out))<;>(try (conv=>whnf))))):p:=h ⟨hq⟩
theorem sn_plain {a n:Int} {L:List Vw}:∀ x ∈ [AV.int .i64 a,.int .i64 n,.isl (L.map vwC)],Plain x:=fun x hx=>by
 simp only [List.mem_cons,List.not_mem_nil,or_false] at hx
 rcases hx with rfl|rfl|rfl<;>first|exact plain_int|exact plain_vs
section
variable {q:Bk}
set_option maxHeartbeats 3200000 in
theorem b_Load (hg:GoodB q):∃ t,TOk q.L t∧LocBN 24 [.agg [.int .i64 (q.a:Nat),.int .i64 (q.n:Nat),.isl (q.L.map vwC)]] q.s q t:=by
 obtain ⟨t,ht,hld⟩:=l_Load hg.sr hg.len hg.ok
 have hrng:=hg.rng
 have hlen:=hg.len
 have hst:=k_stated (q.a:Nat) (q.n:Nat)
 rw [decide_eq_true (show stat (q.a:Nat) (q.n:Nat) from ⟨by omega,by omega,by omega,by omega⟩)] at hst
 have hc:=p_counts hg.good
 unfold Sy.counts at hc
 refine ⟨t,ht,LocBN.mk (loc_x hmix b24 rfl ?_) (fun x hx=>by obtain rfl:=List.mem_singleton.1 hx;exact plain_sn)⟩
 unfold c24
 generalize cntK q.s.K 0 1024=n0 at *
 generalize cntK q.s.K 1 1024=n1 at *
 generalize cntK q.s.K 2 1024=n2 at *
 generalize cntK q.s.K 3 1024=n3 at *
 generalize cntG q.s.G 64=n4 at *
 (refine wx_Kb ?_;repeat' (first|with_reducible refine And.intro ?_ ?_|intro hsp))
 (refine loop_x [2,3,4,5,10,50,51] (fun (i:Nat)=>[(52,.int .i64 (i:Nat))]) (fun (i:Nat)=>⟨[(0,.cells q.s.a),(1,.cells [.ptr 0 0]),(2,.cells [.int .i64 (q.a:Nat),.int .i64 (q.n:Nat),.isl (q.L.map vwC)]),(3,.cells [.nilp]),(4,.cells [.int .i64 0])]++tabN t 6 7 8 9 10++[(11,.cells [.ptr 6 0,.ptr 0 0,.int .i64 (q.a:Nat),.int .i64 (q.n:Nat)])],12⟩) (fun (i:Nat)=>i≤q.L.length) (fun (i:Nat)=>q.L.length - i) (0) [] rfl (fun _=>by first|exact Nat.zero_le _|(dsimp only;omega)) ?_ (by ((try (conv=>whnf));exact wkx_Kb)) ?_)
 ·exact Nat.zero_le _
 intro i hi
 unfold tabN
 by_cases hil:i < q.L.length
 ·have hv:=hg.view (nth_mem (d:=dV) hil)
  generalize hx:nth dV q.L i=v at *
  (refine wx_Kb ?_;repeat' (first|with_reducible refine And.intro ?_ ?_|intro hsp))
  all_goals first|(exfalso;omega)|exact next_x (i+1) [] (by (try dsimp only);omega) (by first|omega|(dsimp only;omega)) rfl (by exact wkx_Kb)
 ·clear hc hld
  (refine wx_Kb ?_;repeat' (first|with_reducible refine And.intro ?_ ?_|intro hsp))
  refine range_x hmix b137 rfl trivial ?_
  intro frl asl bdl hF hA hB
  unfold c137
  (refine wx_Kb ?_;repeat' (first|with_reducible refine And.intro ?_ ?_|intro hsp))
  (refine loop_x [0,1] (fun (k:Nat)=>[(3,.int .i64 ((q.a+k:Nat):Int))]) (fun (k:Nat)=>⟨[(0,.cells q.s.a),(1,.cells [.ptr 0 0]),(3,.cells [.nilp]),(4,.cells [.int .i64 0])]++tabN t 6 7 8 9 10++[(11,.cells [.ptr 6 0,.ptr 0 0,.int .i64 (q.a:Nat),.int .i64 (q.n:Nat)]),(12,.cells [.ptr 11 0]),(13,.loop .ready none frl [80,81] asl bdl)],14⟩) (fun (k:Nat)=>k≤q.n) (fun (k:Nat)=>q.n - k) (0) [] rfl (fun _=>by first|exact Nat.zero_le _|(dsimp only;omega)) ?_ (by ((try (conv=>whnf));exact wkx_Kb)) ?_)
  ·exact Nat.zero_le _
  intro k hk
  unfold tabN
  by_cases hkl:k < q.n
  ·have hkd:=hg.kind (q.a+k) (by omega) (by omega)
   have hcn:=u_Count ht (f:=q.a+k) (by omega)
   have hck:=p_kind (s:=q.s) (a:=((q.a+k:Nat):Int))
   rw [kind_at (by omega) hkd.2] at hck
   have hus:=hg.used (q.a+k)
   have hus2:0 < cntF q.L (q.a+k)→q.s.K (q.a+k)=2:=fun h=>(hus h).2.2
   have hkk:=hkd.1
   clear hus
   generalize cntF q.L (q.a+k)=n at *
   generalize q.s.K (q.a+k)=kk at *
   (refine wx_Kb ?_;repeat' (first|with_reducible refine And.intro ?_ ?_|intro hsp))
   all_goals first|(exfalso;omega)|exact next_x (k+1) [] (by (try dsimp only);omega) (by first|omega|(dsimp only;omega)) rfl (by exact wkx_Kb)
  ·obtain rfl:k=q.n:=by omega
   (refine wx_Kb ?_;repeat' (first|with_reducible refine And.intro ?_ ?_|intro hsp))
   all_goals exact end_G [(1,25),(2,11),(3,6),(4,7),(5,8),(6,9),(7,10)] 1 2 3 4 5 6 7 0 rfl (by decide) rfl (by decide) (fun hs=>wk_tup (wkl_cons (wk_ptr (i:=1) rfl (show 1 < 8 by decide)) (wkl_cons (wk_int rfl) wkl_nil))) rfl rfl rfl rfl rfl rfl rfl rfl
end
end Go.Proofs.YtphggldkligldaaGreat.Sh
