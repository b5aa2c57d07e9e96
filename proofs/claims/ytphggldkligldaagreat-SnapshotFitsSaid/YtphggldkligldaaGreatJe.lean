/-
 A book's calls: Map,Unmap,Take,Drop,Read,Save.
-/
import Derived.Test.YtphggldkligldaaGreatJd
set_option linter.unusedSimpArgs false
set_option linter.unusedVariables false
namespace Go.Pol
open Go.Am
theorem bc_zero:bcA (fun _=>0)=List.replicate 64 (.int .u8 0):=by
 refine List.ext_getElem? fun i=>?_
 unfold bcA
 by_cases h:i < 64
 ·rw [List.getElem?_replicate,if_pos h,memA_get h]
 ·rw [List.getElem?_eq_none (by rw [memA_len];omega),List.getElem?_eq_none (by rw [List.length_replicate];omega)]
end Go.Pol
namespace Go.Proofs.YtphggldkligldaaGreat.Sh
open Go Go.Am Go.Pol
theorem plx_Je {p:Prop} (h:p:=by ((first|assumption|exact plain_int|exact plain_bool|exact plain_undef|exact plain_nils|exact plain_nilp|exact plain_nilf|exact plain_str|with_reducible apply plain_int|with_reducible apply plain_bool|with_reducible apply plain_vwC|with_reducible apply plain_vwE|with_reducible apply plain_vs|with_reducible apply plain_stA|with_reducible apply plain_ns|with_reducible apply plain_bc|with_reducible apply plain_none|fail);first|done|fail)):p:=h
theorem prx_Je {p:Prop} (h:p:=by (((repeat' (first|exact plain_all0|refine plain_all2 ?_ ?_|exact plain_int|first|assumption|exact plain_int|exact plain_bool|exact plain_undef|exact plain_nils|exact plain_nilp|exact plain_nilf|exact plain_str|with_reducible apply plain_int|with_reducible apply plain_bool|with_reducible apply plain_vwC|with_reducible apply plain_vwE|with_reducible apply plain_vs|with_reducible apply plain_stA|with_reducible apply plain_ns|with_reducible apply plain_bc|with_reducible apply plain_none)));first|done|fail)):p:=h
theorem ppx_Je {p:Prop} (h:p:=by ((first|with_reducible assumption|with_reducible apply cells_plain|with_reducible apply ends_plain|with_reducible apply cnt_plain|with_reducible apply memI_plain _ _|with_reducible apply vw_plain|with_reducible apply nat_plain|with_reducible apply a_plain|with_reducible apply b_plain|with_reducible apply rdK_plain|with_reducible apply bc_plain|with_reducible apply plain_map (fun _=>plain_int)|with_reducible apply plain_map (fun _=>plain_bool)|exact prx_Je|fail);first|done|fail)):p:=h
theorem wvx_Je {p:Prop} (h:p:=by ((first|exact wk_undef|exact wk_int (by first|rfl|omega|(dsimp only;omega))|exact wk_bool rfl|exact wk_ptr rfl (by first|decide|simp|omega)|exact wk_map rfl (by first|decide|simp|omega)|exact wk_sl rfl (by first|decide|simp|omega) (by first|rfl|omega|simp) (by first|omega|simp) (by first|omega|simp)|exact wk_own rfl (by first|decide|simp|omega)|exact wk_nil0 (by first|rfl|simp)|exact wk_slown rfl (by first|decide|omega|(simp;done)) (by first|omega|(simp;done)) (by first|rfl|omega|(simp;done)|(simp;omega))|exact wk_plain hs plx_Je|(with_reducible refine wk_fn ?_ ?_<;>repeat' (first|with_reducible exact wkl_nil|with_reducible refine wkl_cons ?_ ?_|exact wk_ptr rfl (by first|decide|simp|omega)))|(with_reducible refine wk_agg ?_;repeat' (first|with_reducible exact wkl_nil|with_reducible refine wkl_cons ?_ ?_|exact wk_int (by first|rfl|omega|(dsimp only;omega))|exact wk_bool rfl))|exact wk_yld rfl (by first|decide|simp|omega)|(with_reducible refine wk_tup ?_;repeat' (first|with_reducible exact wkl_nil|with_reducible refine wkl_cons ?_ ?_|exact wk_int (by first|rfl|omega|(dsimp only;omega))|exact wk_bool rfl|exact wk_ptr rfl (by first|decide|simp|omega)))|fail);first|done|fail)):p:=h
theorem wkx_Je {p:Prop} (h:p:=by (refine weak_s (by exact oneOf_of rfl) (by exact subH_of rfl) (by intro hs;(repeat' ((try (conv=>whnf));first|with_reducible exact True.intro|with_reducible refine And.intro ?_ ?_|(with_reducible refine WkX.mk ?_;first|exact wvx_Je|fail)))) (by intro hs;(try dsimp only);(repeat' (first|with_reducible exact wko_nil|refine wko_tab hs (by first|decide|omega|simp) rfl rfl (by first|decide|omega|simp) rfl (by first|decide|omega|simp) ?_|refine wko_maps hs (by first|decide|omega|simp) rfl rfl key_plain ?_|refine wko_plain hs (by first|decide|omega|simp) rfl (by first|rfl) (by (first|exact ppx_Je|fail|((refine plain_app ?_ ?_)<;>(first|exact ppx_Je|fail)))) ?_|refine wko_cells (by first|decide|omega|simp) rfl (by repeat' (first|with_reducible exact wkl_nil|with_reducible refine wkl_cons ?_ ?_|(first|exact wvx_Je|fail))) ?_|refine wko_loop (by first|decide|omega|simp) rfl (by ((try subst hF);(try subst hF2);exact wkl_sd (wkf_sget (by (repeat' ((try (conv=>whnf));first|with_reducible exact True.intro|with_reducible refine And.intro ?_ ?_|(with_reducible refine WkX.mk ?_;first|exact wvx_Je|fail))))))) ?_|exact wko_nil))))):p:=h
theorem wx_Je {p q:Prop} (hq:q) (h:HidP q→p:=by (intro hQz;((repeat' ((try (conv=>whnf));first|(with_reducible first|refine run_cons ?_|refine runq_cons ?_|refine code_seq ?_|refine code_reg ?_|refine code_cond ?_|refine run_nil ?_|refine runq_nil ?_|refine rund_op rfl ?_|refine rund_nil ?_|refine code_block ?_|refine code_skip ?_|refine code_exit ?_|refine code_ret ?_|refine code_range ?_|refine rund_fast (by decide +kernel) ?_|refine rund_slow (by decide +kernel) ?_|refine br_tt ?_|refine br_ff ?_|refine br_n ?_|refine br_and ?_|refine br_or ?_|refine br_t (by assumption) ?_|refine br_f (by assumption) ?_|refine eq_i64 (by omega) ?_|refine el_tn ?_)|((with_reducible refine br_dt ?_ ?_);focus omega)|((with_reducible refine br_df ?_ ?_);focus omega)|((with_reducible apply br_dq hQz)<;>(try intro hsp hQz))|((with_reducible refine ck_x ?_ ?_);focus (first|omega|rfl|assumption|decide|(simp only [List.length_map,List.length_cons,List.length_nil];omega)))|(with_reducible first|refine eq_tn ?_|refine eq_tn1 ?_|refine eq_tn2 ?_|refine eq_m1 ?_|refine eq_m2 ?_|refine eq_zm ?_|refine eq_z ?_|refine len_map ?_|refine len_sl ?_|refine len_nils ?_|refine len_own' ?_|refine len_isl ?_|refine eq_u8 (by omega) ?_|refine eq_u16 (by omega) ?_)|(with_reducible first|refine eq_rfl ?_|refine ChkX.mk (by kernel_rfl) ?_|refine code_q rfl ?_|refine code_d (by decide +kernel) ?_|refine end_go rfl ?_)|refine cx_b0 (by assumption) rfl rfl rfl rfl rfl rfl rfl rfl (by decide) rfl ?_|refine cx_pureS (by assumption) ?_|refine cx_tab (by assumption) rfl rfl rfl rfl rfl (by decide) rfl ?_|refine cx_b0 hi rfl rfl rfl rfl rfl rfl rfl rfl (by decide) rfl ?_|refine cx_b1 (o:=0) htk rfl rfl rfl rfl rfl rfl rfl rfl (by decide) rfl ?_|refine cx_locS (by assumption) rfl (by decide) ?_|refine cx_b1 (o:=0) hgv rfl rfl rfl rfl rfl rfl rfl rfl (by decide) rfl ?_|(refine cx_in hmix b87 rfl ?_;unfold c87)|refine len_map ?_|refine len_isl ?_|refine el_of rfl rfl ?_|refine del_own ?_|refine del_own' rfl ?_|refine as_go rfl ?_|refine rd_go rfl ?_|refine rg_end rfl ?_|refine flat_ownX ?_|refine EqLX.mk ?_|((with_reducible apply br_bq hQz)<;>(try intro hsp hQz))|exact hQz.out))<;>(try (conv=>whnf))))):p:=h ⟨hq⟩
theorem wx_Jen {p q:Prop} (hq:q) (h:HidP q→p:=by (intro hQz;((repeat' ((try (conv=>whnf));first|(with_reducible first|refine run_cons ?_|refine runq_cons ?_|refine code_seq ?_|refine code_reg ?_|refine code_cond ?_|refine run_nil ?_|refine runq_nil ?_|refine rund_op rfl ?_|refine rund_nil ?_|refine code_block ?_|refine code_skip ?_|refine code_exit ?_|refine code_ret ?_|refine code_range ?_|refine rund_fast (by decide +kernel) ?_|refine rund_slow (by decide +kernel) ?_|refine br_tt ?_|refine br_ff ?_|refine br_n ?_|refine br_and ?_|refine br_or ?_|refine br_t (by assumption) ?_|refine br_f (by assumption) ?_|refine eq_i64 (by omega) ?_|refine el_tn ?_)|((with_reducible refine br_dt ?_ ?_);focus omega)|((with_reducible refine br_df ?_ ?_);focus omega)|((with_reducible apply br_dq hQz)<;>(try intro hsp hQz))|((with_reducible refine ck_x ?_ ?_);focus (first|omega|rfl|assumption|decide|(simp only [List.length_map,List.length_cons,List.length_nil];omega)))|(with_reducible first|refine eq_tn ?_|refine eq_tn1 ?_|refine eq_tn2 ?_|refine eq_m1 ?_|refine eq_m2 ?_|refine eq_zm ?_|refine eq_z ?_|refine len_map ?_|refine len_sl ?_|refine len_nils ?_|refine len_own' ?_|refine len_isl ?_|refine eq_u8 (by omega) ?_|refine eq_u16 (by omega) ?_)|(with_reducible first|refine eq_rfl ?_|refine ChkX.mk (by kernel_rfl) ?_|refine code_d (by decide +kernel) ?_|refine end_go rfl ?_)|refine cx_b0 hi rfl rfl rfl rfl rfl rfl rfl rfl (by decide) rfl ?_|refine cx_tx (by assumption) rfl rfl rfl rfl rfl rfl (by decide) rfl ?_|refine dcx_tab (by assumption) rfl rfl rfl rfl rfl rfl rfl ?_|refine len_map ?_|refine len_isl ?_|refine el_of rfl rfl ?_|refine del_own ?_|refine del_own' rfl ?_|refine as_go rfl ?_|refine rd_go rfl ?_|refine rg_end rfl ?_|refine flat_ownX ?_|refine EqLX.mk ?_|((with_reducible apply br_bq hQz)<;>(try intro hsp hQz))|exact hQz.out))<;>(try (conv=>whnf))))):p:=h ⟨hq⟩
section
variable {q:Bk} {t:TS}
theorem plain_i2' {a b:Int}:Plain (.tup [.int .i64 a,.int .i64 b]):=plain_tup fun x hx=>by
 simp only [List.mem_cons,List.not_mem_nil,or_false] at hx
 rcases hx with rfl|rfl<;>exact plain_int
theorem b_Map (hg:GoodB q) (h:TOk q.L t) (x k:Int):∃ t',TOk (q.map x k).2.L t'∧LocB 35 0 [.int .i64 x,.int .i64 k] q t (.int .i64 (q.map x k).1) (q.map x k).2 t':=by
 have hi:=b_is (q:=q) (t:=t)
 have hsp:=k_space x
 have hsl:=k_slot k
 have hsv:=t_Save h
 unfold Bk.map
 by_cases hin:inR 64 x∧inR 1024 k
 ·rw [if_neg (by rw [Classical.not_not];exact hin)]
  rw [decide_eq_true hin.1] at hsp
  rw [decide_eq_true hin.2] at hsl
  cases hf:fndL q.L x.toNat k.toNat with
  | some v =>
   have hfi:=u_Find h hin hf
   rw [if_pos (by rfl)]
   refine ⟨t,h,LocB.mk (loc_x hmix b35 rfl ?_) plain_i2 plain_int⟩
   unfold c35
   unfold bkN rdN
   (refine wx_Je ?_;repeat' (first|with_reducible refine And.intro ?_ ?_|intro hsp))
   all_goals exact end_bk rfl plain_int rfl rfl rfl rfl rfl rfl rfl rfl
  | none =>
   have hfi:=u_Find_none h hin hf
   rw [if_neg (by simp)]
   by_cases hl:2000≤q.L.length
   ·rw [if_pos hl]
    refine ⟨t,h,LocB.mk (loc_x hmix b35 rfl ?_) plain_i2 plain_int⟩
    unfold c35
    unfold bkN rdN
    (refine wx_Je ?_;repeat' (first|with_reducible refine And.intro ?_ ?_|intro hsp))
    all_goals first|exact end_bk rfl plain_int rfl rfl rfl rfl rfl rfl rfl rfl|(exfalso;omega)
   ·rw [if_neg hl]
    have htk:=b_take hg h fun _=>0
    rw [bc_zero] at htk
    have tk:=hg.tk fun _=>0
    generalize hr:tkP q.a q.n q.L q.s (fun _=>0)=r at *
    obtain ⟨e,f,s1⟩:=r
    dsimp only at *
    have hin2:=b_is (q:={ q with s:=s1 }) (t:=t)
    by_cases he:e=0
    ·rw [if_pos he]
     subst he
     have hgot:=tk.got rfl
     dsimp only at hgot
     obtain ⟨t',h1,h2⟩:=u_Map h hin (f:=f) (by have:=hgot.2.1;have:=hg.rng.2;omega) hf (by omega)
     refine ⟨t',h1,LocB.mk (loc_x hmix b35 rfl ?_) plain_i2 plain_int⟩
     unfold c35
     unfold bkN rdN
     (refine wx_Je ?_;repeat' (first|with_reducible refine And.intro ?_ ?_|intro hsp))
     all_goals first|exact end_bk (q:=⟨q.a,q.n,insV (x.toNat,k.toNat,f,true) q.L,s1⟩) rfl plain_int rfl rfl rfl rfl rfl rfl rfl rfl|(exfalso;omega)
    ·rw [if_neg he]
     refine ⟨t,h,LocB.mk (loc_x hmix b35 rfl ?_) plain_i2 plain_int⟩
     unfold c35
     unfold bkN rdN
     (refine wx_Je ?_;repeat' (first|with_reducible refine And.intro ?_ ?_|intro hsp))
     all_goals first|exact end_bk (q:=⟨q.a,q.n,q.L,s1⟩) rfl plain_int rfl rfl rfl rfl rfl rfl rfl rfl|(exfalso;omega)
 ·rw [if_pos hin]
  refine ⟨t,h,LocB.mk (loc_x hmix b35 rfl ?_) plain_i2 plain_int⟩
  unfold c35
  unfold bkN rdN
  (refine wx_Je ?_;repeat' (first|with_reducible refine And.intro ?_ ?_|intro hsp))
  all_goals first|exact end_bk rfl plain_int rfl rfl rfl rfl rfl rfl rfl rfl|(exfalso;simp_all;done)
theorem b_Unmap (hg:GoodB q) (h:TOk q.L t) (x k:Int):∃ t',TOk (q.unmap x k).2.L t'∧LocB 36 0 [.int .i64 x,.int .i64 k] q t (.int .i64 (q.unmap x k).1) (q.unmap x k).2 t':=by
 have hi:=b_is (q:=q) (t:=t)
 unfold Bk.unmap
 by_cases hin:inR 64 x∧inR 1024 k
 ·rw [if_neg (by rw [Classical.not_not];exact hin)]
  cases hf:fndL q.L x.toNat k.toNat with
  | none =>
   have hfi:=u_Unmap_none h hin hf
   refine ⟨t,h,LocB.mk (loc_x hmix b36 rfl ?_) plain_i2 plain_int⟩
   unfold c36
   unfold bkN rdN
   (refine wx_Je ?_;repeat' (first|with_reducible refine And.intro ?_ ?_|intro hsp))
   all_goals first|exact end_bk rfl plain_int rfl rfl rfl rfl rfl rfl rfl rfl|(exfalso;omega)
  | some v =>
   obtain ⟨t',h1,h2⟩:=u_Unmap h hin hf
   refine ⟨t',h1,LocB.mk (loc_x hmix b36 rfl ?_) plain_i2 plain_int⟩
   unfold c36
   unfold bkN rdN
   have hdc:=p_decommit (a:=(v.2.2.1:Nat)) (n:=1) hg.good
   rw [show (q.s.chg ((v.2.2.1:Nat):Int) 1 2 1 3).2=givP q.s [v.2.2.1] from rfl] at hdc
   dsimp only
   by_cases hc:cntF (delL q.L x.toNat k.toNat) v.2.2.1=0
   ·rw [if_pos hc]
    rw [hc] at h2
    generalize v.2.2.1=f at *
    generalize delL q.L x.toNat k.toNat=L1 at *
    have hz:givP q.s (if 0=0 then [] else [f])=q.s:=rfl
    (refine wx_Je ?_;repeat' (first|with_reducible refine And.intro ?_ ?_|intro hsp))
    (refine loop_x [0,6,7] (fun (i:Nat)=>[(8,.int .i64 (i:Nat))]) (fun (i:Nat)=>⟨bkN ⟨q.a,q.n,L1,givP q.s (if i=0 then [] else [f])⟩ t' 0 1 2 3 4 5 6 7++[(8,.cells [.int .i64 (f:Nat)])],9⟩) (fun (i:Nat)=>i≤1) (fun (i:Nat)=>1 - i) (0) [] rfl (fun _=>by first|exact Nat.zero_le _|(dsimp only;omega)) ?_ (by ((try (conv=>whnf));(rw [hz]);exact wkx_Je)) ?_)
    ·exact Nat.zero_le _
    intro i hi1
    rcases (show i=0∨i=1 by omega) with rfl|rfl
    ·unfold bkN rdN
     dsimp only
     rw [hz]
     have hz1:givP q.s (if 1=0 then [] else [f])=givP q.s [f]:=rfl
     (refine wx_Je ?_;repeat' (first|with_reducible refine And.intro ?_ ?_|intro hsp))
     all_goals exact next_x (1) [] (by (try dsimp only);omega) (by first|omega|(dsimp only;omega)) rfl (by ((try dsimp only);rw [hz1]);exact wkx_Je)
    ·unfold bkN rdN
     dsimp only
     rw [show givP q.s (if 1=0 then [] else [f])=givP q.s [f] from rfl]
     (refine wx_Je ?_;repeat' (first|with_reducible refine And.intro ?_ ?_|intro hsp))
     all_goals first|exact end_bk (q:=⟨q.a,q.n,L1,givP q.s [f]⟩) rfl plain_int rfl rfl rfl rfl rfl rfl rfl rfl|(exfalso;omega)
   ·rw [if_neg hc]
    generalize cntF (delL q.L x.toNat k.toNat) v.2.2.1=n at *
    (refine wx_Je ?_;repeat' (first|with_reducible refine And.intro ?_ ?_|intro hsp))
    all_goals first|exact end_bk (q:=⟨q.a,q.n,delL q.L x.toNat k.toNat,q.s⟩) rfl plain_int rfl rfl rfl rfl rfl rfl rfl rfl|(exfalso;omega)
 ·rw [if_pos hin]
  have hfi:=t_Unmap_no (t:=t) x k hin
  refine ⟨t,h,LocB.mk (loc_x hmix b36 rfl ?_) plain_i2 plain_int⟩
  unfold c36
  unfold bkN rdN
  (refine wx_Je ?_;repeat' (first|with_reducible refine And.intro ?_ ?_|intro hsp))
  all_goals first|exact end_bk rfl plain_int rfl rfl rfl rfl rfl rfl rfl rfl|(exfalso;omega)
theorem b_Take (h:TOk q.L t) (x y:Int):∃ t',TOk (q.take x y).2.2.L t'∧LocB 30 0 [.int .i64 x,.int .i64 y] q t (.tup [.int .i64 (q.take x y).1,.int .i64 (q.take x y).2.1]) (q.take x y).2.2 t':=by
 have hi:=b_is (q:=q) (t:=t)
 obtain ⟨t',h1,h2⟩:=u_Fork h x y
 have ha:(q.take x y).2.2.a=q.a∧(q.take x y).2.2.n=q.n∧(q.take x y).2.2.s=q.s:=by unfold Bk.take;(repeat' split)<;>exact ⟨rfl,rfl,rfl⟩
 refine ⟨t',h1,LocB.mk (loc_x hmix b30 rfl ?_) plain_i2 plain_i2'⟩
 unfold c30
 unfold bkN rdN
 rw [ha.1,ha.2.1,ha.2.2]
 generalize q.take x y=r at *
 obtain ⟨n,e,ra,rn,rL,rs⟩:=r
 dsimp only at *
 obtain ⟨rfl,rfl,rfl⟩:=ha
 (refine wx_Je ?_;repeat' (first|with_reducible refine And.intro ?_ ?_|intro hsp))
 all_goals exact end_bk (q:=⟨q.a,q.n,rL,q.s⟩) rfl plain_i2' rfl rfl rfl rfl rfl rfl rfl rfl
theorem b_Drop (hg:GoodB q) (h:TOk q.L t) (x:Int):∃ t',TOk (q.drop x).2.2.L t'∧LocB 31 0 [.int .i64 x] q t (.tup [.int .i64 (q.drop x).1,.int .i64 (q.drop x).2.1]) (q.drop x).2.2 t':=by
 have hi:=b_is (q:=q) (t:=t)
 unfold Bk.drop
 by_cases hin:inR 64 x
 ·rw [if_neg (by rw [Classical.not_not];exact hin)]
  obtain ⟨x',rfl,hx⟩:=nat_in hin
  rw [Int.toNat_natCast]
  obtain ⟨t',h1,h2⟩:=t_Drop h (a:=x') (by omega)
  refine ⟨t',h1,LocB.mk (loc_x hmix b31 rfl ?_) plain_i1 plain_i2'⟩
  unfold c31
  unfold bkN rdN
  have hgv:=b_give (q:=⟨q.a,q.n,noA x' q.L,q.s⟩) (t:=t') hg.good (G:=goneL q.L x') gone_4k
  have hle:=gone_4k (L:=q.L) (a:=x')
  generalize goneL q.L x'=G at *
  dsimp only at hgv ⊢
  (refine wx_Je ?_;repeat' (first|with_reducible refine And.intro ?_ ?_|intro hsp))
  all_goals exact end_bk (q:=⟨q.a,q.n,noA x' q.L,givP q.s G⟩) (by simp) plain_i2' rfl rfl rfl rfl rfl rfl rfl rfl
 ·rw [if_pos hin]
  have hd:=t_Drop_no (t:=t) x hin
  have hgv:=b_give_nil (q:=q) (t:=t)
  refine ⟨t,h,LocB.mk (loc_x hmix b31 rfl ?_) plain_i1 plain_i2'⟩
  unfold c31
  unfold bkN rdN
  (refine wx_Je ?_;repeat' (first|with_reducible refine And.intro ?_ ?_|intro hsp))
  all_goals exact end_bk rfl plain_i2' rfl rfl rfl rfl rfl rfl rfl rfl
theorem b_Read (h:TOk q.L t) (x a:Int):LocB 16 0 [.int .i64 x,.int .i64 a] q t (.tup [.int .u8 (q.read x a).1,.int .i64 (q.read x a).2]) q t:=by
 have hi:=b_is (q:=q) (t:=t)
 have h1:=u_Read h x a
 refine LocB.mk (loc_x hmix b16 rfl ?_) plain_i2 plain_tui
 unfold c16
 unfold bkN rdN
 generalize q.read x a=r at *
 (refine wx_Jen ?_;repeat' (first|with_reducible refine And.intro ?_ ?_|intro hsp))
 all_goals exact end_bk rfl plain_tui rfl rfl rfl rfl rfl rfl rfl rfl
theorem plain_sn {a n:Int} {L:List Vw}:Plain (.agg [.int .i64 a,.int .i64 n,.isl (L.map vwC)]):=plain_agg fun x hx=>by
 simp only [List.mem_cons,List.not_mem_nil,or_false] at hx
 rcases hx with rfl|rfl|rfl<;>first|exact plain_int|exact plain_vs
theorem b_Save (h:TOk q.L t):LocB 27 0 [] q t (.agg [.int .i64 (q.a:Nat),.int .i64 (q.n:Nat),.isl (q.L.map vwC)]) q t:=by
 have hi:=b_is (q:=q) (t:=t)
 have hsv:=t_Save h
 refine LocB.mk (loc_x hmix b27 rfl ?_) (fun x hx=>by cases hx) plain_sn
 unfold c27
 unfold bkN rdN
 (refine wx_Jen ?_;repeat' (first|with_reducible refine And.intro ?_ ?_|intro hsp))
 all_goals exact end_bk rfl plain_sn rfl rfl rfl rfl rfl rfl rfl rfl
end
end Go.Proofs.YtphggldkligldaaGreat.Sh
