/-
 A book's calls: Counts,Differ.
 A book's calls: Differ.
 A new book;plays and calls as values;far;the beginning of a play.
-/
import Derived.Test.YtphggldkligldaaSnI
set_option linter.unusedSimpArgs false
set_option linter.unusedVariables false
namespace Go.Pol
open Go.Am
theorem eqL_map {f g:Nat→Int}:∀ l:List Nat,eqL (l.map fun _=>0) (l.map fun j=>.int .u8 (f j)) (l.map fun j=>.int .u8 (g j))=some (decide (∀ j ∈ l,f j=g j))
 | []=>by simp [eqL]
 | x::l=>by
  simp only [List.map_cons,eqL,eq1,if_true,eqL_map l,Option.map_some,Option.bind_some,Option.some.injEq]
  rw [Bool.eq_iff_iff]
  simp
theorem eqL_bc {f g:Nat→Int}:eqL (List.replicate 64 0) (bcA f) (bcA g)=some (decide (eqB f g)):=by
 have h:=eqL_map (f:=f) (g:=g) (List.range 64)
 have h0:(List.range 64).map (fun _=>0)=List.replicate 64 0:=by rw [List.map_const',List.length_range]
 unfold bcA memA
 rw [← h0,h]
 congr 1
 refine decide_eq_decide.2 ?_
 unfold eqB
 simp only [List.mem_range]
theorem ite_imp {a b:Nat} {p:Prop} [Decidable p] (h:a=b+if p then 1 else 0):(p→a=b+1)∧(¬ p→a=b):=⟨fun hp=>by rw [if_pos hp] at h;exact h,fun hp=>by rw [if_neg hp] at h;exact h⟩
def Bk.difN (b:Bk) (x y k:Nat):List Int:=((List.range k).filter fun k=>b.dif x y k).map fun k=>((k:Nat):Int)
theorem dif_0 {b:Bk} {x y:Nat}:b.difN x y 0=[]:=rfl
theorem dif_s {b:Bk} {x y k:Nat}:b.difN x y (k+1)=if b.dif x y k=true then b.difN x y k++[((k:Nat):Int)] else b.difN x y k:=by
 unfold Bk.difN
 rw [List.range_succ,List.filter_append,List.map_append]
 by_cases h:b.dif x y k=true<;>simp [h]
theorem dif_le {b:Bk} {x y k:Nat}:(b.difN x y k).length≤k:=by
 unfold Bk.difN;rw [List.length_map];exact Nat.le_trans (List.length_filter_le ..) (by rw [List.length_range];exact Nat.le_refl _)
end Go.Pol
namespace Go.Proofs.Ytphggldkligldaa.Sh
open Go Go.Am Go.Pol
theorem ppx_Jg {p:Prop} (h:p:=by ((first|with_reducible assumption|with_reducible apply cells_plain|with_reducible apply ends_plain|with_reducible apply cnt_plain|with_reducible apply memI_plain _ _|with_reducible apply vw_plain|with_reducible apply nat_plain|with_reducible apply a_plain|with_reducible apply b_plain|with_reducible apply rdK_plain|with_reducible apply bc_plain|with_reducible apply plain_flat int1_plain|with_reducible apply plain_map (fun _=>plain_int)|with_reducible apply plain_map (fun _=>plain_bool)|exact prx_Je|fail);first|done|fail)):p:=h
theorem wkx_Jg {p:Prop} (h:p:=by (refine weak_s (by exact oneOf_of rfl) (by exact subH_of rfl) (by intro hs;(repeat' ((try (conv=>whnf));first|with_reducible exact True.intro|with_reducible refine And.intro ?_ ?_|(with_reducible refine WkX.mk ?_;first|exact wvx_Je|fail)))) (by intro hs;(try dsimp only);(repeat' (first|with_reducible exact wko_nil|refine wko_tab hs (by first|decide|omega|simp) rfl rfl (by first|decide|omega|simp) rfl (by first|decide|omega|simp) ?_|refine wko_maps hs (by first|decide|omega|simp) rfl rfl key_plain ?_|refine wko_plain hs (by first|decide|omega|simp) rfl (by first|rfl) (by (first|exact ppx_Jg|fail|((refine plain_app ?_ ?_)<;>(first|exact ppx_Jg|fail)))) ?_|refine wko_cells (by first|decide|omega|simp) rfl (by repeat' (first|with_reducible exact wkl_nil|with_reducible refine wkl_cons ?_ ?_|(first|exact wvx_Je|fail))) ?_|refine wko_loop (by first|decide|omega|simp) rfl (by ((try subst hF);(try subst hF2);exact wkl_sd (wkf_sget (by (repeat' ((try (conv=>whnf));first|with_reducible exact True.intro|with_reducible refine And.intro ?_ ?_|(with_reducible refine WkX.mk ?_;first|exact wvx_Je|fail))))))) ?_|exact wko_nil))))):p:=h
theorem wx_Jg {p q:Prop} (hq:q) (h:HidP q→p:=by (intro hQz;((repeat' ((try (conv=>whnf));first|(with_reducible first|refine run_cons ?_|refine runq_cons ?_|refine code_seq ?_|refine code_reg ?_|refine code_cond ?_|refine run_nil ?_|refine runq_nil ?_|refine rund_op rfl ?_|refine rund_nil ?_|refine code_block ?_|refine code_skip ?_|refine code_exit ?_|refine code_ret ?_|refine code_range ?_|refine rund_fast (by decide +kernel) ?_|refine rund_slow (by decide +kernel) ?_|refine br_tt ?_|refine br_ff ?_|refine br_n ?_|refine br_and ?_|refine br_or ?_|refine br_t (by assumption) ?_|refine br_f (by assumption) ?_|refine eq_i64 (by omega) ?_|refine el_tn ?_)|((with_reducible refine br_dt ?_ ?_);focus omega)|((with_reducible refine br_df ?_ ?_);focus omega)|((with_reducible apply br_dq hQz)<;>(try intro hsp hQz))|((with_reducible refine ck_x ?_ ?_);focus (first|omega|rfl|assumption|decide|(simp only [List.length_map,List.length_cons,List.length_nil];omega)))|(with_reducible first|refine eq_tn ?_|refine eq_tn1 ?_|refine eq_tn2 ?_|refine eq_m1 ?_|refine eq_m2 ?_|refine eq_zm ?_|refine eq_z ?_|refine len_map ?_|refine len_sl ?_|refine len_nils ?_|refine len_own' ?_|refine len_isl ?_|refine eq_u8 (by omega) ?_|refine eq_u16 (by omega) ?_)|(with_reducible first|refine eq_rfl ?_|refine ChkX.mk (by kernel_rfl) ?_|refine code_q rfl ?_|refine code_d (by decide +kernel) ?_|refine end_go rfl ?_)|refine cx_tab (by assumption) rfl rfl rfl rfl rfl (by decide) rfl ?_|refine cx_locS hck rfl (by decide) ?_|refine cx_yldE hmix rfl hF hA hB rfl ?_|(refine cx_in hmix b21 rfl ?_;unfold c21)|refine cx_b0 his rfl rfl rfl rfl rfl rfl rfl rfl (by decide) rfl ?_|refine len_map ?_|refine len_isl ?_|refine el_of rfl rfl ?_|refine del_own ?_|refine del_own' rfl ?_|refine as_go rfl ?_|refine rd_go rfl ?_|refine rg_end rfl ?_|refine flat_ownX ?_|refine EqLX.mk ?_|((with_reducible apply br_bq hQz)<;>(try intro hsp hQz))|exact hQz.out))<;>(try (conv=>whnf))))):p:=h ⟨hq⟩
section
variable {q:Bk} {t:TS}
theorem plain_i4 {a b c d:Int}:Plain (.tup [.int .i64 a,.int .i64 b,.int .i64 c,.int .i64 d]):=plain_tup fun x hx=>by
 simp only [List.mem_cons,List.not_mem_nil,or_false] at hx
 rcases hx with rfl|rfl|rfl|rfl<;>exact plain_int
set_option maxHeartbeats 1600000 in
theorem b_Counts (hg:GoodB q) (h:TOk q.L t):LocB 8 0 [] q t (.tup [.int .i64 (q.used:Nat),.int .i64 (q.idle:Nat),.int .i64 (q.many:Nat),.int .i64 0]) q t:=by
 refine LocB.mk (loc_x hmix b8 rfl ?_) (fun x hx=>by cases hx) plain_i4
 have hrng:=hg.rng
 have his:=b_is (q:=q) (t:=t)
 rw [used_R,idle_R,many_R]
 unfold c8
 unfold bkN rdN
 generalize hpu:(fun f=>decide (0 < cntF q.L f))=pu
 generalize hpi:(fun f=>decide (cntF q.L f=0∧q.s.K f=2))=pi
 generalize hpm:(fun f=>decide (1 < cntF q.L f))=pm
 (refine wx_Jg ?_;repeat' (first|with_reducible refine And.intro ?_ ?_|intro hsp))
 refine range_x hmix b47 rfl trivial ?_
 intro frl asl bdl hF hA hB
 unfold c47
 (refine wx_Jg ?_;repeat' (first|with_reducible refine And.intro ?_ ?_|intro hsp))
 (refine loop_x [0,1] (fun (i:Nat)=>[(3,.int .i64 ((q.a+i:Nat):Int))]) (fun (i:Nat)=>⟨bkN q t 0 1 2 3 4 5 6 7++[(8,.cells [.int .i64 (cntR pu q.a i:Nat)]),(9,.cells [.int .i64 (cntR pi q.a i:Nat)]),(10,.cells [.int .i64 (cntR pm q.a i:Nat)]),(11,.cells [.ptr 1 0]),(12,.cells [.ptr 1 0]),(13,.loop .ready none frl [21,22] asl bdl)],14⟩) (fun (i:Nat)=>i≤q.n) (fun (i:Nat)=>q.n - i) (0) [] rfl (fun _=>by first|exact Nat.zero_le _|(dsimp only;omega)) ?_ (by ((try (conv=>whnf));exact wkx_Jg)) ?_)
 ·exact Nat.zero_le _
 intro i hi
 have u1:=cntR_le (p:=pu) (a:=q.a) (i:=i)
 have u2:=cntR_le (p:=pi) (a:=q.a) (i:=i)
 have u3:=cntR_le (p:=pm) (a:=q.a) (i:=i)
 by_cases hil:i < q.n
 ·have hkd:=hg.kind (q.a+i) (by omega) (by omega)
  have hcn:=u_Count h (f:=q.a+i) (by omega)
  have hck:=p_kind (s:=q.s) (a:=((q.a+i:Nat):Int))
  rw [kind_at (by omega) hkd.2] at hck
  have s1:=cntR_s (p:=pu) (a:=q.a) (i:=i)
  have s2:=cntR_s (p:=pi) (a:=q.a) (i:=i)
  have s3:=cntR_s (p:=pm) (a:=q.a) (i:=i)
  have e1:pu (q.a+i)=decide (0 < cntF q.L (q.a+i)):=by rw [← hpu]
  have e2:pi (q.a+i)=decide (cntF q.L (q.a+i)=0∧q.s.K (q.a+i)=2):=by rw [← hpi]
  have e3:pm (q.a+i)=decide (1 < cntF q.L (q.a+i)):=by rw [← hpm]
  rw [e1] at s1
  rw [e2] at s2
  rw [e3] at s3
  simp only [decide_eq_true_eq] at s1 s2 s3
  have hkk:=hkd.1
  generalize cntF q.L (q.a+i)=n at *
  generalize q.s.K (q.a+i)=kk at *
  generalize cntR pu q.a i=w1 at *
  generalize cntR pi q.a i=w2 at *
  generalize cntR pm q.a i=w3 at *
  clear e1 e2 e3 hpu hpi hpm
  have s1:=ite_imp s1
  have s2:=ite_imp s2
  have s3:=ite_imp s3
  unfold bkN rdN
  (refine wx_Jg ?_;repeat' (first|with_reducible refine And.intro ?_ ?_|intro hsp))
  all_goals exact next_x (i+1) [] (by (try dsimp only);omega) (by first|omega|(dsimp only;omega)) rfl (by exact wkx_Jg)
 ·obtain rfl:i=q.n:=by omega
  unfold bkN rdN
  generalize cntR pu q.a q.n=w1 at *
  generalize cntR pi q.a q.n=w2 at *
  generalize cntR pm q.a q.n=w3 at *
  (refine wx_Jg ?_;repeat' (first|with_reducible refine And.intro ?_ ?_|intro hsp))
  all_goals exact end_bk rfl plain_i4 rfl rfl rfl rfl rfl rfl rfl rfl
end
end Go.Proofs.Ytphggldkligldaa.Sh
namespace Go.Proofs.Ytphggldkligldaa.Sh
open Go Go.Am Go.Pol
theorem plx_Jh {p:Prop} (h:p:=by ((first|assumption|exact plain_int|exact plain_bool|exact plain_undef|exact plain_nils|exact plain_nilp|exact plain_nilf|exact plain_str|with_reducible apply plain_int|with_reducible apply plain_bool|with_reducible apply plain_vwC|with_reducible apply plain_vwE|with_reducible apply plain_vs|with_reducible apply plain_stA|with_reducible apply plain_ns|with_reducible apply plain_bc|with_reducible apply plain_none|with_reducible apply plain_is|fail);first|done|fail)):p:=h
theorem prx_Jh {p:Prop} (h:p:=by (((repeat' (first|exact plain_all0|refine plain_all2 ?_ ?_|exact plain_int|first|assumption|exact plain_int|exact plain_bool|exact plain_undef|exact plain_nils|exact plain_nilp|exact plain_nilf|exact plain_str|with_reducible apply plain_int|with_reducible apply plain_bool|with_reducible apply plain_vwC|with_reducible apply plain_vwE|with_reducible apply plain_vs|with_reducible apply plain_stA|with_reducible apply plain_ns|with_reducible apply plain_bc|with_reducible apply plain_none|with_reducible apply plain_is)));first|done|fail)):p:=h
theorem ppx_Jh {p:Prop} (h:p:=by ((first|with_reducible assumption|with_reducible apply cells_plain|with_reducible apply ends_plain|with_reducible apply cnt_plain|with_reducible apply memI_plain _ _|with_reducible apply vw_plain|with_reducible apply nat_plain|with_reducible apply a_plain|with_reducible apply b_plain|with_reducible apply rdK_plain|with_reducible apply bc_plain|with_reducible apply plain_flat int1_plain|with_reducible apply plain_map (fun _=>plain_int)|with_reducible apply plain_map (fun _=>plain_bool)|exact prx_Jh|fail);first|done|fail)):p:=h
theorem wvx_Jh {p:Prop} (h:p:=by ((first|exact wk_undef|exact wk_int (by first|rfl|omega|(dsimp only;omega))|exact wk_bool rfl|exact wk_ptr rfl (by first|decide|simp|omega)|exact wk_map rfl (by first|decide|simp|omega)|exact wk_sl rfl (by first|decide|simp|omega) (by first|rfl|omega|simp) (by first|omega|simp) (by first|omega|simp)|exact wk_own rfl (by first|decide|simp|omega)|exact wk_nil0 (by first|rfl|simp)|exact wk_slown rfl (by first|decide|omega|(simp;done)) (by first|omega|(simp;done)) (by first|rfl|omega|(simp;done)|(simp;omega))|exact wk_plain hs plx_Jh|(with_reducible refine wk_fn ?_ ?_<;>repeat' (first|with_reducible exact wkl_nil|with_reducible refine wkl_cons ?_ ?_|exact wk_ptr rfl (by first|decide|simp|omega)))|(with_reducible refine wk_agg ?_;repeat' (first|with_reducible exact wkl_nil|with_reducible refine wkl_cons ?_ ?_|exact wk_int (by first|rfl|omega|(dsimp only;omega))|exact wk_bool rfl))|exact wk_yld rfl (by first|decide|simp|omega)|(with_reducible refine wk_tup ?_;repeat' (first|with_reducible exact wkl_nil|with_reducible refine wkl_cons ?_ ?_|exact wk_int (by first|rfl|omega|(dsimp only;omega))|exact wk_bool rfl|exact wk_ptr rfl (by first|decide|simp|omega)))|fail);first|done|fail)):p:=h
theorem wkx_Jh {p:Prop} (h:p:=by (refine weak_o (by rfl) (by rfl) (fun hz=>by first|exact absurd rfl hz|(simp [lk,lk_ownE hz];done)|exact lk_ownE hz|rfl) (by rfl) (int1_plain) (by intro hs;(repeat' ((try (conv=>whnf));first|with_reducible exact True.intro|with_reducible refine And.intro ?_ ?_|(with_reducible refine WkX.mk ?_;first|exact wvx_Jh|fail)))) (by intro hs;(repeat' (first|with_reducible exact wko_nil|refine wko_tab hs (by first|decide|omega|simp) rfl rfl (by first|decide|omega|simp) rfl (by first|decide|omega|simp) ?_|refine wko_maps hs (by first|decide|omega|simp) rfl rfl key_plain ?_|refine wko_plain hs (by first|decide|omega|simp) rfl (by first|rfl) (by (first|exact ppx_Jh|fail|((refine plain_app ?_ ?_)<;>(first|exact ppx_Jh|fail)))) ?_|refine wko_cells (by first|decide|omega|simp) rfl (by repeat' (first|with_reducible exact wkl_nil|with_reducible refine wkl_cons ?_ ?_|(first|exact wvx_Jh|fail))) ?_|refine wko_loop (by first|decide|omega|simp) rfl (by ((try subst hF);(try subst hF2);exact wkl_sd (wkf_sget (by (repeat' ((try (conv=>whnf));first|with_reducible exact True.intro|with_reducible refine And.intro ?_ ?_|(with_reducible refine WkX.mk ?_;first|exact wvx_Jh|fail))))))) ?_|exact wko_nil))))):p:=h
theorem wx_Jh {p q:Prop} (hq:q) (h:HidP q→p:=by (intro hQz;((repeat' ((try (conv=>whnf));first|(with_reducible first|refine run_cons ?_|refine runq_cons ?_|refine code_seq ?_|refine code_reg ?_|refine code_cond ?_|refine run_nil ?_|refine runq_nil ?_|refine rund_op rfl ?_|refine rund_nil ?_|refine code_block ?_|refine code_skip ?_|refine code_exit ?_|refine code_ret ?_|refine code_range ?_|refine rund_fast (by decide +kernel) ?_|refine rund_slow (by decide +kernel) ?_|refine br_tt ?_|refine br_ff ?_|refine br_n ?_|refine br_and ?_|refine br_or ?_|refine br_t (by assumption) ?_|refine br_f (by assumption) ?_|refine eq_i64 (by omega) ?_|refine el_tn ?_)|((with_reducible refine br_dt ?_ ?_);focus omega)|((with_reducible refine br_df ?_ ?_);focus omega)|((with_reducible apply br_dq hQz)<;>(try intro hsp hQz))|((with_reducible refine ck_x ?_ ?_);focus (first|omega|rfl|assumption|decide|(simp only [List.length_map,List.length_cons,List.length_nil];omega)))|(with_reducible first|refine eq_tn ?_|refine eq_tn1 ?_|refine eq_tn2 ?_|refine eq_m1 ?_|refine eq_m2 ?_|refine eq_zm ?_|refine eq_z ?_|refine len_map ?_|refine len_sl ?_|refine len_nils ?_|refine len_own' ?_|refine len_isl ?_|refine eq_u8 (by omega) ?_|refine eq_u16 (by omega) ?_)|(with_reducible first|refine eq_rfl ?_|refine ChkX.mk (by kernel_rfl) ?_|refine code_q rfl ?_|refine code_d (by decide +kernel) ?_|refine end_go rfl ?_)|refine cx_b0 hi rfl rfl rfl rfl rfl rfl rfl rfl (by decide) rfl ?_|refine cx_pureS (by assumption) ?_|refine apps_own (f:=int1) (l2:=[((k:Nat):Int)]) int1_len (src_of rfl (by first|rfl|(simp;done)|(simp [*];done))) (fun hz=>by first|(simp [lk,lk_own,lk_ownS hz,lk_ownE hz];done)|rfl) (fun hz=>by first|(simp [lk,lk_own,lk_ownO,lk_tN hz,lk_ownN hz];done)|rfl) (by first|rfl|(simp [flat,int1];done)|(simp [flat,int1, *];done)) (by decide) ⟨by omega,by omega⟩ rfl ?_|((with_reducible apply appx_q hQz);intro hQa hQb;refine appx_own (f:=int1) (l2:=[((k:Nat):Int)]) int1_len (src_of rfl (by first|rfl|(simp;done)|(simp [*];done))) (fun hz=>by first|(simp [lk,lk_own,lk_ownS hz,lk_ownE hz];done)|rfl) (by first|rfl|(simp [flat,int1];done)|(simp [flat,int1, *];done)) (by decide) ⟨by omega,by omega⟩ ?_ ?_<;>intro hzz<;>first|(have hQz:=HidP.mk (hQa.out hzz))|(have hQz:=HidP.mk (hQb.out hzz)))|refine filt_own rfl ?_|refine cx_tab f1 rfl rfl rfl rfl rfl (by decide) rfl ?_|refine cx_tab f2 rfl rfl rfl rfl rfl (by decide) rfl ?_|refine len_map ?_|refine len_isl ?_|refine el_of rfl rfl ?_|refine del_own ?_|refine del_own' rfl ?_|refine as_go rfl ?_|refine rd_go rfl ?_|refine rg_end rfl ?_|refine flat_ownX ?_|refine EqLX.mk ?_|((with_reducible apply br_bq hQz)<;>(try intro hsp hQz))|exact hQz.out))<;>(try (conv=>whnf))))):p:=h ⟨hq⟩
theorem wx_Jhn {p q:Prop} (hq:q) (h:HidP q→p:=by (intro hQz;((repeat' ((try (conv=>whnf));first|(with_reducible first|refine run_cons ?_|refine runq_cons ?_|refine code_seq ?_|refine code_reg ?_|refine code_cond ?_|refine run_nil ?_|refine runq_nil ?_|refine rund_op rfl ?_|refine rund_nil ?_|refine code_block ?_|refine code_skip ?_|refine code_exit ?_|refine code_ret ?_|refine code_range ?_|refine rund_fast (by decide +kernel) ?_|refine rund_slow (by decide +kernel) ?_|refine br_tt ?_|refine br_ff ?_|refine br_n ?_|refine br_and ?_|refine br_or ?_|refine br_t (by assumption) ?_|refine br_f (by assumption) ?_|refine eq_i64 (by omega) ?_|refine el_tn ?_)|((with_reducible refine br_dt ?_ ?_);focus omega)|((with_reducible refine br_df ?_ ?_);focus omega)|((with_reducible apply br_dq hQz)<;>(try intro hsp hQz))|((with_reducible refine ck_x ?_ ?_);focus (first|omega|rfl|assumption|decide|(simp only [List.length_map,List.length_cons,List.length_nil];omega)))|(with_reducible first|refine eq_tn ?_|refine eq_tn1 ?_|refine eq_tn2 ?_|refine eq_m1 ?_|refine eq_m2 ?_|refine eq_zm ?_|refine eq_z ?_|refine len_map ?_|refine len_sl ?_|refine len_nils ?_|refine len_own' ?_|refine len_isl ?_|refine eq_u8 (by omega) ?_|refine eq_u16 (by omega) ?_)|(with_reducible first|refine eq_rfl ?_|refine ChkX.mk (by kernel_rfl) ?_|refine code_d (by decide +kernel) ?_|refine end_go rfl ?_)|refine apps_own (f:=int1) (l2:=[((k:Nat):Int)]) int1_len (src_of rfl (by first|rfl|(simp;done)|(simp [*];done))) (fun hz=>by first|(simp [lk,lk_own,lk_ownS hz,lk_ownE hz];done)|rfl) (fun hz=>by first|(simp [lk,lk_own,lk_ownO,lk_tN hz,lk_ownN hz];done)|rfl) (by first|rfl|(simp [flat,int1];done)|(simp [flat,int1, *];done)) (by decide) ⟨by omega,by omega⟩ rfl ?_|((with_reducible apply appx_q hQz);intro hQa hQb;refine appx_own (f:=int1) (l2:=[((k:Nat):Int)]) int1_len (src_of rfl (by first|rfl|(simp;done)|(simp [*];done))) (fun hz=>by first|(simp [lk,lk_own,lk_ownS hz,lk_ownE hz];done)|rfl) (by first|rfl|(simp [flat,int1];done)|(simp [flat,int1, *];done)) (by decide) ⟨by omega,by omega⟩ ?_ ?_<;>intro hzz<;>first|(have hQz:=HidP.mk (hQa.out hzz))|(have hQz:=HidP.mk (hQb.out hzz)))|refine filt_own rfl ?_|refine cx_tab f1 rfl rfl rfl rfl rfl (by decide) rfl ?_|refine cx_tab f2 rfl rfl rfl rfl rfl (by decide) rfl ?_|refine cx_b1 (o:=0) y1 rfl rfl rfl rfl rfl rfl rfl rfl (by decide) rfl ?_|refine dcx_b1 (o:=0) y1 rfl rfl rfl rfl rfl rfl rfl rfl rfl rfl ?_|refine cx_b1 (o:=0) y2 rfl rfl rfl rfl rfl rfl rfl rfl (by decide) rfl ?_|refine dcx_b1 (o:=0) y2 rfl rfl rfl rfl rfl rfl rfl rfl rfl rfl ?_|refine eqlx_of hq ?_|refine len_map ?_|refine len_isl ?_|refine el_of rfl rfl ?_|refine del_own ?_|refine del_own' rfl ?_|refine as_go rfl ?_|refine rd_go rfl ?_|refine rg_end rfl ?_|refine flat_ownX ?_|refine EqLX.mk ?_|((with_reducible apply br_bq hQz)<;>(try intro hsp hQz))|exact hQz.out))<;>(try (conv=>whnf))))):p:=h ⟨hq⟩
theorem dcx_b1 {f:Nat} {avs:List AV} {q q':Bk} {t t':TS} {o i a b c d e g:Nat} {h:Hp} {r:AV} {K:AV→Up→List Nat→Prop} (hc:LocB f 1 avs q t r q' t')
  (g1:lk h.l i=some (.cells [.ptr a 0,.ptr g 0,.int .i64 (q.a:Nat),.int .i64 (q.n:Nat)])) (g0:lk h.l o=some (.cells [.ptr i 0])) (h0:lk h.l a=some (.cells (tabC b e t.C))) (h1:lk h.l b=some (.cells [.sl c 0 t.n t.n 7,.sl d 0 t.m t.m 3,.int .i64 (t.S.fr:Nat)])) (h2:lk h.l c=some (.cells (cellsB t.n t.V t.W t.V3 t.V4 t.S.L t.S.N t.S.P))) (h3:lk h.l d=some (.cells (endsB t.m t.S.A t.S.B t.S.C))) (h4:lk h.l e=some (.maps (t.E.map keyE))) (h5:lk h.l g=some (.cells q.s.a))
  (hd:nodB [o,i,a,b,c,d,e,g]=true) (hnx':[o,i,a,b,c,d,e,g].contains h.next=false)
  (hk:K r [(o,some (.cells [.ptr i 0])),(i,some (.cells [.ptr a 0,.ptr g 0,.int .i64 (q'.a:Nat),.int .i64 (q'.n:Nat)])),(a,some (.cells (tabC b e t'.C))),(b,some (.cells [.sl c 0 t'.n t'.n 7,.sl d 0 t'.m t'.m 3,.int .i64 (t'.S.fr:Nat)])),(c,some (.cells (cellsB t'.n t'.V t'.W t'.V3 t'.V4 t'.S.L t'.S.N t'.S.P))),(d,some (.cells (endsB t'.m t'.S.A t'.S.B t'.S.C))),(e,some (.maps (t'.E.map keyE))),(g,some (.cells q'.s.a))] [o,i,a,b,c,d,e,g]):DCallX Try.prog G0 f (.ptr i 0::avs) h K:=by
 have hnx:h.next ∉ [o,i,a,b,c,d,e,g]:=fun hm=>by rw [List.contains_eq_mem,decide_eq_false_iff_not] at hnx';exact hnx' hm
 have e0:enter [o,i,a,b,c,d,e,g] o 0:=rfl
 have e1:enter [o,i,a,b,c,d,e,g] i 1:=rfl
 have e2:enter [o,i,a,b,c,d,e,g] a 2:=rfl
 have e3:enter [o,i,a,b,c,d,e,g] b 3:=rfl
 have e4:enter [o,i,a,b,c,d,e,g] c 4:=rfl
 have e5:enter [o,i,a,b,c,d,e,g] d 5:=rfl
 have e6:enter [o,i,a,b,c,d,e,g] e 6:=rfl
 have e7:enter [o,i,a,b,c,d,e,g] g 7:=rfl
 have k0:enterB [o,i,a,b,c,d,e,g] 0 o:=rfl
 have k1:enterB [o,i,a,b,c,d,e,g] 1 i:=rfl
 have k2:enterB [o,i,a,b,c,d,e,g] 2 a:=rfl
 have k3:enterB [o,i,a,b,c,d,e,g] 3 b:=rfl
 have k4:enterB [o,i,a,b,c,d,e,g] 4 c:=rfl
 have k5:enterB [o,i,a,b,c,d,e,g] 5 d:=rfl
 have k6:enterB [o,i,a,b,c,d,e,g] 6 e:=rfl
 have k7:enterB [o,i,a,b,c,d,e,g] 7 g:=rfl
 refine dcx_loc (l1:=bkN q' t' o i a b c d e g) [o,i,a,b,c,d,e,g] hc.out plainG hd
  (.cons e0 g0 ⟨rn_ptr e1,trivial⟩ (.cons e1 g1 ⟨rn_ptr e2,rn_ptr e7,rn_plain plain_int,rn_plain plain_int,trivial⟩ (.cons e2 h0 (rn_tabC e3 e6) (.cons e3 h1 ⟨rn_sl e4,rn_sl e5,rn_plain plain_int,trivial⟩ (.cons e4 h2 rnl_cells (.cons e5 h3 rnl_ends (.maps e6 h4 key_plain (.cons e7 h5 (rnl_plain a_plain) .nil))))))))
  hnx ?_ ?_ ⟨rn_ptr e1,rnl_plain hc.pa⟩ (rn_plain hc.pr)
  (.cons k0 ⟨rn_ptr k1,trivial⟩ (.cons k1 ⟨rn_ptr k2,rn_ptr k7,rn_plain plain_int,rn_plain plain_int,trivial⟩ (.cons k2 (rn_tabC k3 k6) (.cons k3 ⟨rn_sl k4,rn_sl k5,rn_plain plain_int,trivial⟩ (.cons k4 rnl_cells (.cons k5 rnl_ends (.maps k6 key_plain (.cons k7 (rnl_plain a_plain) .nil)))))))) hk
 ·intro x hx
  simp only [bkN,rdN,lk]
  repeat' split
  all_goals first|exact ⟨_,rfl⟩|(exfalso;simp only [List.mem_cons,List.not_mem_nil,or_false] at hx;omega)
 ·intro j x hx
  have : j < 8:=(List.getElem?_eq_some_iff.1 hx).1
  simp only [bkN,rdN,lk]
  repeat' split
  all_goals first|exact ⟨_,rfl⟩|(exfalso;omega)
section
variable {q:Bk} {t:TS}
theorem plain_di {l:List Int} {e:Int}:Plain (.tup [.isl (l.map int1),.int .i64 e]):=plain_tup fun x hx=>by
 simp only [List.mem_cons,List.not_mem_nil,or_false] at hx
 rcases hx with rfl|rfl<;>first|exact plain_int|exact plain_is
theorem fnd_cases (L:List Vw) (a k:Nat):fndL L a k=none∨∃ v,fndL L a k=some v:=by cases fndL L a k;exact .inl rfl;exact .inr ⟨_,rfl⟩
set_option maxHeartbeats 3200000 in
theorem b_Differ (hg:GoodB q) (h:TOk q.L t) {x y:Nat} (hx:x < 64) (hy:y < 64):LocB 11 0 [.int .i64 (x:Nat),.int .i64 (y:Nat)] q t (.tup [.isl ((q.difN x y 1024).map int1),.int .i64 0]) q t:=by
 have hi:=b_is (q:=q) (t:=t)
 have hs1:=k_space (x:Nat)
 have hs2:=k_space (y:Nat)
 rw [decide_eq_true (inR64 hx)] at hs1
 rw [decide_eq_true (inR64 hy)] at hs2
 refine LocB.mk (loc_x hmix b11 rfl ?_) plain_i2 plain_di
 unfold c11
 unfold bkN rdN
 (refine wx_Jh ?_;repeat' (first|with_reducible refine And.intro ?_ ?_|intro hsp))
 (refine loop_x [0,1,2,8] (fun (k:Nat)=>[(9,ownV 8 1 (q.difN x y k).length),(30,.int .i64 (k:Nat))]) (fun (k:Nat)=>⟨bkN q t 0 1 2 3 4 5 6 7++ownH 8 int1 (q.difN x y k),9⟩) (fun (k:Nat)=>k≤1024) (fun (k:Nat)=>1024 - k) (0) [] rfl (fun _=>by first|exact Nat.zero_le _|(dsimp only;omega)) ?_ (by ((try (conv=>whnf));(rw [dif_0]);exact wkx_Jh)) ?_)
 ·exact Nat.zero_le _
 intro k hk
 have hln:=dif_le (b:=q) (x:=x) (y:=y) (k:=k)
 by_cases hkl:k < 1024
 ·have htk:=dif_s (b:=q) (x:=x) (y:=y) (k:=k)
  have hin1:inR 64 (x:Nat)∧inR 1024 (k:Nat):=⟨inR64 hx,inR1k hkl⟩
  have hin2:inR 64 (y:Nat)∧inR 1024 (k:Nat):=⟨inR64 hy,inR1k hkl⟩
  unfold Bk.dif at htk
  unfold bkN rdN
  rcases fnd_cases q.L x k with h1 | ⟨u,h1⟩<;>rcases fnd_cases q.L y k with h2 | ⟨v,h2⟩
  ·have f1:=u_Find_none h hin1 h1
   have f2:=u_Find_none h hin2 h2
   rw [h1,h2] at htk
   dsimp only at htk
   rw [if_neg (by decide)] at htk
   generalize q.difN x y k=O at *
   (refine wx_Jh ?_;repeat' (first|with_reducible refine And.intro ?_ ?_|intro hsp))
   all_goals exact next_x (k+1) [] (by (try dsimp only);omega) (by first|omega|(dsimp only;omega)) rfl (by ((try dsimp only);rw [htk]);exact wkx_Jh)
  ·have f1:=u_Find_none h hin1 h1
   have f2:=u_Find h hin2 h2
   rw [h1,h2] at htk
   dsimp only at htk
   rw [if_pos rfl] at htk
   generalize q.difN x y k=O at *
   (refine wx_Jh ?_;repeat' (first|with_reducible refine And.intro ?_ ?_|intro hsp))
   all_goals exact next_x (k+1) [(8,36)] (by (try dsimp only);omega) (by first|omega|(dsimp only;omega)) rfl (by ((try dsimp only);rw [htk]);exact wkx_Jh)
  ·have f1:=u_Find h hin1 h1
   have f2:=u_Find_none h hin2 h2
   rw [h1,h2] at htk
   dsimp only at htk
   rw [if_pos rfl] at htk
   generalize q.difN x y k=O at *
   (refine wx_Jh ?_;repeat' (first|with_reducible refine And.intro ?_ ?_|intro hsp))
   all_goals exact next_x (k+1) [(8,36)] (by (try dsimp only);omega) (by first|omega|(dsimp only;omega)) rfl (by ((try dsimp only);rw [htk]);exact wkx_Jh)
  ·have f1:=u_Find h hin1 h1
   have f2:=u_Find h hin2 h2
   have g1:=hg.view (fnd_some h1).1
   have g2:=hg.view (fnd_some h2).1
   have y1:=b_bytes (q:=q) (t:=t) (f:=u.2.2.1) (by have:=hg.rng.2;omega) g1.2.2
   have y2:=b_bytes (q:=q) (t:=t) (f:=v.2.2.1) (by have:=hg.rng.2;omega) g2.2.2
   rw [h1,h2] at htk
   dsimp only at htk
   have hq:=eqL_bc (f:=q.s.B u.2.2.1) (g:=q.s.B v.2.2.1)
   have hqe:u.2.2.1=v.2.2.1→eqB (q.s.B u.2.2.1) (q.s.B v.2.2.1):=fun e=>by rw [e];exact fun _ _=>rfl
   by_cases hE:eqB (q.s.B u.2.2.1) (q.s.B v.2.2.1)
   ·rw [decide_eq_true hE] at hq
    simp only [decide_eq_true hE,Bool.not_true,Bool.false_eq_true,if_false] at htk
    generalize q.difN x y k=O at *
    generalize bcA (q.s.B u.2.2.1)=z1 at *
    generalize bcA (q.s.B v.2.2.1)=z2 at *
    (refine wx_Jhn ?_;repeat' (first|with_reducible refine And.intro ?_ ?_|intro hsp))
    all_goals exact next_x (k+1) [] (by (try dsimp only);omega) (by first|omega|(dsimp only;omega)) rfl (by ((try dsimp only);rw [htk]);exact wkx_Jh)
   ·rw [decide_eq_false hE] at hq
    simp only [decide_eq_false hE,Bool.not_false,if_true] at htk
    have hne:u.2.2.1 ≠ v.2.2.1:=fun e=>hE (hqe e)
    generalize q.difN x y k=O at *
    generalize bcA (q.s.B u.2.2.1)=z1 at *
    generalize bcA (q.s.B v.2.2.1)=z2 at *
    (refine wx_Jhn ?_;repeat' (first|with_reducible refine And.intro ?_ ?_|intro hsp))
    all_goals exact next_x (k+1) [(8,36)] (by (try dsimp only);omega) (by first|omega|(dsimp only;omega)) rfl (by ((try dsimp only);rw [htk]);exact wkx_Jh)
 ·obtain rfl:k=1024:=by omega
  unfold bkN rdN
  (refine wx_Jh ?_;repeat' (first|with_reducible refine And.intro ?_ ?_|intro hsp))
  exact end_BK (fun hs=>wk_tup (wkl_cons (wk_frzI (fun hz=>by simp [lk,lk_ownE hz]) (bk_not (by decide)) hs) (wkl_cons (wk_int rfl) wkl_nil))) rfl rfl rfl rfl rfl rfl rfl rfl
end
end Go.Proofs.Ytphggldkligldaa.Sh
namespace Go.Pol
open Go.Am
def stat (a n:Int):Prop:=0≤a∧a < 1024∧1≤n∧n≤1024 - a
instance (a n:Int):Decidable (stat a n):=by unfold stat;infer_instance
structure Ax where
 w:Int
 a:Int
 b:Int
 t:Int
 v:Int
 l:List Rl
def acE (x:Ax):List AV:=[.int .u8 x.w,.int .i64 x.a,.int .i64 x.b,.int .i64 x.t,.int .u8 x.v,.isl (x.l.map rlA)]
theorem acE_len (x:Ax):(acE x).length=6:=rfl
def dA:Ax:=⟨0,0,0,0,0,[]⟩
structure Py where
 a:Int
 n:Int
 l:List Rl
 X:List Ax
def pyE (p:Py):List AV:=[.int .i64 p.a,.int .i64 p.n,.isl (p.l.map rlA),.isl (p.X.map acE)]
def Py.b (p:Py):Bk:=⟨p.a.toNat,p.n.toNat,[],((Sy.new p.l).chg p.a p.n 0 1 0).2⟩
end Go.Pol
namespace Go.Proofs.Ytphggldkligldaa.Sh
open Go Go.Am Go.Pol
theorem wx_Ji {p q:Prop} (hq:q) (h:HidP q→p:=by (intro hQz;((repeat' ((try (conv=>whnf));first|(with_reducible first|refine run_cons ?_|refine runq_cons ?_|refine code_seq ?_|refine code_reg ?_|refine code_cond ?_|refine run_nil ?_|refine runq_nil ?_|refine rund_op rfl ?_|refine rund_nil ?_|refine code_block ?_|refine code_skip ?_|refine code_exit ?_|refine code_ret ?_|refine code_range ?_|refine rund_fast (by decide +kernel) ?_|refine rund_slow (by decide +kernel) ?_|refine br_tt ?_|refine br_ff ?_|refine br_n ?_|refine br_and ?_|refine br_or ?_|refine br_t (by assumption) ?_|refine br_f (by assumption) ?_|refine eq_i64 (by omega) ?_|refine el_tn ?_)|((with_reducible refine br_dt ?_ ?_);focus omega)|((with_reducible refine br_df ?_ ?_);focus omega)|((with_reducible apply br_dq hQz)<;>(try intro hsp hQz))|((with_reducible refine ck_x ?_ ?_);focus (first|omega|rfl|assumption|decide|(simp only [List.length_map,List.length_cons,List.length_nil];omega)))|(with_reducible first|refine eq_tn ?_|refine eq_tn1 ?_|refine eq_tn2 ?_|refine eq_m1 ?_|refine eq_m2 ?_|refine eq_zm ?_|refine eq_z ?_|refine len_map ?_|refine len_sl ?_|refine len_nils ?_|refine len_own' ?_|refine len_isl ?_|refine eq_u8 (by omega) ?_|refine eq_u16 (by omega) ?_)|(with_reducible first|refine eq_rfl ?_|refine ChkX.mk (by kernel_rfl) ?_|refine code_q rfl ?_|refine code_d (by decide +kernel) ?_|refine end_go rfl ?_)|refine cx_locS (by assumption) rfl (by decide) ?_|refine cx_pureS (by assumption) ?_|refine cx_locS hc rfl (by decide) ?_|refine cx_locS hr rfl (by decide) ?_|refine cx_NT (by assumption) ?_|refine cx_locN (by assumption) ?_|refine cx_BN h1 rfl (by decide) ?_|refine cx_locS h1 rfl (by decide) ?_|refine len_map ?_|refine len_isl ?_|refine el_of rfl rfl ?_|refine del_own ?_|refine del_own' rfl ?_|refine as_go rfl ?_|refine rd_go rfl ?_|refine rg_end rfl ?_|refine flat_ownX ?_|refine EqLX.mk ?_|((with_reducible apply br_bq hQz)<;>(try intro hsp hQz))|exact hQz.out))<;>(try (conv=>whnf))))):p:=h ⟨hq⟩
theorem ac_plain (x:Ax):∀ y ∈ acE x,Plain y:=fun y hy=>by
 unfold acE at hy
 simp only [List.mem_cons,List.not_mem_nil,or_false] at hy
 rcases hy with rfl|rfl|rfl|rfl|rfl|rfl<;>first|exact plain_int|exact plain_rls
theorem plain_ac (x:Ax):Plain (.agg (acE x)):=plain_agg (ac_plain x)
theorem plain_acs {X:List Ax}:Plain (.isl (X.map acE)):=plain_isl fun e he=>by obtain ⟨x,_,rfl⟩:=List.mem_map.1 he;exact ac_plain x
theorem py_plain (p:Py):∀ y ∈ pyE p,Plain y:=fun y hy=>by
 unfold pyE at hy
 simp only [List.mem_cons,List.not_mem_nil,or_false] at hy
 rcases hy with rfl|rfl|rfl|rfl
 ·exact plain_int
 ·exact plain_int
 ·exact plain_rls
 ·exact plain_isl fun e he=>by obtain ⟨x,_,rfl⟩:=List.mem_map.1 he;exact ac_plain x
theorem plain_py (p:Py):Plain (.agg (pyE p)):=plain_agg (py_plain p)
theorem end_G {top:Bool} {h:Hp} {N0 n:Nat} {x r:AV} {q:Bk} {t:TS} (ren:List (Nat × Nat)) (o i a b c d e g:Nat) (hkp:keepsB N0 ren=true) (hm:N0≤n) (hone:nodB [rn ren o,rn ren i,rn ren a,rn ren b,rn ren c,rn ren d,rn ren e,rn ren g]=true)
  (hlt:o < n∧i < n∧a < n∧b < n∧c < n∧d < n∧e < n∧g < n)
  (hr:SubH (rn ren) h ⟨bkN q t o i a b c d e g,n⟩→WkV Try.prog (rn ren) h ⟨bkN q t o i a b c d e g,n⟩ x r) (g0:lk h.l (rn ren o)=some (.cells [.ptr (rn ren i) 0])) (g1:lk h.l (rn ren i)=some (.cells [.ptr (rn ren a) 0,.ptr (rn ren g) 0,.int .i64 (q.a:Nat),.int .i64 (q.n:Nat)])) (h0:lk h.l (rn ren a)=some (.cells (tabC (rn ren b) (rn ren e) t.C))) (h1:lk h.l (rn ren b)=some (.cells [.sl (rn ren c) 0 t.n t.n 7,.sl (rn ren d) 0 t.m t.m 3,.int .i64 (t.S.fr:Nat)])) (h2:lk h.l (rn ren c)=some (.cells (cellsB t.n t.V t.W t.V3 t.V4 t.S.L t.S.N t.S.P))) (h3:lk h.l (rn ren d)=some (.cells (endsB t.m t.S.A t.S.B t.S.C))) (h4:lk h.l (rn ren e)=some (.maps (t.E.map keyE))) (h5:lk h.l (rn ren g)=some (.cells q.s.a)) :
  EndX top Try.prog N0 h x (fun r' h'=>r'=r∧h'=⟨bkN q t o i a b c d e g,n⟩):=by
 obtain ⟨l0,l1,l2,l3,l4,l5,l6,l7⟩:=hlt
 have hs:SubH (rn ren) h ⟨bkN q t o i a b c d e g,n⟩:=fun j x hi=>by
  simp only [bkN,rdN,lk] at hi
  split at hi
  ·rename_i e;subst e;exact ⟨_,g0⟩
  ·split at hi
   ·rename_i e;subst e;exact ⟨_,g1⟩
   ·split at hi
    ·rename_i e;subst e;exact ⟨_,h0⟩
    ·split at hi
     ·rename_i e;subst e;exact ⟨_,h1⟩
     ·split at hi
      ·rename_i e;subst e;exact ⟨_,h2⟩
      ·split at hi
       ·rename_i e;subst e;exact ⟨_,h3⟩
       ·split at hi
        ·rename_i e;subst e;exact ⟨_,h4⟩
        ·split at hi
         ·rename_i e;subst e;exact ⟨_,h5⟩
         ·cases hi
 refine end_loc ren hkp hm (oneOf_of (l:=bkN q t o i a b c d e g) hone) (hr hs) ?_ ⟨rfl,rfl⟩
 exact wko_cells l0 g0 (wkl_cons (wk_ptr (i:=i) rfl l1) wkl_nil)
  (wko_cells l1 g1 (wkl_cons (wk_ptr (i:=a) rfl l2) (wkl_cons (wk_ptr (i:=g) rfl l7) (wkl_cons (wk_int rfl) (wkl_cons (wk_int rfl) wkl_nil))))
  (wko_tab hs l2 h0 rfl l3 rfl l6
  (wko_cells l3 h1 (wkl_cons (wk_sl rfl l4 rfl (Nat.le_refl _) (Nat.le_refl _)) (wkl_cons (wk_sl rfl l5 rfl (Nat.le_refl _) (Nat.le_refl _)) (wkl_cons (wk_int rfl) wkl_nil)))
  (wko_plain hs l4 h2 rfl cells_plain (wko_plain hs l5 h3 rfl ends_plain (wko_maps hs l6 h4 rfl key_plain (wko_plain hs l7 h5 rfl a_plain wko_nil)))))))
structure LocBN (f:Nat) (avs:List AV) (s:Sy) (q:Bk) (t:TS):Prop where
 out:LocC Try.prog G0 f (.ptr 0 0::avs) [(0,.cells s.a)] 1 fun x h=>x = .tup [.ptr 1 0,.int .i64 0]∧h=⟨bkN q t 1 2 3 4 5 6 7 0,8⟩
 pa:∀ x ∈ avs,Plain x
theorem cx_BN {f:Nat} {avs:List AV} {s:Sy} {q:Bk} {t:TS} {g nx:Nat} {l:List (Nat × AObj)} {K:AV→Hp→Prop} (hc:LocBN f avs s q t) (h5:lk l g=some (.cells s.a)) (hlt:g < nx)
  (hk:filtK [g] l fun l2=>K (.tup [.ptr nx 0,.int .i64 0]) ⟨([(nx,.cells [.ptr (nx+1) 0]),(nx+1,.cells [.ptr (nx+2) 0,.ptr g 0,.int .i64 (q.a:Nat),.int .i64 (q.n:Nat)]),(nx+2,.cells (tabC (nx+3) (nx+6) t.C)),(nx+3,.cells [.sl (nx+4) 0 t.n t.n 7,.sl (nx+5) 0 t.m t.m 3,.int .i64 (t.S.fr:Nat)]),(nx+4,.cells (cellsB t.n t.V t.W t.V3 t.V4 t.S.L t.S.N t.S.P)),(nx+5,.cells (endsB t.m t.S.A t.S.B t.S.C)),(nx+6,.maps (t.E.map keyE)),(g,.cells q.s.a)]:List (Nat × AObj))++l2,nx+7⟩):CallX Try.prog G0 (.fn f [] []) (.ptr g 0::avs) ⟨l,nx⟩ K:=by
 have e0:enter [g] g 0:=rfl
 have k0:back [g] nx 0 g:=rfl
 have k1:back [g] nx 1 nx:=rfl
 have k2:back [g] nx 2 (nx+1):=rfl
 have k3:back [g] nx 3 (nx+2):=rfl
 have k4:back [g] nx 4 (nx+3):=rfl
 have k5:back [g] nx 5 (nx+4):=rfl
 have k6:back [g] nx 6 (nx+5):=rfl
 have k7:back [g] nx 7 (nx+6):=rfl
 refine cx_loc (r':=.tup [.ptr nx 0,.int .i64 0]) (l1:=bkN q t nx (nx+1) (nx+2) (nx+3) (nx+4) (nx+5) (nx+6) g) [g] hc.out plainG rfl (.cons e0 h5 (rnl_plain a_plain) .nil)
  ?_ (by intro x hx;simp only [List.mem_cons,List.not_mem_nil,or_false] at hx;omega) (rn_tup ⟨rn_ptr k1,rn_plain plain_int,trivial⟩)
  (.cons k1 ⟨rn_ptr k2,trivial⟩ (.cons k2 ⟨rn_ptr k3,rn_ptr k0,rn_plain plain_int,rn_plain plain_int,trivial⟩ (.cons k3 (rn_tabC k4 k7) (.cons k4 ⟨rn_sl k5,rn_sl k6,rn_plain plain_int,trivial⟩ (.cons k5 rnl_cells (.cons k6 rnl_ends (.maps k7 key_plain (.cons k0 (rnl_plain a_plain) .nil)))))))) hk
 simp only [List.nil_append,List.append_nil]
 exact ⟨rn_ptr e0,rnl_plain hc.pa⟩
theorem k_stated (a n:Int):PureS 35 [.int .i64 a,.int .i64 n] (.bool (decide (stat a n))):=by
 refine PureS.mk (pure_x hmix b35 plainG ⟨plain_int,plain_int,trivial⟩ plain_bool rfl ?_)
 unfold c35
 (refine wx_Ji ?_;repeat' (first|with_reducible refine And.intro ?_ ?_|intro hsp))
 all_goals exact end_bool (by first|exact (decide_eq_false fun h:stat a n=>by obtain ⟨h1,h2,h3,h4⟩:=h;omega).symm|exact decide_eq_decide.2 ⟨fun h=>⟨by omega,by omega,by omega,by omega⟩,fun h=>by obtain ⟨h1,h2,h3,h4⟩:=h;omega⟩)
section
variable {s:Sy} {a n:Int}
theorem plain_ne {e:Int}:Plain (.tup [.nilp,.int .i64 e]):=plain_tup fun x hx=>by
 simp only [List.mem_cons,List.not_mem_nil,or_false] at hx
 rcases hx with rfl|rfl;exact plain_nilp;exact plain_int
theorem b_New_far (hg:GoodS s) (hn:¬ stat a n):LocS 15 [.int .i64 a,.int .i64 n] s.a (.tup [.nilp,.int .i64 7]) s.a:=by
 have hc:=p_counts hg
 have hst:=k_stated a n
 rw [decide_eq_false hn] at hst
 unfold Sy.counts at hc
 refine LocS.mk (loc_x hmix b15 rfl ?_) a_plain a_plain plain_i2 plain_ne
 unfold c15
 generalize cntK s.K 0 1024=n0 at *
 generalize cntK s.K 1 1024=n1 at *
 generalize cntK s.K 2 1024=n2 at *
 generalize cntK s.K 3 1024=n3 at *
 generalize cntG s.G 64=n4 at *
 (refine wx_Ji ?_;repeat' (first|with_reducible refine And.intro ?_ ?_|intro hsp))
 all_goals exact end_s rfl plain_ne rfl a_plain
theorem b_New_no (hg:GoodS s) (hn:stat a n) (he:(s.chg a n 0 1 0).1 ≠ 0):LocS 15 [.int .i64 a,.int .i64 n] s.a (.tup [.nilp,.int .i64 (s.chg a n 0 1 0).1]) (s.chg a n 0 1 0).2.a:=by
 have hc:=p_counts hg
 have hst:=k_stated a n
 rw [decide_eq_true hn] at hst
 have hr:=p_reserve (a:=a) (n:=n) hg
 unfold Sy.counts at hc
 refine LocS.mk (loc_x hmix b15 rfl ?_) a_plain a_plain plain_i2 plain_ne
 unfold c15
 generalize cntK s.K 0 1024=n0 at *
 generalize cntK s.K 1 1024=n1 at *
 generalize cntK s.K 2 1024=n2 at *
 generalize cntK s.K 3 1024=n3 at *
 generalize cntG s.G 64=n4 at *
 generalize s.chg a n 0 1 0=r at *
 (refine wx_Ji ?_;repeat' (first|with_reducible refine And.intro ?_ ?_|intro hsp))
 all_goals first|exact end_s rfl plain_ne rfl a_plain|(exfalso;omega)
theorem b_New (hg:GoodS s) (hn:stat a n) (he:(s.chg a n 0 1 0).1=0):LocBN 15 [.int .i64 a,.int .i64 n] s ⟨a.toNat,n.toNat,[],(s.chg a n 0 1 0).2⟩ T0:=by
 have hc:=p_counts hg
 have hst:=k_stated a n
 rw [decide_eq_true hn] at hst
 have hr:=p_reserve (a:=a) (n:=n) hg
 rw [he] at hr
 have hnew:=n_New
 have ha:((a.toNat:Nat):Int)=a:=Int.toNat_of_nonneg hn.1
 have hna:((n.toNat:Nat):Int)=n:=Int.toNat_of_nonneg (by have:=hn.2.2.1;omega)
 unfold Sy.counts at hc
 refine LocBN.mk (loc_x hmix b15 rfl ?_) plain_i2
 unfold c15
 generalize cntK s.K 0 1024=n0 at *
 generalize cntK s.K 1 1024=n1 at *
 generalize cntK s.K 2 1024=n2 at *
 generalize cntK s.K 3 1024=n3 at *
 generalize cntG s.G 64=n4 at *
 generalize s.chg a n 0 1 0=r at *
 generalize T0=t0 at *
 (refine wx_Ji ?_;repeat' (first|with_reducible refine And.intro ?_ ?_|intro hsp))
 all_goals exact end_G [(1,8),(2,7),(3,2),(4,3),(5,4),(6,5),(7,6)] 1 2 3 4 5 6 7 0 rfl (by decide) rfl (by decide) (fun hs=>wk_tup (wkl_cons (wk_ptr (i:=1) rfl (show 1 < 8 by decide)) (wkl_cons (wk_int rfl) wkl_nil))) rfl (by dsimp only;rw [ha,hna];rfl) rfl rfl rfl rfl rfl rfl
structure LocBB (avs:List AV) (q:Bk) (t:TS):Prop where
 out:LocC Try.prog G0 7 avs [] 0 fun x h=>x = .tup [.ptr 7 0,.ptr 0 0,.int .i64 0]∧h=⟨bkN q t 0 1 2 3 4 5 6 7,8⟩
 pa:∀ x ∈ avs,Plain x
theorem cx_BB {avs:List AV} {q:Bk} {t:TS} {nx:Nat} {l:List (Nat × AObj)} {K:AV→Hp→Prop} (hc:LocBB avs q t)
  (hk:K (.tup [.ptr (nx+7) 0,.ptr nx 0,.int .i64 0]) ⟨([(nx,.cells [.ptr (nx+1) 0]),(nx+1,.cells [.ptr (nx+2) 0,.ptr (nx+7) 0,.int .i64 (q.a:Nat),.int .i64 (q.n:Nat)]),(nx+2,.cells (tabC (nx+3) (nx+6) t.C)),(nx+3,.cells [.sl (nx+4) 0 t.n t.n 7,.sl (nx+5) 0 t.m t.m 3,.int .i64 (t.S.fr:Nat)]),(nx+4,.cells (cellsB t.n t.V t.W t.V3 t.V4 t.S.L t.S.N t.S.P)),(nx+5,.cells (endsB t.m t.S.A t.S.B t.S.C)),(nx+6,.maps (t.E.map keyE)),(nx+7,.cells q.s.a)]:List (Nat × AObj))++l,nx+8⟩):CallX Try.prog G0 (.fn 7 [] []) avs ⟨l,nx⟩ K:=by
 have k0:back [] nx 0 nx:=rfl
 have k1:back [] nx 1 (nx+1):=rfl
 have k2:back [] nx 2 (nx+2):=rfl
 have k3:back [] nx 3 (nx+3):=rfl
 have k4:back [] nx 4 (nx+4):=rfl
 have k5:back [] nx 5 (nx+5):=rfl
 have k6:back [] nx 6 (nx+6):=rfl
 have k7:back [] nx 7 (nx+7):=rfl
 exact cx_loc (r':=.tup [.ptr (nx+7) 0,.ptr nx 0,.int .i64 0]) (l1:=bkN q t nx (nx+1) (nx+2) (nx+3) (nx+4) (nx+5) (nx+6) (nx+7)) [] hc.out plainG rfl .nil (by simpa using rnl_plain hc.pa) (by simp) (rn_tup ⟨rn_ptr k7,rn_ptr k0,rn_plain plain_int,trivial⟩)
  (.cons k0 ⟨rn_ptr k1,trivial⟩ (.cons k1 ⟨rn_ptr k2,rn_ptr k7,rn_plain plain_int,rn_plain plain_int,trivial⟩ (.cons k2 (rn_tabC k3 k6) (.cons k3 ⟨rn_sl k4,rn_sl k5,rn_plain plain_int,trivial⟩ (.cons k4 rnl_cells (.cons k5 rnl_ends (.maps k6 key_plain (.cons k7 (rnl_plain a_plain) .nil)))))))) (filtK_nil hk)
structure LocBE (avs:List AV) (e:Int) (ds:List AV):Prop where
 out:LocC Try.prog G0 7 avs [] 0 fun x h=>x = .tup [.ptr 0 0,.nilp,.int .i64 e]∧h=⟨[(0,.cells ds)],1⟩
 pa:∀ x ∈ avs,Plain x
 pd:∀ x ∈ ds,Plain x
theorem cx_BE {avs:List AV} {e:Int} {ds:List AV} {nx:Nat} {l:List (Nat × AObj)} {K:AV→Hp→Prop} (hc:LocBE avs e ds) (hk:K (.tup [.ptr nx 0,.nilp,.int .i64 e]) ⟨(nx,.cells ds)::l,nx+1⟩):CallX Try.prog G0 (.fn 7 [] []) avs ⟨l,nx⟩ K:=by
 have k0:back [] nx 0 nx:=rfl
 exact cx_loc (r':=.tup [.ptr nx 0,.nilp,.int .i64 e]) (l1:=[(nx,.cells ds)]) [] hc.out plainG rfl .nil (by simpa using rnl_plain hc.pa) (by simp) (rn_tup ⟨rn_ptr k0,rn_plain plain_nilp,rn_plain plain_int,trivial⟩)
  (.cons k0 (rnl_plain hc.pd) .nil) (filtK_nil hk)
theorem end_BE {top:Bool} {h:Hp} {x:AV} {i:Nat} {ds:List AV} {e:Int} (hx:x = .tup [.ptr i 0,.nilp,.int .i64 e]) (h0:lk h.l i=some (.cells ds)) (pd:∀ x ∈ ds,Plain x):EndX top Try.prog 0 h x (fun r' h'=>r' = .tup [.ptr 0 0,.nilp,.int .i64 e]∧h'=⟨[(0,.cells ds)],1⟩):=by
 subst hx
 have e0:rn [(0,i)] 0=i:=rfl
 have hs:SubH (rn [(0,i)]) h ⟨[(0,.cells ds)],1⟩:=fun j o hj=>by
  simp only [lk] at hj
  split at hj
  ·rename_i e;subst e;exact ⟨_,h0⟩
  ·cases hj
 exact end_loc [(0,i)] rfl (Nat.zero_le _) (oneOf_of rfl) (wk_tup (wkl_cons (wk_ptr e0 (show 0 < 1 by decide)) (wkl_cons (wk_plain hs plain_nilp) (wkl_cons (wk_int rfl) wkl_nil)))) (wko_plain hs (show 0 < 1 by decide) (by rw [e0];exact h0) rfl pd wko_nil) ⟨rfl,rfl⟩
theorem pa_py {p:Py}:∀ x ∈ [AV.agg (pyE p)],Plain x:=fun x hx=>by obtain rfl:=List.mem_singleton.1 hx;exact plain_py p
theorem plain_nne {e:Int}:Plain (.tup [.nilp,.nilp,.int .i64 e]):=plain_tup fun x hx=>by
 simp only [List.mem_cons,List.not_mem_nil,or_false] at hx
 rcases hx with rfl|rfl|rfl;exact plain_nilp;exact plain_nilp;exact plain_int
theorem l_begun (p:Py):(∃ e,e ≠ 0∧PureS 7 [.agg (pyE p)] (.tup [.nilp,.nilp,.int .i64 e]))∨(∃ e ds,e ≠ 0∧LocBE [.agg (pyE p)] e ds)∨((chkP p.l).2=0∧stat p.a p.n∧((Sy.new p.l).chg p.a p.n 0 1 0).1=0∧LocBB [.agg (pyE p)] p.b T0):=by
 by_cases hc:(chkP p.l).2=0
 ·have hnw:=p_new (l:=p.l) (i:=(chkP p.l).1) (Prod.ext rfl hc)
  have hg:=good_new hc
  by_cases hst:stat p.a p.n
  ·by_cases he:((Sy.new p.l).chg p.a p.n 0 1 0).1=0
   ·have h1:=b_New hg hst he
    refine .inr (.inr ⟨hc,hst,he,LocBB.mk (loc_x hmix b7 rfl ?_) pa_py⟩)
    unfold c7
    unfold Py.b pyE
    generalize Sy.new p.l=s0 at *
    generalize T0=t0 at *
    generalize s0.chg p.a p.n 0 1 0=r at *
    (refine wx_Ji ?_;repeat' (first|with_reducible refine And.intro ?_ ?_|intro hsp))
    all_goals exact end_G [(0,2),(1,3),(2,4),(3,5),(4,6),(5,7),(6,8),(7,1)] 0 1 2 3 4 5 6 7 rfl (by decide) rfl (by decide) (fun hs=>wk_tup (wkl_cons (wk_ptr (i:=7) rfl (show 7 < 8 by decide)) (wkl_cons (wk_ptr (i:=0) rfl (show 0 < 8 by decide)) (wkl_cons (wk_int rfl) wkl_nil)))) rfl rfl rfl rfl rfl rfl rfl rfl
   ·have h1:=b_New_no hg hst he
    refine .inr (.inl ⟨_,((Sy.new p.l).chg p.a p.n 0 1 0).2.a,he,LocBE.mk (loc_x hmix b7 rfl ?_) pa_py a_plain⟩)
    unfold c7
    unfold pyE
    generalize Sy.new p.l=s0 at *
    generalize s0.chg p.a p.n 0 1 0=r at *
    (refine wx_Ji ?_;repeat' (first|with_reducible refine And.intro ?_ ?_|intro hsp))
    all_goals exact end_BE rfl rfl a_plain
  ·have h1:=b_New_far hg hst
   refine .inr (.inl ⟨7,(Sy.new p.l).a,by decide,LocBE.mk (loc_x hmix b7 rfl ?_) pa_py a_plain⟩)
   unfold c7
   unfold pyE
   generalize Sy.new p.l=s0 at *
   (refine wx_Ji ?_;repeat' (first|with_reducible refine And.intro ?_ ?_|intro hsp))
   all_goals exact end_BE rfl rfl a_plain
 ·have hnw:=p_new_no (l:=p.l) (i:=(chkP p.l).1) (e:=(chkP p.l).2) rfl hc
  refine .inl ⟨_,hc,PureS.mk (pure_x hmix b7 plainG ⟨plain_py p,trivial⟩ plain_nne rfl ?_)⟩
  unfold c7
  unfold pyE
  generalize (chkP p.l).2=e at *
  (refine wx_Ji ?_;repeat' (first|with_reducible refine And.intro ?_ ?_|intro hsp))
  all_goals first|exact end_plain rfl plain_nne|(exfalso;omega)
end
end Go.Proofs.Ytphggldkligldaa.Sh
