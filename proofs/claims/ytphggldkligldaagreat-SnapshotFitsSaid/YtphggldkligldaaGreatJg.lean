/-
 A book's calls: Counts,Differ.
-/
import Derived.Test.YtphggldkligldaaGreatJf
set_option linter.unusedSimpArgs false
set_option linter.unusedVariables false
namespace Go.Pol
open Go.Am
theorem eqL_map {f g:Nat→Int}:∀ l:List Nat,eqL (l.map fun _=>0) (l.map fun j=>.int .u8 (f j)) (l.map fun j=>.int .u8 (g j))=some (decide (∀ j ∈ l,f j=g j))
 | []=>by simp [eqL]
 | x::l=>by
  simp only [List.map_cons,eqL,eq1,if_true,eqL_map l,Option.map_some,Option.bind_some,Option.some.injEq]
  rw [Bool.eq_iff_iff]
  simp
theorem eqL_bc {f g:Nat→Int}:eqL (List.replicate 64 0) (bcA f) (bcA g)=some (decide (eqB f g)):=by
 have h:=eqL_map (f:=f) (g:=g) (List.range 64)
 have h0:(List.range 64).map (fun _=>0)=List.replicate 64 0:=by rw [List.map_const',List.length_range]
 unfold bcA memA
 rw [← h0,h]
 congr 1
 refine decide_eq_decide.2 ?_
 unfold eqB
 simp only [List.mem_range]
theorem ite_imp {a b:Nat} {p:Prop} [Decidable p] (h:a=b+if p then 1 else 0):(p→a=b+1)∧(¬ p→a=b):=⟨fun hp=>by rw [if_pos hp] at h;exact h,fun hp=>by rw [if_neg hp] at h;exact h⟩
def Bk.difN (b:Bk) (x y k:Nat):List Int:=((List.range k).filter fun k=>b.dif x y k).map fun k=>((k:Nat):Int)
theorem dif_0 {b:Bk} {x y:Nat}:b.difN x y 0=[]:=rfl
theorem dif_s {b:Bk} {x y k:Nat}:b.difN x y (k+1)=if b.dif x y k=true then b.difN x y k++[((k:Nat):Int)] else b.difN x y k:=by
 unfold Bk.difN
 rw [List.range_succ,List.filter_append,List.map_append]
 by_cases h:b.dif x y k=true<;>simp [h]
theorem dif_le {b:Bk} {x y k:Nat}:(b.difN x y k).length≤k:=by
 unfold Bk.difN;rw [List.length_map];exact Nat.le_trans (List.length_filter_le ..) (by rw [List.length_range];exact Nat.le_refl _)
end Go.Pol
namespace Go.Proofs.YtphggldkligldaaGreat.Sh
open Go Go.Am Go.Pol
theorem ppx_Jg {p:Prop} (h:p:=by ((first|with_reducible assumption|with_reducible apply cells_plain|with_reducible apply ends_plain|with_reducible apply cnt_plain|with_reducible apply memI_plain _ _|with_reducible apply vw_plain|with_reducible apply nat_plain|with_reducible apply a_plain|with_reducible apply b_plain|with_reducible apply rdK_plain|with_reducible apply bc_plain|with_reducible apply plain_flat int1_plain|with_reducible apply plain_map (fun _=>plain_int)|with_reducible apply plain_map (fun _=>plain_bool)|exact prx_Je|fail);first|done|fail)):p:=h
theorem wkx_Jg {p:Prop} (h:p:=by (refine weak_s (by exact oneOf_of rfl) (by exact subH_of rfl) (by intro hs;(repeat' ((try (conv=>whnf));first|with_reducible exact True.intro|with_reducible refine And.intro ?_ ?_|(with_reducible refine WkX.mk ?_;first|exact wvx_Je|fail)))) (by intro hs;(try dsimp only);(repeat' (first|with_reducible exact wko_nil|refine wko_tab hs (by first|decide|omega|simp) rfl rfl (by first|decide|omega|simp) rfl (by first|decide|omega|simp) ?_|refine wko_maps hs (by first|decide|omega|simp) rfl rfl key_plain ?_|refine wko_plain hs (by first|decide|omega|simp) rfl (by first|rfl) (by (first|exact ppx_Jg|fail|((refine plain_app ?_ ?_)<;>(first|exact ppx_Jg|fail)))) ?_|refine wko_cells (by first|decide|omega|simp) rfl (by repeat' (first|with_reducible exact wkl_nil|with_reducible refine wkl_cons ?_ ?_|(first|exact wvx_Je|fail))) ?_|refine wko_loop (by first|decide|omega|simp) rfl (by ((try subst hF);(try subst hF2);exact wkl_sd (wkf_sget (by (repeat' ((try (conv=>whnf));first|with_reducible exact True.intro|with_reducible refine And.intro ?_ ?_|(with_reducible refine WkX.mk ?_;first|exact wvx_Je|fail))))))) ?_|exact wko_nil))))):p:=h
theorem wx_Jg {p q:Prop} (hq:q) (h:HidP q→p:=by (intro hQz;((repeat' ((try (conv=>whnf));first|(with_reducible first|refine run_cons ?_|refine runq_cons ?_|refine code_seq ?_|refine code_reg ?_|refine code_cond ?_|refine run_nil ?_|refine runq_nil ?_|refine rund_op rfl ?_|refine rund_nil ?_|refine code_block ?_|refine code_skip ?_|refine code_exit ?_|refine code_ret ?_|refine code_range ?_|refine rund_fast (by decide +kernel) ?_|refine rund_slow (by decide +kernel) ?_|refine br_tt ?_|refine br_ff ?_|refine br_n ?_|refine br_and ?_|refine br_or ?_|refine br_t (by assumption) ?_|refine br_f (by assumption) ?_|refine eq_i64 (by omega) ?_|refine el_tn ?_)|((with_reducible refine br_dt ?_ ?_);focus omega)|((with_reducible refine br_df ?_ ?_);focus omega)|((with_reducible apply br_dq hQz)<;>(try intro hsp hQz))|((with_reducible refine ck_x ?_ ?_);focus (first|omega|rfl|assumption|decide|(simp only [List.length_map,List.length_cons,List.length_nil];omega)))|(with_reducible first|refine eq_tn ?_|refine eq_tn1 ?_|refine eq_tn2 ?_|refine eq_m1 ?_|refine eq_m2 ?_|refine eq_zm ?_|refine eq_z ?_|refine len_map ?_|refine len_sl ?_|refine len_nils ?_|refine len_own' ?_|refine len_isl ?_|refine eq_u8 (by omega) ?_|refine eq_u16 (by omega) ?_)|(with_reducible first|refine eq_rfl ?_|refine ChkX.mk (by kernel_rfl) ?_|refine code_q rfl ?_|refine code_d (by decide +kernel) ?_|refine end_go rfl ?_)|refine cx_tab (by assumption) rfl rfl rfl rfl rfl (by decide) rfl ?_|refine cx_locS hck rfl (by decide) ?_|refine cx_yldE hmix rfl hF hA hB rfl ?_|(refine cx_in hmix b75 rfl ?_;unfold c75)|refine cx_b0 his rfl rfl rfl rfl rfl rfl rfl rfl (by decide) rfl ?_|refine len_map ?_|refine len_isl ?_|refine el_of rfl rfl ?_|refine del_own ?_|refine del_own' rfl ?_|refine as_go rfl ?_|refine rd_go rfl ?_|refine rg_end rfl ?_|refine flat_ownX ?_|refine EqLX.mk ?_|((with_reducible apply br_bq hQz)<;>(try intro hsp hQz))|exact hQz.out))<;>(try (conv=>whnf))))):p:=h ⟨hq⟩
section
variable {q:Bk} {t:TS}
theorem plain_i4 {a b c d:Int}:Plain (.tup [.int .i64 a,.int .i64 b,.int .i64 c,.int .i64 d]):=plain_tup fun x hx=>by
 simp only [List.mem_cons,List.not_mem_nil,or_false] at hx
 rcases hx with rfl|rfl|rfl|rfl<;>exact plain_int
set_option maxHeartbeats 1600000 in
theorem b_Counts (hg:GoodB q) (h:TOk q.L t):LocB 34 0 [] q t (.tup [.int .i64 (q.used:Nat),.int .i64 (q.idle:Nat),.int .i64 (q.many:Nat),.int .i64 0]) q t:=by
 refine LocB.mk (loc_x hmix b34 rfl ?_) (fun x hx=>by cases hx) plain_i4
 have hrng:=hg.rng
 have his:=b_is (q:=q) (t:=t)
 rw [used_R,idle_R,many_R]
 unfold c34
 unfold bkN rdN
 generalize hpu:(fun f=>decide (0 < cntF q.L f))=pu
 generalize hpi:(fun f=>decide (cntF q.L f=0∧q.s.K f=2))=pi
 generalize hpm:(fun f=>decide (1 < cntF q.L f))=pm
 (refine wx_Jg ?_;repeat' (first|with_reducible refine And.intro ?_ ?_|intro hsp))
 refine range_x hmix b137 rfl trivial ?_
 intro frl asl bdl hF hA hB
 unfold c137
 (refine wx_Jg ?_;repeat' (first|with_reducible refine And.intro ?_ ?_|intro hsp))
 (refine loop_x [0,1] (fun (i:Nat)=>[(3,.int .i64 ((q.a+i:Nat):Int))]) (fun (i:Nat)=>⟨bkN q t 0 1 2 3 4 5 6 7++[(8,.cells [.int .i64 (cntR pu q.a i:Nat)]),(9,.cells [.int .i64 (cntR pi q.a i:Nat)]),(10,.cells [.int .i64 (cntR pm q.a i:Nat)]),(11,.cells [.ptr 1 0]),(12,.cells [.ptr 1 0]),(13,.loop .ready none frl [21,22] asl bdl)],14⟩) (fun (i:Nat)=>i≤q.n) (fun (i:Nat)=>q.n - i) (0) [] rfl (fun _=>by first|exact Nat.zero_le _|(dsimp only;omega)) ?_ (by ((try (conv=>whnf));exact wkx_Jg)) ?_)
 ·exact Nat.zero_le _
 intro i hi
 have u1:=cntR_le (p:=pu) (a:=q.a) (i:=i)
 have u2:=cntR_le (p:=pi) (a:=q.a) (i:=i)
 have u3:=cntR_le (p:=pm) (a:=q.a) (i:=i)
 by_cases hil:i < q.n
 ·have hkd:=hg.kind (q.a+i) (by omega) (by omega)
  have hcn:=u_Count h (f:=q.a+i) (by omega)
  have hck:=p_kind (s:=q.s) (a:=((q.a+i:Nat):Int))
  rw [kind_at (by omega) hkd.2] at hck
  have s1:=cntR_s (p:=pu) (a:=q.a) (i:=i)
  have s2:=cntR_s (p:=pi) (a:=q.a) (i:=i)
  have s3:=cntR_s (p:=pm) (a:=q.a) (i:=i)
  have e1:pu (q.a+i)=decide (0 < cntF q.L (q.a+i)):=by rw [← hpu]
  have e2:pi (q.a+i)=decide (cntF q.L (q.a+i)=0∧q.s.K (q.a+i)=2):=by rw [← hpi]
  have e3:pm (q.a+i)=decide (1 < cntF q.L (q.a+i)):=by rw [← hpm]
  rw [e1] at s1
  rw [e2] at s2
  rw [e3] at s3
  simp only [decide_eq_true_eq] at s1 s2 s3
  have hkk:=hkd.1
  generalize cntF q.L (q.a+i)=n at *
  generalize q.s.K (q.a+i)=kk at *
  generalize cntR pu q.a i=w1 at *
  generalize cntR pi q.a i=w2 at *
  generalize cntR pm q.a i=w3 at *
  clear e1 e2 e3 hpu hpi hpm
  have s1:=ite_imp s1
  have s2:=ite_imp s2
  have s3:=ite_imp s3
  unfold bkN rdN
  (refine wx_Jg ?_;repeat' (first|with_reducible refine And.intro ?_ ?_|intro hsp))
  all_goals exact next_x (i+1) [] (by (try dsimp only);omega) (by first|omega|(dsimp only;omega)) rfl (by exact wkx_Jg)
 ·obtain rfl:i=q.n:=by omega
  unfold bkN rdN
  generalize cntR pu q.a q.n=w1 at *
  generalize cntR pi q.a q.n=w2 at *
  generalize cntR pm q.a q.n=w3 at *
  (refine wx_Jg ?_;repeat' (first|with_reducible refine And.intro ?_ ?_|intro hsp))
  all_goals exact end_bk rfl plain_i4 rfl rfl rfl rfl rfl rfl rfl rfl
end
end Go.Proofs.YtphggldkligldaaGreat.Sh
