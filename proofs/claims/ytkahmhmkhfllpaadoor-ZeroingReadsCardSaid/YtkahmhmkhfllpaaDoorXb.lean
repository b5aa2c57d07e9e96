/-
 Systems that are made by spans and bytes: walks of system and mirror.
-/
import Derived.Test.YtkahmhmkhfllpaaDoorXa
import Derived.Test.YtkahmhmkhfllpaaDoorUa
import Derived.Test.YtkahmhmkhfllpaaDoorZrE
set_option linter.unusedSimpArgs false
set_option linter.unusedVariables false
namespace Go.Pol
open Go.Am
def puA (x:II):List AV:=[.int .i64 x.1,.int .u8 x.2]
theorem puA_len (x:II):(puA x).length=2:=rfl
end Go.Pol
namespace Go.Proofs.YtkahmhmkhfllpaaDoor
open Go Go.Am Go.Pol
theorem plain_puA (x:II):∀ y ∈ puA x,Plain y:=plain_2 plain_int plain_int
theorem cutA_len (x:II):(cutA x).length=2:=rfl
theorem plain_cutAl (x:II):∀ y ∈ cutA x,Plain y:=plain_2 plain_int plain_int
theorem plain_pus {P:List II}:Plain (.isl (P.map puA)):=plain_isls plain_puA
theorem plain_cus {P:List II}:Plain (.isl (P.map cutA)):=plain_isls plain_cutAl
theorem plain_made {X P:List II}:Plain (.agg [.isl (X.map cutA),.isl (P.map puA)]):=plain_agg (plain_2 plain_cus plain_pus)
structure LocY (f:Nat) (avs:List AV) (ds:List AV):Prop where
 out:LocC Tryd.prog G0 f avs [] 0 fun x h=>x = .ptr 0 0∧h=⟨[(0,.cells ds)],1⟩
 pd:∀ x ∈ ds,Plain x
 pa:∀ x ∈ avs,Plain x
theorem end_y {top:Bool} {h:Hp} {x:AV} {i:Nat} {cs ds:List AV} (hx:x = .ptr i 0) (hc:cs=ds) (h0:lk h.l i=some (.cells cs)) (pd:∀ x ∈ ds,Plain x):EndX top Tryd.prog 0 h x (fun r' h'=>r' = .ptr 0 0∧h'=⟨[(0,.cells ds)],1⟩):=by
 subst hx;subst hc
 have e0:rn [(0,i)] 0=i:=rfl
 have hs:SubH (rn [(0,i)]) h ⟨[(0,.cells cs)],1⟩:=fun j o hj=>by
  simp only [lk] at hj
  split at hj
  ·rename_i e;subst e;exact ⟨_,h0⟩
  ·cases hj
 exact end_loc [(0,i)] rfl (Nat.zero_le _) (oneOf_of rfl) (wk_ptr e0 (show 0 < 1 by decide)) (wko_plain hs (show 0 < 1 by decide) (by rw [e0];exact h0) rfl pd wko_nil) ⟨rfl,rfl⟩
theorem cx_locY {f nx:Nat} {avs:List AV} {ds:List AV} {l:List (Nat × AObj)} {K:AV→Hp→Prop} (hc:LocY f avs ds) (hk:K (.ptr nx 0) ⟨(nx,.cells ds)::l,nx+1⟩):CallX Tryd.prog G0 (.fn f [] []) avs ⟨l,nx⟩ K:=by
 have k0:back [] nx 0 nx:=rfl
 refine cx_loc (r':=.ptr nx 0) (l1:=[(nx,.cells ds)]) [] hc.out plainG rfl .nil (by simpa using rnl_plain hc.pa) (by simp) (rn_ptr k0)
  (.cons k0 (rnl_plain hc.pd) .nil) (filtK_nil hk)
theorem plx_Xb {p:Prop} (h:p:=by ((first|assumption|exact plain_int|exact plain_bool|exact plain_undef|exact plain_nils|exact plain_nilp|exact plain_nilf|exact plain_str|with_reducible apply plain_rl|with_reducible apply plain_rls|with_reducible apply plain_pl|with_reducible apply plain_ii|with_reducible apply plain_st|with_reducible apply plain_stE|with_reducible apply plain_pus|with_reducible apply plain_cus|with_reducible apply plain_made|fail);first|done|fail)):p:=h
theorem prx_Xb {p:Prop} (h:p:=by (((repeat' (first|exact plain_all0|refine plain_all2 ?_ ?_|exact plain_int|first|assumption|exact plain_int|exact plain_bool|exact plain_undef|exact plain_nils|exact plain_nilp|exact plain_nilf|exact plain_str|with_reducible apply plain_rl|with_reducible apply plain_rls|with_reducible apply plain_pl|with_reducible apply plain_ii|with_reducible apply plain_st|with_reducible apply plain_stE|with_reducible apply plain_pus|with_reducible apply plain_cus|with_reducible apply plain_made)));first|done|fail)):p:=h
theorem ppx_Xb {p:Prop} (h:p:=by ((first|with_reducible assumption|with_reducible apply rlA_plain _|with_reducible apply plain_flat rlA_plain|with_reducible apply stA_plain|with_reducible apply memT_plain|with_reducible apply b_plain|with_reducible apply a_plain|with_reducible apply plain_puA _|with_reducible apply plain_cutAl _|with_reducible apply plain_map (fun _=>plain_int)|with_reducible apply plain_map (fun _=>plain_bool)|exact prx_Xb|fail);first|done|fail)):p:=h
theorem wvx_Xb {p:Prop} (h:p:=by ((first|exact wk_undef|exact wk_int (by first|rfl|omega|(dsimp only;omega))|exact wk_bool rfl|exact wk_ptr rfl (by first|decide|simp|omega)|exact wk_sl rfl (by first|decide|simp|omega) (by first|rfl|omega|simp) (by first|omega|simp) (by first|omega|simp)|exact wk_own rfl (by first|decide|simp|omega)|exact wk_nil0 (by first|rfl|simp)|exact wk_slown rfl (by first|decide|omega|(simp;done)) (by first|omega|(simp;done)) (by first|rfl|omega|(simp;done)|(simp;omega))|exact wk_plain hs plx_Xb|(with_reducible refine wk_fn ?_ ?_<;>repeat' (first|with_reducible exact wkl_nil|with_reducible refine wkl_cons ?_ ?_|exact wk_ptr rfl (by first|decide|simp|omega)))|(with_reducible refine wk_agg ?_;repeat' (first|with_reducible exact wkl_nil|with_reducible refine wkl_cons ?_ ?_|exact wk_int (by first|rfl|omega|(dsimp only;omega))|exact wk_bool rfl))|exact wk_yld rfl (by first|decide|simp|omega)|fail);first|done|fail)):p:=h
theorem wkx_Xb {p:Prop} (h:p:=by (refine weak_s (by exact oneOf_of rfl) (by exact subH_of rfl) (by intro hs;(repeat' ((try (conv=>whnf));first|with_reducible exact True.intro|with_reducible refine And.intro ?_ ?_|(with_reducible refine WkX.mk ?_;first|exact wvx_Xb|fail)))) (by intro hs;(try dsimp only);(repeat' (first|with_reducible exact wko_nil|refine wko_plain hs (by first|decide|omega|simp) rfl (by first|rfl) (by (first|exact ppx_Xb|fail|((refine plain_app ?_ ?_)<;>(first|exact ppx_Xb|fail)))) ?_|refine wko_cells (by first|decide|omega|simp) rfl (by repeat' (first|with_reducible exact wkl_nil|with_reducible refine wkl_cons ?_ ?_|(first|exact wvx_Xb|fail))) ?_|refine wko_loop (by first|decide|omega|simp) rfl (by ((try subst hF);(try subst hF2);exact wkl_sd (wkf_sget (by (repeat' ((try (conv=>whnf));first|with_reducible exact True.intro|with_reducible refine And.intro ?_ ?_|(with_reducible refine WkX.mk ?_;first|exact wvx_Xb|fail))))))) ?_|exact wko_nil))))):p:=h
theorem wxb {p q:Prop} (hq:q) (h:HidP q→p:=by (intro hQz;((repeat' ((try (conv=>whnf));first|(with_reducible first|refine run_cons ?_|refine runq_cons ?_|refine code_seq ?_|refine code_reg ?_|refine code_cond ?_|refine run_nil ?_|refine runq_nil ?_|refine rund_op rfl ?_|refine rund_nil ?_|refine code_block ?_|refine code_skip ?_|refine code_exit ?_|refine code_ret ?_|refine code_range ?_|refine rund_fast (by decide +kernel) ?_|refine rund_slow (by decide +kernel) ?_|refine br_tt ?_|refine br_ff ?_|refine br_n ?_|refine br_and ?_|refine br_or ?_|refine br_t (by assumption) ?_|refine br_f (by assumption) ?_|refine eq_i64 (by omega) ?_|refine el_tn ?_)|((with_reducible refine br_dt ?_ ?_);focus omega)|((with_reducible refine br_df ?_ ?_);focus omega)|((with_reducible apply br_dq hQz)<;>(try intro hsp hQz))|((with_reducible refine ck_x ?_ ?_);focus (first|omega|rfl|assumption|decide|(simp only [List.length_map,List.length_cons,List.length_nil];omega)))|(with_reducible first|refine eq_tn ?_|refine eq_tn1 ?_|refine eq_tn2 ?_|refine eq_m1 ?_|refine eq_m2 ?_|refine eq_zm ?_|refine eq_z ?_|refine len_map ?_|refine len_sl ?_|refine len_nils ?_|refine len_own' ?_|refine len_isl ?_|refine eq_u8 (by omega) ?_|refine eq_u16 (by omega) ?_)|refine el_row cutA_len (by first|assumption|omega) (by with_reducible assumption) ?_|refine el_row puA_len (by first|assumption|omega) (by with_reducible assumption) ?_|refine eq_of (by with_reducible assumption) ?_|(with_reducible first|refine eq_rfl ?_|refine ChkX.mk (by kernel_rfl) ?_|refine code_d (by decide +kernel) ?_|refine end_go rfl ?_)|refine cx_locN (by assumption) ?_|refine cx_locS (by assumption) rfl (by omega) ?_|refine dcx_locS (by assumption) rfl rfl ?_|refine len_map ?_|refine len_isl ?_|refine el_of rfl rfl ?_|refine del_own ?_|refine del_own' rfl ?_|refine as_go rfl ?_|refine rd_go rfl ?_|refine rg_end rfl ?_|refine flat_ownX ?_|refine EqLX.mk ?_|((with_reducible apply br_bq hQz)<;>(try intro hsp hQz))|exact hQz.out))<;>(try (conv=>whnf))))):p:=h ⟨hq⟩
section
variable {X P:List II}
set_option maxHeartbeats 1600000 in
theorem p_system (hX:X.length≤20) (hP:P.length≤100):LocY 8 [.agg [.isl (X.map cutA),.isl (P.map puA)]] (mkS X P).a:=by
 have zn:=n_new
 refine LocY.mk (loc_x hmix b8 rfl ?_) a_plain (plain_1 plain_made)
 unfold c8
 (refine wxb ?_;repeat' (first|with_reducible refine And.intro ?_ ?_|intro hsp))
 all_goals first|(exfalso;omega)|skip
 (refine loop_x [1,3] (fun (q:Nat × Sy)=>[(5,.int .i64 (q.1:Nat))]) (fun (q:Nat × Sy)=>⟨[(0,.cells [.isl (X.map cutA),.isl (P.map puA)]),(1,.cells q.2.a)],2⟩) (fun (q:Nat × Sy)=>q.1≤X.length∧GoodS q.2∧q.2=(X.take q.1).foldl spS (Sy.new [])) (fun (q:Nat × Sy)=>X.length - q.1) ((0,Sy.new [])) [] rfl (fun _=>by first|exact Nat.zero_le _|(dsimp only;omega)) ?_ (by ((try (conv=>whnf));exact wkx_Xb)) ?_)
 ·exact ⟨Nat.zero_le _,good_new rfl,rfl⟩
 rintro ⟨i,s⟩ ⟨hi,hg,hs⟩
 dsimp only at hi hg hs ⊢
 by_cases hil:i < X.length
 ·obtain ⟨a,n,he⟩:∃ a n,nth (0,0) X i=(a,n):=⟨_,_,rfl⟩
  have hx:cutA (nth (0,0) X i)=[.int .i64 a,.int .i64 n]:=by rw [he];rfl
  have hn:=fold_take (f:=spS) (s:=Sy.new []) hil
  rw [← hs,he] at hn
  have z1:=p_reserve hg (a:=a) (n:=n)
  have hg1:=good_chg hg (a:=a) (n:=n) (v:=0) (w:=1) (k:=0) (by decide)
  have z2:=p_commit hg1 (a:=a) (n:=n)
  have hg2:=good_chg hg1 (a:=a) (n:=n) (v:=1) (w:=2) (k:=2) (by decide)
  rw [show spS s (a,n)=if (s.chg a n 0 1 0).1=0 then ((s.chg a n 0 1 0).2.chg a n 1 2 2).2 else (s.chg a n 0 1 0).2 from rfl] at hn
  generalize s.chg a n 0 1 0=r1 at *
  obtain ⟨e,s1⟩:=r1
  dsimp only at z1 z2 hg1 hg2 hn
  generalize s1.chg a n 1 2 2=r2 at *
  obtain ⟨e2,s2⟩:=r2
  dsimp only at z2 hg2 hn
  by_cases h0:e=0
  ·rw [if_pos h0] at hn
   (refine wxb ?_;repeat' (first|with_reducible refine And.intro ?_ ?_|intro hsp))
   all_goals first|(exfalso;omega)|skip
   all_goals exact next_x (i+1,s2) [] ⟨by dsimp only;omega,hg2,hn.symm⟩ (by first|omega|(dsimp only;omega)) rfl (by exact wkx_Xb)
  ·rw [if_neg h0] at hn
   (refine wxb ?_;repeat' (first|with_reducible refine And.intro ?_ ?_|intro hsp))
   all_goals first|(exfalso;omega)|skip
   all_goals exact next_x (i+1,s1) [] ⟨by dsimp only;omega,hg1,hn.symm⟩ (by first|omega|(dsimp only;omega)) rfl (by exact wkx_Xb)
 rw [fold_all hil] at hs
 (refine wxb ?_;repeat' (first|with_reducible refine And.intro ?_ ?_|intro hsp))
 all_goals first|(exfalso;omega)|skip
 (refine loop_x [1,3] (fun (q:Nat × Sy)=>[(6,.int .i64 (q.1:Nat))]) (fun (q:Nat × Sy)=>⟨[(0,.cells [.isl (X.map cutA),.isl (P.map puA)]),(1,.cells q.2.a)],2⟩) (fun (q:Nat × Sy)=>q.1≤P.length∧GoodS q.2∧q.2=(P.take q.1).foldl ptS (X.foldl spS (Sy.new []))) (fun (q:Nat × Sy)=>P.length - q.1) ((0,s)) [] rfl (fun _=>by first|exact Nat.zero_le _|(dsimp only;omega)) ?_ (by ((try (conv=>whnf));exact wkx_Xb)) ?_)
 ·exact ⟨Nat.zero_le _,hg,hs⟩
 clear hg hs hi hil
 rintro ⟨j,t⟩ ⟨hj,hg,hs⟩
 dsimp only at hj hg hs ⊢
 by_cases hjl:j < P.length
 ·obtain ⟨a,n,he⟩:∃ a n,nth (0,0) P j=(a,n):=⟨_,_,rfl⟩
  have hx:puA (nth (0,0) P j)=[.int .i64 a,.int .u8 n]:=by rw [he];rfl
  have hn:=fold_take (f:=ptS) (s:=X.foldl spS (Sy.new [])) hjl
  rw [← hs,he] at hn
  have z1:=p_write (s:=t) (a:=a) (b:=n)
  have hg1:=good_write hg (a:=a) (b:=n)
  rw [show ptS t (a,n)=(t.write a n).2 from rfl] at hn
  generalize t.write a n=r1 at *
  obtain ⟨e,s1⟩:=r1
  dsimp only at z1 hg1 hn
  (refine wxb ?_;repeat' (first|with_reducible refine And.intro ?_ ?_|intro hsp))
  all_goals first|(exfalso;omega)|skip
  all_goals exact next_x (j+1,s1) [] ⟨by dsimp only;omega,hg1,hn.symm⟩ (by first|omega|(dsimp only;omega)) rfl (by exact wkx_Xb)
 rw [fold_all hjl] at hs
 (refine wxb ?_;repeat' (first|with_reducible refine And.intro ?_ ?_|intro hsp))
 all_goals first|(exfalso;omega)|skip
 all_goals exact end_y rfl (by rw [hs];rfl) rfl a_plain
end
end Go.Proofs.YtkahmhmkhfllpaaDoor
