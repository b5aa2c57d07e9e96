/-
 Load of a good book.
 SnapshotFits.
 The bytes of a page in a state that was saved.
-/
import Derived.Test.YtphggldkligldaaGreatSnK
import Derived.Test.YtphggldkligldaaGreatVmE
set_option linter.unusedSimpArgs false
set_option linter.unusedVariables false
namespace Go.Proofs.YtphggldkligldaaGreat.Sh
open Go Go.Am Go.Pol
theorem sn_plain {a n:Int} {L:List Vw}:∀ x ∈ [AV.int .i64 a,.int .i64 n,.isl (L.map vwC)],Plain x:=fun x hx=>by
 simp only [List.mem_cons,List.not_mem_nil,or_false] at hx
 rcases hx with rfl|rfl|rfl<;>first|exact plain_int|exact plain_vs
section
variable {q:Bk}
end
end Go.Proofs.YtphggldkligldaaGreat.Sh
namespace Go.Pol
open Go.Am
def Bk.run (b:Bk) (X:List Ax):Nat→Bk
 | 0=>b
 | k+1=>((b.run X k).al (nth dA X k)).2
theorem run_good {b:Bk} {X:List Ax} (g:GoodB b):∀ k,GoodB (b.run X k)
 | 0=>g
 | k+1=>call_good (run_good g k) ..
theorem run_own {b:Bk} {X:List Ax} (g:GoodB b) (h:OwnB b):∀ k,OwnB (b.run X k)
 | 0=>h
 | k+1=>by exact call_own (run_good g k) (run_own g h k) _ _ _ _ _ _
end Go.Pol
namespace Go.Proofs.YtphggldkligldaaGreat.Sh
open Go Go.Am Go.Pol
theorem plx_Kc {p:Prop} (h:p:=by ((first|assumption|exact plain_int|exact plain_bool|exact plain_undef|exact plain_nils|exact plain_nilp|exact plain_nilf|exact plain_str|with_reducible apply plain_int|with_reducible apply plain_bool|with_reducible apply plain_vwC|with_reducible apply plain_vwE|with_reducible apply plain_vs|with_reducible apply plain_stA|with_reducible apply plain_ns|with_reducible apply plain_bc|with_reducible apply plain_none|with_reducible apply plain_is|with_reducible apply plain_pl|with_reducible apply plain_rls|with_reducible apply plain_sn|with_reducible apply plain_acs|with_reducible apply plain_py _|with_reducible apply plain_ac _|fail);first|done|fail)):p:=h
theorem prx_Kc {p:Prop} (h:p:=by (((repeat' (first|exact plain_all0|refine plain_all2 ?_ ?_|exact plain_int|first|assumption|exact plain_int|exact plain_bool|exact plain_undef|exact plain_nils|exact plain_nilp|exact plain_nilf|exact plain_str|with_reducible apply plain_int|with_reducible apply plain_bool|with_reducible apply plain_vwC|with_reducible apply plain_vwE|with_reducible apply plain_vs|with_reducible apply plain_stA|with_reducible apply plain_ns|with_reducible apply plain_bc|with_reducible apply plain_none|with_reducible apply plain_is|with_reducible apply plain_pl|with_reducible apply plain_rls|with_reducible apply plain_sn|with_reducible apply plain_acs|with_reducible apply plain_py _|with_reducible apply plain_ac _)));first|done|fail)):p:=h
theorem wvx_Kc {p:Prop} (h:p:=by ((first|exact wk_undef|exact wk_int (by first|rfl|omega|(dsimp only;omega))|exact wk_bool rfl|exact wk_ptr rfl (by first|decide|simp|omega)|exact wk_map rfl (by first|decide|simp|omega)|exact wk_sl rfl (by first|decide|simp|omega) (by first|rfl|omega|simp) (by first|omega|simp) (by first|omega|simp)|exact wk_own rfl (by first|decide|simp|omega)|exact wk_nil0 (by first|rfl|simp)|exact wk_slown rfl (by first|decide|omega|(simp;done)) (by first|omega|(simp;done)) (by first|rfl|omega|(simp;done)|(simp;omega))|exact wk_plain hs plx_Kc|(with_reducible refine wk_fn ?_ ?_<;>repeat' (first|with_reducible exact wkl_nil|with_reducible refine wkl_cons ?_ ?_|exact wk_ptr rfl (by first|decide|simp|omega)))|(with_reducible refine wk_agg ?_;repeat' (first|with_reducible exact wkl_nil|with_reducible refine wkl_cons ?_ ?_|exact wk_int (by first|rfl|omega|(dsimp only;omega))|exact wk_bool rfl))|exact wk_yld rfl (by first|decide|simp|omega)|(with_reducible refine wk_tup ?_;repeat' (first|with_reducible exact wkl_nil|with_reducible refine wkl_cons ?_ ?_|exact wk_int (by first|rfl|omega|(dsimp only;omega))|exact wk_bool rfl|exact wk_ptr rfl (by first|decide|simp|omega)))|fail);first|done|fail)):p:=h
theorem py_good {p:Py} (h1:(chkP p.l).2=0) (h2:stat p.a p.n) (h3:((Sy.new p.l).chg p.a p.n 0 1 0).1=0):GoodB p.b∧OutB p.b∧OwnB p.b∧ByS p.b.s∧(p.l=[]→Tight p.b) :=
 new_book h1 ⟨h2.1,h2.2.2.1,by have:=h2.2.2.2;omega⟩ h3 p.b rfl
theorem al_chain {b:Bk} {X:List Ax} (hw:∀ x ∈ X,0≤x.w) (g:GoodB b) (h:TOk b.L T0):∃ T:Nat→TS,T 0=T0∧(∀ k,k≤X.length→TOk (b.run X k).L (T k))∧∀ k,k < X.length→LocA (nth dA X k) (b.run X k) (T k) ((b.run X k).al (nth dA X k)).1 (b.run X (k+1)) (T (k+1)):=by
 refine chain (n:=X.length) (P:=fun k t=>TOk (b.run X k).L t) (S:=fun k t t'=>LocA (nth dA X k) (b.run X k) t ((b.run X k).al (nth dA X k)).1 (b.run X (k+1)) t') T0 h fun k t hk ht=>?_
 exact l_alone (run_good g k) ht (nth dA X k) (hw _ (nth_mem (d:=dA) hk))
end Go.Proofs.YtphggldkligldaaGreat.Sh
namespace Go.Pol
open Go.Am
theorem bc_by {f:Nat→Int}:bcA f=byA f:=by unfold bcA byA memA;rfl
theorem data_mem {B:Nat→Nat→Int}:∀ {n:Nat} {x:Dt},x ∈ dataTo B n ↔ ∃ p,p < n∧¬ zeroB (B p)∧x=⟨(p:Nat),B p⟩
 | 0,x=>⟨fun h=>(by cases h),fun ⟨p,h,_⟩=>(by omega)⟩
 | n+1,x=>by
  show x ∈ (if zeroB (B n) then dataTo B n else dataTo B n++[⟨(n:Nat),B n⟩]) ↔ _
  by_cases hz:zeroB (B n)
  ·rw [if_pos hz,data_mem]
   constructor
   ·rintro ⟨p,h1,h2⟩;exact ⟨p,by omega,h2⟩
   ·rintro ⟨p,h1,h2,h3⟩
    refine ⟨p,?_,h2,h3⟩
    rcases Nat.lt_or_ge p n with h|h
    ·exact h
    ·obtain rfl:p=n:=by omega
     exact absurd hz h2
  ·rw [if_neg hz,List.mem_append,data_mem,List.mem_singleton]
   constructor
   ·rintro (⟨p,h1,h2⟩|rfl)
    ·exact ⟨p,by omega,h2⟩
    ·exact ⟨n,by omega,hz,rfl⟩
   ·rintro ⟨p,h1,h2,h3⟩
    by_cases e:p=n
    ·subst e;exact .inr h3
    ·exact .inl ⟨p,by omega,h2,h3⟩
def dD:Dt:=⟨0,fun _=>0⟩
theorem over_rep {y:List AV} (h:y.length=64):over (List.replicate 64 (.int .u8 0)) 0 y=y:=over_y h
end Go.Pol
namespace Go.Proofs.YtphggldkligldaaGreat.Sh
open Go Go.Am Go.Pol
theorem plx_Kd {p:Prop} (h:p:=by ((first|assumption|exact plain_int|exact plain_bool|exact plain_undef|exact plain_nils|exact plain_nilp|exact plain_nilf|exact plain_str|with_reducible apply plain_int|with_reducible apply plain_bool|with_reducible apply plain_vwC|with_reducible apply plain_vwE|with_reducible apply plain_vs|with_reducible apply plain_stA|with_reducible apply plain_ns|with_reducible apply plain_bc|with_reducible apply plain_none|with_reducible apply plain_is|with_reducible apply plain_pl|with_reducible apply plain_rls|with_reducible apply plain_sn|with_reducible apply plain_acs|with_reducible apply plain_py _|with_reducible apply plain_ac _|with_reducible apply plain_isls dt_plain|with_reducible apply plain_isls rn_plain|with_reducible apply plain_isls in_plain|fail);first|done|fail)):p:=h
theorem prx_Kd {p:Prop} (h:p:=by (((repeat' (first|exact plain_all0|refine plain_all2 ?_ ?_|exact plain_int|first|assumption|exact plain_int|exact plain_bool|exact plain_undef|exact plain_nils|exact plain_nilp|exact plain_nilf|exact plain_str|with_reducible apply plain_int|with_reducible apply plain_bool|with_reducible apply plain_vwC|with_reducible apply plain_vwE|with_reducible apply plain_vs|with_reducible apply plain_stA|with_reducible apply plain_ns|with_reducible apply plain_bc|with_reducible apply plain_none|with_reducible apply plain_is|with_reducible apply plain_pl|with_reducible apply plain_rls|with_reducible apply plain_sn|with_reducible apply plain_acs|with_reducible apply plain_py _|with_reducible apply plain_ac _|with_reducible apply plain_isls dt_plain|with_reducible apply plain_isls rn_plain|with_reducible apply plain_isls in_plain)));first|done|fail)):p:=h
theorem ppx_Kd {p:Prop} (h:p:=by ((first|with_reducible assumption|with_reducible apply cells_plain|with_reducible apply ends_plain|with_reducible apply cnt_plain|with_reducible apply memI_plain _ _|with_reducible apply vw_plain|with_reducible apply nat_plain|with_reducible apply a_plain|with_reducible apply b_plain|with_reducible apply rdK_plain|with_reducible apply bc_plain|with_reducible apply plain_flat int1_plain|with_reducible apply sn_plain|with_reducible apply py_plain _|with_reducible apply ac_plain _|with_reducible apply plain_map (fun _=>plain_int)|with_reducible apply plain_map (fun _=>plain_bool)|exact prx_Kd|fail);first|done|fail)):p:=h
theorem wvx_Kd {p:Prop} (h:p:=by ((first|exact wk_undef|exact wk_int (by first|rfl|omega|(dsimp only;omega))|exact wk_bool rfl|exact wk_ptr rfl (by first|decide|simp|omega)|exact wk_map rfl (by first|decide|simp|omega)|exact wk_sl rfl (by first|decide|simp|omega) (by first|rfl|omega|simp) (by first|omega|simp) (by first|omega|simp)|exact wk_own rfl (by first|decide|simp|omega)|exact wk_nil0 (by first|rfl|simp)|exact wk_slown rfl (by first|decide|omega|(simp;done)) (by first|omega|(simp;done)) (by first|rfl|omega|(simp;done)|(simp;omega))|exact wk_plain hs plx_Kd|(with_reducible refine wk_fn ?_ ?_<;>repeat' (first|with_reducible exact wkl_nil|with_reducible refine wkl_cons ?_ ?_|exact wk_ptr rfl (by first|decide|simp|omega)))|(with_reducible refine wk_agg ?_;repeat' (first|with_reducible exact wkl_nil|with_reducible refine wkl_cons ?_ ?_|exact wk_int (by first|rfl|omega|(dsimp only;omega))|exact wk_bool rfl))|exact wk_yld rfl (by first|decide|simp|omega)|(with_reducible refine wk_tup ?_;repeat' (first|with_reducible exact wkl_nil|with_reducible refine wkl_cons ?_ ?_|exact wk_int (by first|rfl|omega|(dsimp only;omega))|exact wk_bool rfl|exact wk_ptr rfl (by first|decide|simp|omega)))|fail);first|done|fail)):p:=h
theorem wkx_Kd {p:Prop} (h:p:=by (refine weak_s (by exact oneOf_of rfl) (by exact subH_of rfl) (by intro hs;(repeat' ((try (conv=>whnf));first|with_reducible exact True.intro|with_reducible refine And.intro ?_ ?_|(with_reducible refine WkX.mk ?_;first|exact wvx_Kd|fail)))) (by intro hs;(try dsimp only);(repeat' (first|with_reducible exact wko_nil|refine wko_tab hs (by first|decide|omega|simp) rfl rfl (by first|decide|omega|simp) rfl (by first|decide|omega|simp) ?_|refine wko_maps hs (by first|decide|omega|simp) rfl rfl key_plain ?_|refine wko_plain hs (by first|decide|omega|simp) rfl (by first|rfl) (by (first|exact ppx_Kd|fail|((refine plain_app ?_ ?_)<;>(first|exact ppx_Kd|fail)))) ?_|refine wko_cells (by first|decide|omega|simp) rfl (by repeat' (first|with_reducible exact wkl_nil|with_reducible refine wkl_cons ?_ ?_|(first|exact wvx_Kd|fail))) ?_|refine wko_loop (by first|decide|omega|simp) rfl (by ((try subst hF);(try subst hF2);exact wkl_sd (wkf_sget (by (repeat' ((try (conv=>whnf));first|with_reducible exact True.intro|with_reducible refine And.intro ?_ ?_|(with_reducible refine WkX.mk ?_;first|exact wvx_Kd|fail))))))) ?_|exact wko_nil))))):p:=h
theorem wx_Kd {p q:Prop} (hq:q) (h:HidP q→p:=by (intro hQz;((repeat' ((try (conv=>whnf));first|(with_reducible first|refine run_cons ?_|refine runq_cons ?_|refine code_seq ?_|refine code_reg ?_|refine code_cond ?_|refine run_nil ?_|refine runq_nil ?_|refine rund_op rfl ?_|refine rund_nil ?_|refine code_block ?_|refine code_skip ?_|refine code_exit ?_|refine code_ret ?_|refine code_range ?_|refine rund_fast (by decide +kernel) ?_|refine rund_slow (by decide +kernel) ?_|refine br_tt ?_|refine br_ff ?_|refine br_n ?_|refine br_and ?_|refine br_or ?_|refine br_t (by assumption) ?_|refine br_f (by assumption) ?_|refine eq_i64 (by omega) ?_|refine el_tn ?_)|((with_reducible refine br_dt ?_ ?_);focus omega)|((with_reducible refine br_df ?_ ?_);focus omega)|((with_reducible apply br_dq hQz)<;>(try intro hsp hQz))|((with_reducible refine ck_x ?_ ?_);focus (first|omega|rfl|assumption|decide|(simp only [List.length_map,List.length_cons,List.length_nil];omega)))|(with_reducible first|refine eq_tn ?_|refine eq_tn1 ?_|refine eq_tn2 ?_|refine eq_m1 ?_|refine eq_m2 ?_|refine eq_zm ?_|refine eq_z ?_|refine len_map ?_|refine len_sl ?_|refine len_nils ?_|refine len_own' ?_|refine len_isl ?_|refine eq_u8 (by omega) ?_|refine eq_u16 (by omega) ?_)|refine dropK_of (Nat.zero_le _) hd1 (takeK_of (by rw [bc_len];omega) bc_take ?_)|refine dropK_of (by rw [bc_len];omega) List.drop_zero (takeK_of (by rw [bc_len];omega) bc_take ?_)|refine ⟨bc_len,?_⟩|refine overK_of (by simp only [bc_len,List.length_replicate];omega) (over_rep bc_len) ?_|(with_reducible first|refine eq_rfl ?_|refine ChkX.mk (by kernel_rfl) ?_|refine code_q rfl ?_|refine code_d (by decide +kernel) ?_|refine end_go rfl ?_)|refine el_mapE (d:=dD) dt_len (by first|assumption|omega) (by with_reducible assumption) ?_|refine len_map ?_|refine len_isl ?_|refine el_of rfl rfl ?_|refine del_own ?_|refine del_own' rfl ?_|refine as_go rfl ?_|refine rd_go rfl ?_|refine rg_end rfl ?_|refine flat_ownX ?_|refine EqLX.mk ?_|((with_reducible apply br_bq hQz)<;>(try intro hsp hQz))|exact hQz.out))<;>(try (conv=>whnf))))):p:=h ⟨hq⟩
section
variable {s:Sy}
set_option maxRecDepth 20000 in
theorem k_data (f:Nat) (hf:f < 1024) (hp:∀ x ∈ vsA s.save,Plain x):PureS 29 [.agg (vsA s.save),.int .i64 (f:Nat)] (.agg (bcA (s.B f))):=by
 refine PureS.mk (pure_x hmix b29 plainG ⟨plain_agg hp,plain_int,trivial⟩ plain_bc rfl ?_)
 unfold c29
 have hlen:=data_len (B:=s.B) (n:=1024)
 have hmem:=fun x=>data_mem (B:=s.B) (n:=1024) (x:=x)
 unfold vsA Sy.save stA at hp ⊢
 dsimp only at hp ⊢
 generalize dataTo s.B 1024=D at *
 generalize (AV.isl ((runsTo s.K 1024).map rnA))=c1 at *
 generalize (AV.isl ((hugeTo s.G 1024).map inA))=c2 at *
 generalize (AV.isl (s.l.map rlA))=c3 at *
 (refine wx_Kd ?_;repeat' (first|with_reducible refine And.intro ?_ ?_|intro hsp))
 (refine loop_x [1,2,4] (fun (i:Nat)=>[(5,.int .i64 (i:Nat))]) (fun (i:Nat)=>⟨[(0,.cells [c1,c2,.isl (D.map dtA),c3,.int .i64 (s.C 0),.int .i64 (s.C 1),.int .i64 (s.C 2),.int .i64 (s.C 3),.int .i64 (s.C 4),.int .i64 (s.C 5),.int .i64 (s.C 6),.int .i64 (s.H 0),.int .i64 (s.H 1),.int .i64 (s.H 2),.int .i64 (s.H 3),.int .i64 (s.H 4),.int .i64 (s.H 5),.int .i64 (s.H 6)]),(1,.cells (List.replicate 64 (.int .u8 0)))],2⟩) (fun (i:Nat)=>i≤D.length∧∀ j,j < i→(nth dD D j).p ≠ f) (fun (i:Nat)=>D.length - i) (0) [] rfl (fun _=>by first|exact Nat.zero_le _|(dsimp only;omega)) ?_ (by ((try (conv=>whnf));exact wkx_Kd)) ?_)
 ·exact ⟨Nat.zero_le _,fun j hj=>absurd hj (Nat.not_lt_zero _)⟩
 intro i hi
 obtain ⟨hi,hall⟩:=hi
 by_cases hil:i < D.length
 ·by_cases he:(nth dD D i).p=f
  ·obtain ⟨p,h1,h2,h3⟩:=(hmem _).1 (nth_mem (d:=dD) hil)
   have hB:byA (nth dD D i).b=bcA (s.B f):=by
    rw [h3] at he ⊢
    have he:((p:Nat):Int)=(f:Nat):=he
    obtain rfl:p=f:=by omega
    exact bc_by.symm
   clear hmem hall h1 h2 h3
   generalize hx:nth dD D i=x at *
   have hl:(bcA (s.B f)).length=64:=bc_len
   have hd:dtA x = .int .i64 x.p::bcA (s.B f):=by unfold dtA;rw [hB]
   have hd1:(List.drop 1 (dtA x)).drop 0=bcA (s.B f):=by rw [hd];rfl
   (refine wx_Kd ?_;repeat' (first|with_reducible refine And.intro ?_ ?_|intro hsp))
   all_goals first|exact end_plain rfl plain_bc|(exfalso;omega)
  ·have hnext:i+1≤D.length∧∀ j,j < i+1→(nth dD D j).p ≠ f:=⟨hil,fun j hj=>by
    by_cases e:j=i
    ·rw [e];exact he
    ·exact hall j (by omega)⟩
   clear hmem hall
   generalize hx:nth dD D i=x at *
   (refine wx_Kd ?_;repeat' (first|with_reducible refine And.intro ?_ ?_|intro hsp))
   all_goals first|(exfalso;omega)|exact next_x (i+1) [] hnext (by first|omega|(dsimp only;omega)) rfl (by exact wkx_Kd)
 ·have hz:zeroB (s.B f):=Classical.byContradiction fun hn=>by
   obtain ⟨i,hi2,he⟩:=List.getElem_of_mem ((hmem ⟨(f:Nat),s.B f⟩).2 ⟨f,hf,hn,rfl⟩)
   exact hall i (by omega) (by rw [nth_get hi2,he])
  have hb:bcA (s.B f)=List.replicate 64 (.int .u8 0):=by
   rw [← bc_zero]
   exact memA_congr fun j hj=>by rw [hz j hj]
  clear hmem hall
  rw [hb]
  (refine wx_Kd ?_;repeat' (first|with_reducible refine And.intro ?_ ?_|intro hsp))
  all_goals exact end_plain rfl (hb▸plain_bc)
end
end Go.Proofs.YtphggldkligldaaGreat.Sh
