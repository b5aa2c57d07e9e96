/-
 Zero,of the program and of the document.
-/
import Derived.Test.YtkahmhmkhfllpaaDoorXb
set_option linter.unusedSimpArgs false
set_option linter.unusedVariables false
namespace Go.Pol
open Go.Am
theorem adrs_len {L:List II} (hL:∀ z ∈ L,0≤z.1∧0≤z.2∧z.1+z.2≤65536):∀ j,j≤L.length→(adrs (L.take j)).length≤65536 * j
 | 0,_=>by simp [adrs]
 | j+1,h=>by
  have:=adrs_len hL j (by omega)
  have hz:=hL _ (nth_mem (d:=(0,0)) (show j < L.length by omega))
  rw [adrs_take (by omega),List.length_append,adr_len];omega
end Go.Pol
namespace Go.Proofs.YtkahmhmkhfllpaaDoor
open Go Go.Am Go.Pol
theorem plx_Xc {p:Prop} (h:p:=by ((first|assumption|exact plain_int|exact plain_bool|exact plain_undef|exact plain_nils|exact plain_nilp|exact plain_nilf|exact plain_str|with_reducible apply plain_rl|with_reducible apply plain_rls|with_reducible apply plain_pl|with_reducible apply plain_ii|with_reducible apply plain_st|with_reducible apply plain_stE|with_reducible apply plain_pus|with_reducible apply plain_cus|with_reducible apply plain_made|with_reducible apply hzd|fail);first|done|fail)):p:=h
theorem prx_Xc {p:Prop} (h:p:=by (((repeat' (first|exact plain_all0|refine plain_all2 ?_ ?_|exact plain_int|first|assumption|exact plain_int|exact plain_bool|exact plain_undef|exact plain_nils|exact plain_nilp|exact plain_nilf|exact plain_str|with_reducible apply plain_rl|with_reducible apply plain_rls|with_reducible apply plain_pl|with_reducible apply plain_ii|with_reducible apply plain_st|with_reducible apply plain_stE|with_reducible apply plain_pus|with_reducible apply plain_cus|with_reducible apply plain_made|with_reducible apply hzd)));first|done|fail)):p:=h
theorem ppx_Xc {p:Prop} (h:p:=by ((first|with_reducible assumption|with_reducible apply rlA_plain _|with_reducible apply plain_flat rlA_plain|with_reducible apply stA_plain|with_reducible apply memT_plain|with_reducible apply b_plain|with_reducible apply a_plain|with_reducible apply plain_puA _|with_reducible apply plain_cutAl _|with_reducible apply plain_map (fun _=>plain_int)|with_reducible apply plain_map (fun _=>plain_bool)|exact prx_Xc|fail);first|done|fail)):p:=h
theorem wvx_Xc {p:Prop} (h:p:=by ((first|exact wk_undef|exact wk_int (by first|rfl|omega|(dsimp only;omega))|exact wk_bool rfl|exact wk_ptr rfl (by first|decide|simp|omega)|exact wk_sl rfl (by first|decide|simp|omega) (by first|rfl|omega|simp) (by first|omega|simp) (by first|omega|simp)|exact wk_own rfl (by first|decide|simp|omega)|exact wk_nil0 (by first|rfl|simp)|exact wk_slown rfl (by first|decide|omega|(simp;done)) (by first|omega|(simp;done)) (by first|rfl|omega|(simp;done)|(simp;omega))|exact wk_plain hs plx_Xc|(with_reducible refine wk_fn ?_ ?_<;>repeat' (first|with_reducible exact wkl_nil|with_reducible refine wkl_cons ?_ ?_|exact wk_ptr rfl (by first|decide|simp|omega)))|(with_reducible refine wk_agg ?_;repeat' (first|with_reducible exact wkl_nil|with_reducible refine wkl_cons ?_ ?_|exact wk_int (by first|rfl|omega|(dsimp only;omega))|exact wk_bool rfl))|exact wk_yld rfl (by first|decide|simp|omega)|fail);first|done|fail)):p:=h
theorem wkx_Xc {p:Prop} (h:p:=by (refine weak_s (by exact oneOf_of rfl) (by exact subH_of rfl) (by intro hs;(repeat' ((try (conv=>whnf));first|with_reducible exact True.intro|with_reducible refine And.intro ?_ ?_|(with_reducible refine WkX.mk ?_;first|exact wvx_Xc|fail)))) (by intro hs;(try dsimp only);(repeat' (first|with_reducible exact wko_nil|refine wko_plain hs (by first|decide|omega|simp) rfl (by first|rfl) (by (first|exact ppx_Xc|fail|((refine plain_app ?_ ?_)<;>(first|exact ppx_Xc|fail)))) ?_|refine wko_cells (by first|decide|omega|simp) rfl (by repeat' (first|with_reducible exact wkl_nil|with_reducible refine wkl_cons ?_ ?_|(first|exact wvx_Xc|fail))) ?_|refine wko_loop (by first|decide|omega|simp) rfl (by ((try subst hF);(try subst hF2);exact wkl_sd (wkf_sget (by (repeat' ((try (conv=>whnf));first|with_reducible exact True.intro|with_reducible refine And.intro ?_ ?_|(with_reducible refine WkX.mk ?_;first|exact wvx_Xc|fail))))))) ?_|exact wko_nil))))):p:=h
theorem wxc {p q:Prop} (hq:q) (h:HidP q→p:=by (intro hQz;((repeat' ((try (conv=>whnf));first|(with_reducible first|refine run_cons ?_|refine runq_cons ?_|refine code_seq ?_|refine code_reg ?_|refine code_cond ?_|refine run_nil ?_|refine runq_nil ?_|refine rund_op rfl ?_|refine rund_nil ?_|refine code_block ?_|refine code_skip ?_|refine code_exit ?_|refine code_ret ?_|refine code_range ?_|refine rund_fast (by decide +kernel) ?_|refine rund_slow (by decide +kernel) ?_|refine br_tt ?_|refine br_ff ?_|refine br_n ?_|refine br_and ?_|refine br_or ?_|refine br_t (by assumption) ?_|refine br_f (by assumption) ?_|refine eq_i64 (by omega) ?_|refine el_tn ?_)|((with_reducible refine br_dt ?_ ?_);focus omega)|((with_reducible refine br_df ?_ ?_);focus omega)|((with_reducible apply br_dq hQz)<;>(try intro hsp hQz))|((with_reducible refine ck_x ?_ ?_);focus (first|omega|rfl|assumption|decide|(simp only [List.length_map,List.length_cons,List.length_nil];omega)))|(with_reducible first|refine eq_tn ?_|refine eq_tn1 ?_|refine eq_tn2 ?_|refine eq_m1 ?_|refine eq_m2 ?_|refine eq_zm ?_|refine eq_z ?_|refine len_map ?_|refine len_sl ?_|refine len_nils ?_|refine len_own' ?_|refine len_isl ?_|refine eq_u8 (by omega) ?_|refine eq_u16 (by omega) ?_)|refine el_row cutA_len (by first|assumption|omega) (by with_reducible assumption) ?_|refine eq_of (by with_reducible assumption) ?_|(with_reducible first|refine eq_rfl ?_|refine ChkX.mk (by kernel_rfl) ?_|refine code_d (by decide +kernel) ?_|refine end_go rfl ?_)|refine cx_locS (by assumption) rfl (by omega) ?_|refine dcx_locS (by assumption) rfl rfl ?_|refine cx_pureS (by assumption) ?_|refine dcx_pureS (by assumption) ?_|refine len_map ?_|refine len_isl ?_|refine el_of rfl rfl ?_|refine del_own ?_|refine del_own' rfl ?_|refine as_go rfl ?_|refine rd_go rfl ?_|refine rg_end rfl ?_|refine flat_ownX ?_|refine EqLX.mk ?_|((with_reducible apply br_bq hQz)<;>(try intro hsp hQz))|exact hQz.out))<;>(try (conv=>whnf))))):p:=h ⟨hq⟩
section
variable {s:Sy} {L:List II} {T:List (List AV)} {zd:Int→List (List AV)} {at_ n:Int}
set_option maxHeartbeats 3200000 in
set_option maxRecDepth 20000 in
theorem p_zero (hg:GoodS s) (hL:∀ z ∈ L,0≤z.1∧0≤z.2∧z.1+z.2≤65536) (hl:L.length≤100000) (hat:0≤at_∧at_≤65536) (hT:Plain (.isl T)) (hzd:∀ m,Plain (.isl (zd m)))
  (zg:PureS 19 [.agg [.isl T],.int .i64 at_,.int .i64 n] (.tup [.isl (L.map cutA),.int .i64 0]))
  (zz:∀ m,(m=n∨m+at_ ∈ adrs L)→PureS 20 [.agg [.isl T],.int .i64 at_,.int .i64 m] (.tup [.agg [.isl (zd m)],.int .i64 0])) :
  LocS 10 [.agg [.isl T],.int .i64 at_,.int .i64 n] s.a (.tup [.agg [.isl (zd (zRes s (adrs L) at_ n).1)],.int .i64 ((zRes s (adrs L) at_ n).2.1:Nat),.int .i64 (zRes s (adrs L) at_ n).2.2]) (wz s (preA s (adrs L))).a:=by
 have hr3:∀ (m:Int) (u v:Int),Plain (.tup [.agg [.isl (zd m)],.int .i64 u,.int .i64 v]):=fun m u v=>plain_tup (plain_3 (plain_agg (plain_1 (hzd m))) plain_int plain_int)
 have hlen:∀ j,j≤L.length→(adrs (L.take j)).length≤65536 * j:=fun j hj=>adrs_len hL j hj
 refine LocS.mk (loc_x hmix b10 rfl ?_) a_plain a_plain (plain_3 (plain_agg (plain_1 hT)) plain_int plain_int) (hr3 _ _ _)
 unfold c10
 have zc:=p_counts hg
 unfold Sy.counts at zc
 (refine wxc ?_;repeat' (first|with_reducible refine And.intro ?_ ?_|intro hsp))
 all_goals first|(exfalso;omega)|skip
 (refine loop_x [0,2,3,5,8,44,45] (fun (i:Nat)=>[(46,.int .i64 (i:Nat)),(15,.int .i64 ((adrs (L.take i)).length:Nat))]) (fun (i:Nat)=>⟨[(0,.cells (wz s (adrs (L.take i))).a),(1,.cells [.isl T]),(2,.cells [.nils])],3⟩) (fun (i:Nat)=>i≤L.length∧∀ x ∈ adrs (L.take i),okW s x=true) (fun (i:Nat)=>L.length - i) (0) [] rfl (fun _=>by first|exact Nat.zero_le _|(dsimp only;omega)) ?_ (by ((try (conv=>whnf));(rw [show adrs (L.take 0)=([]:List Int) from rfl,List.length_nil,show wz s []=s from rfl]);exact wkx_Xc)) ?_)
 ·exact ⟨Nat.zero_le _,fun x hx=>by simp [adrs] at hx⟩
 rintro i ⟨hi,hok⟩
 have hli:=hlen i hi
 by_cases hil:i < L.length
 ·obtain ⟨za,zn,he⟩:∃ za zn,nth (0,0) L i=(za,zn):=⟨_,_,rfl⟩
  have hz:=hL _ (nth_mem (d:=(0,0)) hil)
  rw [he] at hz
  dsimp only at hz
  obtain ⟨m,rfl⟩:∃ m:Nat,zn=(m:Nat):=⟨zn.toNat,by omega⟩
  have hx:cutA (nth (0,0) L i)=[.int .i64 za,.int .i64 (m:Nat)]:=by rw [he];rfl
  have hnx:adrs (L.take (i+1))=adrs (L.take i)++adr (za,(m:Nat)) m:=by rw [adrs_take hil,he];rfl
  have hm:m≤65536:=by omega
  (refine wxc ?_;repeat' (first|with_reducible refine And.intro ?_ ?_|intro hsp))
  all_goals first|(exfalso;omega)|skip
  (refine loop_x [0,2,3,5,8,17,44,45,46] (fun (k:Nat)=>[(18,.int .i64 (za+(k:Nat))),(15,.int .i64 (((adrs (L.take i)).length+k:Nat)))]) (fun (k:Nat)=>⟨[(0,.cells (wz s (adrs (L.take i)++adr (za,(m:Nat)) k)).a),(1,.cells [.isl T]),(2,.cells [.nils]),(3,.cells [.int .i64 za,.int .i64 (m:Nat)])],4⟩) (fun (k:Nat)=>k≤m∧∀ x ∈ adrs (L.take i)++adr (za,(m:Nat)) k,okW s x=true) (fun (k:Nat)=>m - k) (0) [] rfl (fun _=>by first|exact Nat.zero_le _|(dsimp only;omega)) ?_ (by ((try (conv=>whnf));(rw [show adr (za,(m:Nat)) 0=[] from rfl,List.append_nil]);exact wkx_Xc)) ?_)
  ·exact ⟨Nat.zero_le _,fun x hx=>hok x (by simpa [adr] using hx)⟩
  rintro k ⟨hk,hok2⟩
  have hal:(adrs (L.take i)++adr (za,(m:Nat)) k).length=(adrs (L.take i)).length+k:=by rw [List.length_append,adr_len]
  have zw:=p_write (s:=wz s (adrs (L.take i)++adr (za,(m:Nat)) k)) (a:=za+(k:Nat)) (b:=0)
  by_cases hkm:k < m
  ·by_cases ho:okW s (za+(k:Nat))=true
   ·have h1:=write_ok (b:=0) ((okW_K (wz_K (s:=s) (A:=adrs (L.take i)++adr (za,(m:Nat)) k)) _).trans ho)
    have h2:((wz s (adrs (L.take i)++adr (za,(m:Nat)) k)).write (za+(k:Nat)) 0).2=wz s (adrs (L.take i)++adr (za,(m:Nat)) (k+1)):=by
     rw [adr_succ,← List.append_assoc,wz_snoc]
    have h3:∀ x ∈ adrs (L.take i)++adr (za,(m:Nat)) (k+1),okW s x=true:=fun x hx=>by
     rw [adr_succ,← List.append_assoc] at hx
     rcases List.mem_append.1 hx with hx|hx
     ·exact hok2 x hx
     ·rw [List.mem_singleton.1 hx];exact ho
    rw [h1,h2] at zw
    (refine wxc ?_;repeat' (first|with_reducible refine And.intro ?_ ?_|intro hsp))
    all_goals first|(exfalso;omega)|skip
    all_goals exact next_x (k+1) [] ⟨by omega,h3⟩ (by first|omega|(dsimp only;omega)) rfl (by exact wkx_Xc)
   ·have ho':okW s (za+(k:Nat))=false:=by simpa using ho
    obtain ⟨r,hr⟩:=adrs_cut (L:=L) hil (k:=k) (by rw [he];exact hkm)
    rw [he] at hr
    have hnok:=write_no (b:=0) ((okW_K (wz_K (s:=s) (A:=adrs (L.take i)++adr (za,(m:Nat)) k)) _).trans ho')
    have hwe:=write_eq (wz_K (s:=s) (A:=adrs (L.take i)++adr (za,(m:Nat)) k)) (za+(k:Nat)) 0
    obtain ⟨p1,p2⟩:=pre_stop (s:=s) (r:=r) ho' hok2
    rw [← hr] at p1 p2
    have hzr:zRes s (adrs L) at_ n=(za+(k:Nat) - at_,(adrs (L.take i)).length+k,(s.write (za+(k:Nat)) 0).1):=by
     unfold zRes;rw [p2];show (_,(preA s (adrs L)).length,_)=_;rw [p1,hal]
    have z3:=zz (za+(k:Nat) - at_) (.inr (by rw [hr];simp))
    rw [hzr,p1]
    rw [hnok.2] at zw
    rw [hwe] at zw hnok
    have hne:=hnok.1
    dsimp only
    generalize (s.write (za+(k:Nat)) 0).1=e at *
    (refine wxc ?_;repeat' (first|with_reducible refine And.intro ?_ ?_|intro hsp))
    all_goals first|(exfalso;omega)|skip
    all_goals exact end_s rfl (hr3 _ _ _) rfl a_plain
  ·obtain rfl:k=m:=by omega
   rw [← hnx] at hok2
   (refine wxc ?_;repeat' (first|with_reducible refine And.intro ?_ ?_|intro hsp))
   all_goals first|(exfalso;omega)|skip
   all_goals exact next_x (i+1) [] ⟨by omega,hok2⟩ (by first|omega|(dsimp only;omega)) rfl (by ((try dsimp only);rw [hnx,List.length_append,adr_len]);exact wkx_Xc)
 ·rw [List.take_of_length_le (by omega)] at hok
  obtain ⟨p1,p2⟩:=pre_all (s:=s) hok
  have hzr:zRes s (adrs L) at_ n=(n,(adrs L).length,0):=by unfold zRes;rw [p2]
  have z3:=zz n (.inl rfl)
  rw [hzr,p1]
  dsimp only
  rw [List.take_of_length_le (show L.length≤i by omega)]
  (refine wxc ?_;repeat' (first|with_reducible refine And.intro ?_ ?_|intro hsp))
  all_goals first|(exfalso;omega)|skip
  all_goals exact end_s rfl (hr3 _ _ _) rfl a_plain
end
end Go.Proofs.YtkahmhmkhfllpaaDoor
