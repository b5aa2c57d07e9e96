/-
 The law's far,polderref15.Same.
 zeroing.Wrote and zeroing.Zeroed turn the bytes of a zone.
 Layer 15's plain law: what the program makes of a state and what the reference makes of it are one. No program in sight.
-/
import Derived.Test.YtkahmhmkhfllpaaDoorAmWt
import Derived.Test.YtkahmhmkhfllpaaDoorZrE
import Derived.Laws.BitsAllLaws
set_option linter.unusedSimpArgs false
set_option linter.unusedVariables false
namespace Go.Pol
def sameP (a b:List Page):Bool:=decide (a=b)
def farM (s:List Page):Bool:=decide (60 < s.length∧s.length≤1024∨1100 < s.length) || s.any fun p=>decide (8 < p.2.length)
end Go.Pol
namespace Go.Proofs.YtkahmhmkhfllpaaDoor
open Go Go.Am Go.Pol
theorem plain_pagesI {s:List Page}:Plain (.isl (s.map pageA)):=plain_pages
theorem plain_st {s:List Page}:Plain (.agg [.isl (s.map pageA)]):=plain_state
end Go.Proofs.YtkahmhmkhfllpaaDoor
namespace Go.Pol
def turnF (op:Nat→Nat→Nat):Nat→(Nat→Nat)→Nat→Nat→Nat→Nat
 | 0,M,_,_=>M
 | f+1,M,a,n=>if n=0 then M else turnF op f (updM M (a / 64) (op (M (a / 64)) (runM ((a % 64:Nat),(min n (64 - a % 64):Nat))))) (a+min n (64 - a % 64)) (n - min n (64 - a % 64))
theorem turnF_fuel (op:Nat→Nat→Nat):∀ (f g:Nat) (M:Nat→Nat) (a n:Nat),n≤f→n≤g→turnF op f M a n=turnF op g M a n
 | 0,0,_,_,_,_,_=>rfl
 | 0,g+1,M,a,n,h,_=>by
  have : n=0:=by omega
  subst this;simp [turnF]
 | f+1,0,M,a,n,_,h=>by
  have : n=0:=by omega
  subst this;simp [turnF]
 | f+1,g+1,M,a,n,h1,h2=>by
  unfold turnF
  split
  ·rfl
  ·exact turnF_fuel op f g _ _ _ (by omega) (by omega)
def turnM (op:Nat→Nat→Nat) (M:Nat→Nat) (a n:Nat):Nat→Nat:=turnF op n M a n
theorem turnM_step {op:Nat→Nat→Nat} {M:Nat→Nat} {a n:Nat} (h:n ≠ 0):turnM op M a n=turnM op (updM M (a / 64) (op (M (a / 64)) (runM ((a % 64:Nat),(min n (64 - a % 64):Nat))))) (a+min n (64 - a % 64)) (n - min n (64 - a % 64)):=by
 unfold turnM
 obtain ⟨f,rfl⟩:=Nat.exists_eq_succ_of_ne_zero h
 rw [turnF,if_neg h]
 exact turnF_fuel op _ _ _ _ _ (by omega) (Nat.le_refl _)
theorem turnM_zero {op:Nat→Nat→Nat} {M:Nat→Nat} {a:Nat}:turnM op M a 0=M:=rfl
theorem updM_u64 {M:Nat→Nat} (hM:∀ i,U64 (M i)) {x:Nat} (hx:U64 x) (i:Nat):∀ j,U64 (updM M i x j):=fun j=>by
 unfold updM;split
 ·exact hx
 ·exact hM j
def opOr (x y:Nat):Nat:=x ||| y
def opOff (x y:Nat):Nat:=x &&& (18446744073709551615 - y)
theorem opOff_u64 {x y:Nat} (hx:U64 x):U64 (opOff x y):=Nat.lt_of_le_of_lt Nat.and_le_left hx
theorem bits_or {a b:Nat} (ha:a < 18446744073709551616) (hb:b < 18446744073709551616):bits .or .u64 (a:Int) (b:Int)=((opOr a b:Nat):Int):=bits_or_u64_nat a b ha hb
theorem bits_off {a b:Nat} (ha:a < 18446744073709551616) (hb:b < 18446744073709551616):bits .andNot .u64 (a:Int) (b:Int)=((opOff a b:Nat):Int):=u64_andNot_nat a b ha hb
end Go.Pol
namespace Go.Proofs.YtkahmhmkhfllpaaDoor
open Go Go.Am Go.Pol
theorem plx_Yn {p:Prop} (h:p:=by ((first|assumption|exact plain_int|exact plain_bool|exact plain_undef|exact plain_nils|exact plain_nilp|exact plain_nilf|exact plain_str|with_reducible apply plain_st|with_reducible apply plain_cuts|with_reducible apply plain_cutsI|with_reducible apply plain_pages|with_reducible apply plain_state|with_reducible apply plain_pagesI|fail);first|done|fail)):p:=h
theorem prx_Yn {p:Prop} (h:p:=by (((repeat' (first|exact plain_all0|refine plain_all2 ?_ ?_|exact plain_int|first|assumption|exact plain_int|exact plain_bool|exact plain_undef|exact plain_nils|exact plain_nilp|exact plain_nilf|exact plain_str|with_reducible apply plain_st|with_reducible apply plain_cuts|with_reducible apply plain_cutsI|with_reducible apply plain_pages|with_reducible apply plain_state|with_reducible apply plain_pagesI)));first|done|fail)):p:=h
theorem ppx_Yn {p:Prop} (h:p:=by ((first|with_reducible assumption|with_reducible apply arr_plain _|with_reducible apply plain_flat cell_plain|with_reducible apply plain_flat plain_pagecells|with_reducible apply plain_map (fun _=>plain_int)|with_reducible apply plain_map (fun _=>plain_bool)|exact prx_Yn|fail);first|done|fail)):p:=h
theorem wvx_Yn {p:Prop} (h:p:=by ((first|exact wk_undef|exact wk_int (by first|rfl|omega|(dsimp only;omega))|exact wk_bool rfl|exact wk_ptr rfl (by first|decide|simp|omega)|exact wk_sl rfl (by first|decide|simp|omega) (by first|rfl|omega|simp) (by first|omega|simp) (by first|omega|simp)|exact wk_own rfl (by first|decide|simp|omega)|exact wk_nil0 (by first|rfl|simp)|exact wk_slown rfl (by first|decide|omega|(simp;done)) (by first|omega|(simp;done)) (by first|rfl|omega|(simp;done)|(simp;omega))|exact wk_plain hs plx_Yn|(with_reducible refine wk_fn ?_ ?_<;>repeat' (first|with_reducible exact wkl_nil|with_reducible refine wkl_cons ?_ ?_|exact wk_ptr rfl (by first|decide|simp|omega)))|(with_reducible refine wk_agg ?_;repeat' (first|with_reducible exact wkl_nil|with_reducible refine wkl_cons ?_ ?_|exact wk_int (by first|rfl|omega|(dsimp only;omega))|exact wk_bool rfl))|exact wk_yld rfl (by first|decide|simp|omega)|fail);first|done|fail)):p:=h
theorem wkx_Yn {p:Prop} (h:p:=by (refine weak_s (by exact oneOf_of rfl) (by exact subH_of rfl) (by intro hs;(repeat' ((try (conv=>whnf));first|with_reducible exact True.intro|with_reducible refine And.intro ?_ ?_|(with_reducible refine WkX.mk ?_;first|exact wvx_Yn|fail)))) (by intro hs;(try dsimp only);(repeat' (first|with_reducible exact wko_nil|refine wko_plain hs (by first|decide|omega|simp) rfl (by first|rfl) (by (first|exact ppx_Yn|fail|((refine plain_app ?_ ?_)<;>(first|exact ppx_Yn|fail)))) ?_|refine wko_cells (by first|decide|omega|simp) rfl (by repeat' (first|with_reducible exact wkl_nil|with_reducible refine wkl_cons ?_ ?_|(first|exact wvx_Yn|fail))) ?_|refine wko_loop (by first|decide|omega|simp) rfl (by ((try subst hF);(try subst hF2);exact wkl_sd (wkf_sget (by (repeat' ((try (conv=>whnf));first|with_reducible exact True.intro|with_reducible refine And.intro ?_ ?_|(with_reducible refine WkX.mk ?_;first|exact wvx_Yn|fail))))))) ?_|exact wko_nil))))):p:=h
theorem wx_Yn {p q:Prop} (hq:q) (h:HidP q→p:=by (intro hQz;((repeat' ((try (conv=>whnf));first|(with_reducible first|refine run_cons ?_|refine runq_cons ?_|refine code_seq ?_|refine code_reg ?_|refine code_cond ?_|refine run_nil ?_|refine runq_nil ?_|refine rund_op rfl ?_|refine rund_nil ?_|refine code_block ?_|refine code_skip ?_|refine code_exit ?_|refine code_ret ?_|refine code_range ?_|refine rund_fast (by decide +kernel) ?_|refine rund_slow (by decide +kernel) ?_|refine br_tt ?_|refine br_ff ?_|refine br_n ?_|refine br_and ?_|refine br_or ?_|refine br_t (by assumption) ?_|refine br_f (by assumption) ?_|refine eq_i64 (by omega) ?_|refine el_tn ?_)|((with_reducible refine br_dt ?_ ?_);focus omega)|((with_reducible refine br_df ?_ ?_);focus omega)|((with_reducible apply br_dq hQz)<;>(try intro hsp hQz))|((with_reducible refine ck_x ?_ ?_);focus (first|omega|rfl|assumption|decide|(simp only [List.length_map,List.length_cons,List.length_nil];omega)))|(with_reducible first|refine eq_tn ?_|refine eq_tn1 ?_|refine eq_tn2 ?_|refine eq_m1 ?_|refine eq_m2 ?_|refine eq_zm ?_|refine eq_z ?_|refine len_map ?_|refine len_sl ?_|refine len_nils ?_|refine len_own' ?_|refine len_isl ?_|refine eq_u8 (by omega) ?_|refine eq_u16 (by omega) ?_)|(with_reducible first|refine eq_rfl ?_|refine ChkX.mk (by kernel_rfl) ?_|refine code_q rfl ?_|refine code_d (by decide +kernel) ?_|refine end_go rfl ?_)|refine cx_loc (l1:=[(2,.cells (arr W2))]) [2] hls plainG rfl (.cons (show enter [2] 2 0 from rfl) rfl (rnl_plain (arr_plain _)) .nil) ⟨rn_ptr (show enter [2] 2 0 from rfl),trivial⟩ (by first|(simp;done)|fail) (rn_plain plain_state) (.cons (j:=2) (by first|(simp [back];done)|fail) (rnl_plain (arr_plain _)) .nil) ?_|refine cx_pure (hka) ?_|refine qcx (hka) ?_|refine dcx_pure (hka) ?_|(refine cx_in hmix b44 rfl ?_;unfold c44)|refine cx_loc (l1:=[(2,.cells (arr (openM s)))]) [] hlo plainG rfl .nil (rnl_plain (PlainL.all ⟨plain_st,trivial⟩)) (by first|(simp;done)|fail) (rn_ptr (j:=2) rfl) (.cons rfl (rnl_plain (arr_plain _)) .nil) ?_|refine len_map ?_|refine len_isl ?_|refine el_of rfl rfl ?_|refine del_own ?_|refine del_own' rfl ?_|refine as_go rfl ?_|refine rd_go rfl ?_|refine rg_end rfl ?_|refine flat_ownX ?_|refine EqLX.mk ?_|((with_reducible apply br_bq hQz)<;>(try intro hsp hQz))|exact hQz.out))<;>(try (conv=>whnf))))):p:=h ⟨hq⟩
theorem wx_Ynn {p q:Prop} (hq:q) (h:HidP q→p:=by (intro hQz;((repeat' ((try (conv=>whnf));first|(with_reducible first|refine run_cons ?_|refine runq_cons ?_|refine code_seq ?_|refine code_reg ?_|refine code_cond ?_|refine run_nil ?_|refine runq_nil ?_|refine rund_op rfl ?_|refine rund_nil ?_|refine code_block ?_|refine code_skip ?_|refine code_exit ?_|refine code_ret ?_|refine code_range ?_|refine rund_fast (by decide +kernel) ?_|refine rund_slow (by decide +kernel) ?_|refine br_tt ?_|refine br_ff ?_|refine br_n ?_|refine br_and ?_|refine br_or ?_|refine br_t (by assumption) ?_|refine br_f (by assumption) ?_|refine eq_i64 (by omega) ?_|refine el_tn ?_)|((with_reducible refine br_dt ?_ ?_);focus omega)|((with_reducible refine br_df ?_ ?_);focus omega)|((with_reducible apply br_dq hQz)<;>(try intro hsp hQz))|((with_reducible refine ck_x ?_ ?_);focus (first|omega|rfl|assumption|decide|(simp only [List.length_map,List.length_cons,List.length_nil];omega)|exact hr|exact hq|exact hmin|exact bits_off (hWU (a / 64)) hrm|exact bits_or (hWU (a / 64)) hrm))|refine eq_of (hr) ?_|refine eq_of (hq) ?_|refine eq_of (hmin) ?_|refine eq_of (bits_off (hWU (a / 64)) hrm) ?_|refine eq_of (bits_or (hWU (a / 64)) hrm) ?_|(with_reducible first|refine eq_tn ?_|refine eq_tn1 ?_|refine eq_tn2 ?_|refine eq_m1 ?_|refine eq_m2 ?_|refine eq_zm ?_|refine eq_z ?_|refine len_map ?_|refine len_sl ?_|refine len_nils ?_|refine len_own' ?_|refine len_isl ?_|refine eq_u8 (by omega) ?_|refine eq_u16 (by omega) ?_)|refine nthK_of (arr_get hpg) ?_|refine set1K_of (by first|omega|simp|(simp only [arr_len];omega)) (arr_set _ _ _) ?_|(with_reducible first|refine eq_rfl ?_|refine ChkX.mk (by kernel_rfl) ?_|refine code_d (by decide +kernel) ?_|refine end_go rfl ?_)|refine cx_pure (k_bytes _ _ hbad) ?_|refine qcx (k_bytes _ _ hbad) ?_|refine dcx_pure (k_bytes _ _ hbad) ?_|refine cx_yldE hmix rfl hF hA hB rfl ?_|refine len_map ?_|refine len_isl ?_|refine el_of rfl rfl ?_|refine del_own ?_|refine del_own' rfl ?_|refine as_go rfl ?_|refine rd_go rfl ?_|refine rg_end rfl ?_|refine flat_ownX ?_|refine EqLX.mk ?_|((with_reducible apply br_bq hQz)<;>(try intro hsp hQz))|exact hQz.out))<;>(try (conv=>whnf))))):p:=h ⟨hq⟩
set_option maxHeartbeats 1600000 in
set_option maxRecDepth 20000 in
theorem k_zeroed (s:List Page) (a n:Int) (hs:s.length≤2000) (hc:∀ p ∈ s,p.2.length≤100) (hok:askM s a n=0→(∀ p ∈ s,0≤p.1∧p.1 < 1024∧∀ c ∈ p.2,badCut c=false)∧0≤a∧0≤n∧a+n≤65536) :
  PureC Tryd.prog G0 20 [stateA s,.int .i64 a,.int .i64 n] (.tup [if askM s a n=0 then stateA (stateM (turnM opOff (openM s) a.toNat n.toNat) 1024) else stateA [],.int .i64 (askM s a n)]):=by
 refine pure_x hmix b20 plainG ⟨plain_state,plain_int,plain_int,trivial⟩ (plain_tup (plain_two (by split<;>exact plain_state) plain_int)) rfl ?_
 have hka:=k_ask s a n hs hc
 unfold c20
 by_cases h0:askM s a n=0
 ·obtain ⟨hg,ha,hn,han⟩:=hok h0
  have hlo:=l_open s hs hc hg
  have hU:=openM_u64 (fun p hp=>(hg p hp).2.2)
  rw [h0] at hka ⊢
  rw [if_pos rfl]
  obtain ⟨A,rfl⟩:=Int.eq_ofNat_of_zero_le ha
  obtain ⟨M,rfl⟩:=Int.eq_ofNat_of_zero_le hn
  simp only [Int.toNat_natCast,stateA,pagesA] at *
  (refine wx_Yn ?_;repeat' (first|with_reducible refine And.intro ?_ ?_|intro hsp))
  refine range_x hmix b60 rfl trivial ?_
  intro frl asl bdl hF hA hB
  unfold c60
  (refine wx_Yn ?_;repeat' (first|with_reducible refine And.intro ?_ ?_|intro hsp))
  (refine loop_x [0,1,2] (fun (q:(Nat→Nat) × Nat × Nat)=>[]) (fun (q:(Nat→Nat) × Nat × Nat)=>⟨[(0,.cells [.isl (s.map pageA)]),(1,.cells [.nils]),(2,.cells (arr q.1)),(3,.cells [.ptr 2 0]),(4,.cells [.int .i64 (q.2.1:Nat)]),(5,.cells [.int .i64 (q.2.2:Nat)]),(6,.loop .ready none frl [25,26] asl bdl)],7⟩) (fun (q:(Nat→Nat) × Nat × Nat)=>turnM opOff q.1 q.2.1 q.2.2=turnM opOff (openM s) A M∧q.2.1+q.2.2=A+M∧∀ i,U64 (q.1 i)) (fun (q:(Nat→Nat) × Nat × Nat)=>q.2.2) ((openM s,A,M)) [] rfl (fun _=>by first|exact Nat.zero_le _|(dsimp only;omega)) ?_ (by ((try (conv=>whnf));exact wkx_Yn)) ?_)
  ·exact ⟨rfl,rfl,hU⟩
  rintro ⟨W,a,m⟩ ⟨ht,ham,hWU⟩
  dsimp only at ht ham hWU ⊢
  by_cases hm:m=0
  ·subst hm
   rw [turnM_zero] at ht
   have hls:=l_state W hWU
   rw [ht] at hls
   rw [ht]
   generalize turnM opOff (openM s) A M=W2 at *
   (refine wx_Yn ?_;repeat' (first|with_reducible refine And.intro ?_ ?_|intro hsp))
   exact end_wk (wk_tup ⟨wk_agg ⟨wk_plain subH_nil plain_pagesI,trivial⟩,wk_int rfl,trivial⟩)
  ·have hr:((a:Nat):Int).tmod 64=((a % 64:Nat):Int):=by rw [Int.tmod_eq_emod_of_nonneg (by omega)];omega
   have hq:IntKind.i64.wrap (((a:Nat):Int).tdiv 64)=((a / 64:Nat):Int):=by
    rw [Int.tdiv_eq_ediv_of_nonneg (by omega),IntWalk.i64_in _ (by omega)];omega
   have hmin:min (m:Int) ((64:Int) - ((a % 64:Nat):Int))=((min m (64 - a % 64):Nat):Int):=by omega
   have hstep:=turnM_step (op:=opOff) (M:=W) (a:=a) hm
   have hsz:1≤min m (64 - a % 64)∧min m (64 - a % 64)≤m∧min m (64 - a % 64)≤64 - a % 64:=by omega
   generalize hszz:min m (64 - a % 64)=sz at *
   have hbad:badCut ((a % 64:Nat),(sz:Nat))=false:=by simp only [badCut,decide_eq_false_iff_not];omega
   have hrm:U64 (runM ((a % 64:Nat),(sz:Nat))):=bad_u64 hbad
   have hpg:a / 64 < 1024:=by omega
   (refine wx_Ynn ?_;repeat' (first|with_reducible refine And.intro ?_ ?_|intro hsp))
   exact next_x (updM W (a / 64) (opOff (W (a / 64)) (runM ((a % 64:Nat),(sz:Nat)))),a+sz,m - sz) [] ⟨hstep.symm.trans ht,by dsimp only;omega,updM_u64 hWU (opOff_u64 (hWU _)) _⟩ (by first|omega|(dsimp only;omega)) rfl (by exact wkx_Yn)
 ·rw [if_neg h0]
  simp only [stateA,pagesA] at *
  (refine wx_Yn ?_;repeat' (first|with_reducible refine And.intro ?_ ?_|intro hsp))
  exact end_wk (wk_tup ⟨wk_agg ⟨wk_nils,trivial⟩,wk_int rfl,trivial⟩)
set_option maxHeartbeats 1600000 in
set_option maxRecDepth 20000 in
theorem k_wrote (s:List Page) (a n:Int) (hs:s.length≤2000) (hc:∀ p ∈ s,p.2.length≤100) (hok:askM s a n=0→(∀ p ∈ s,0≤p.1∧p.1 < 1024∧∀ c ∈ p.2,badCut c=false)∧0≤a∧0≤n∧a+n≤65536) :
  PureC Tryd.prog G0 17 [stateA s,.int .i64 a,.int .i64 n] (.tup [if askM s a n=0 then stateA (stateM (turnM opOr (openM s) a.toNat n.toNat) 1024) else stateA [],.int .i64 (askM s a n)]):=by
 refine pure_x hmix b17 plainG ⟨plain_state,plain_int,plain_int,trivial⟩ (plain_tup (plain_two (by split<;>exact plain_state) plain_int)) rfl ?_
 have hka:=k_ask s a n hs hc
 unfold c17
 by_cases h0:askM s a n=0
 ·obtain ⟨hg,ha,hn,han⟩:=hok h0
  have hlo:=l_open s hs hc hg
  have hU:=openM_u64 (fun p hp=>(hg p hp).2.2)
  rw [h0] at hka ⊢
  rw [if_pos rfl]
  obtain ⟨A,rfl⟩:=Int.eq_ofNat_of_zero_le ha
  obtain ⟨M,rfl⟩:=Int.eq_ofNat_of_zero_le hn
  simp only [Int.toNat_natCast,stateA,pagesA] at *
  (refine wx_Yn ?_;repeat' (first|with_reducible refine And.intro ?_ ?_|intro hsp))
  refine range_x hmix b60 rfl trivial ?_
  intro frl asl bdl hF hA hB
  unfold c60
  (refine wx_Yn ?_;repeat' (first|with_reducible refine And.intro ?_ ?_|intro hsp))
  (refine loop_x [0,1,2] (fun (q:(Nat→Nat) × Nat × Nat)=>[]) (fun (q:(Nat→Nat) × Nat × Nat)=>⟨[(0,.cells [.isl (s.map pageA)]),(1,.cells [.nils]),(2,.cells (arr q.1)),(3,.cells [.ptr 2 0]),(4,.cells [.int .i64 (q.2.1:Nat)]),(5,.cells [.int .i64 (q.2.2:Nat)]),(6,.loop .ready none frl [25,26] asl bdl)],7⟩) (fun (q:(Nat→Nat) × Nat × Nat)=>turnM opOr q.1 q.2.1 q.2.2=turnM opOr (openM s) A M∧q.2.1+q.2.2=A+M∧∀ i,U64 (q.1 i)) (fun (q:(Nat→Nat) × Nat × Nat)=>q.2.2) ((openM s,A,M)) [] rfl (fun _=>by first|exact Nat.zero_le _|(dsimp only;omega)) ?_ (by ((try (conv=>whnf));exact wkx_Yn)) ?_)
  ·exact ⟨rfl,rfl,hU⟩
  rintro ⟨W,a,m⟩ ⟨ht,ham,hWU⟩
  dsimp only at ht ham hWU ⊢
  by_cases hm:m=0
  ·subst hm
   rw [turnM_zero] at ht
   have hls:=l_state W hWU
   rw [ht] at hls
   rw [ht]
   generalize turnM opOr (openM s) A M=W2 at *
   (refine wx_Yn ?_;repeat' (first|with_reducible refine And.intro ?_ ?_|intro hsp))
   exact end_wk (wk_tup ⟨wk_agg ⟨wk_plain subH_nil plain_pagesI,trivial⟩,wk_int rfl,trivial⟩)
  ·have hr:((a:Nat):Int).tmod 64=((a % 64:Nat):Int):=by rw [Int.tmod_eq_emod_of_nonneg (by omega)];omega
   have hq:IntKind.i64.wrap (((a:Nat):Int).tdiv 64)=((a / 64:Nat):Int):=by
    rw [Int.tdiv_eq_ediv_of_nonneg (by omega),IntWalk.i64_in _ (by omega)];omega
   have hmin:min (m:Int) ((64:Int) - ((a % 64:Nat):Int))=((min m (64 - a % 64):Nat):Int):=by omega
   have hstep:=turnM_step (op:=opOr) (M:=W) (a:=a) hm
   have hsz:1≤min m (64 - a % 64)∧min m (64 - a % 64)≤m∧min m (64 - a % 64)≤64 - a % 64:=by omega
   generalize hszz:min m (64 - a % 64)=sz at *
   have hbad:badCut ((a % 64:Nat),(sz:Nat))=false:=by simp only [badCut,decide_eq_false_iff_not];omega
   have hrm:U64 (runM ((a % 64:Nat),(sz:Nat))):=bad_u64 hbad
   have hpg:a / 64 < 1024:=by omega
   (refine wx_Ynn ?_;repeat' (first|with_reducible refine And.intro ?_ ?_|intro hsp))
   exact next_x (updM W (a / 64) (opOr (W (a / 64)) (runM ((a % 64:Nat),(sz:Nat)))),a+sz,m - sz) [] ⟨hstep.symm.trans ht,by dsimp only;omega,updM_u64 hWU (U64.or (hWU _) hrm) _⟩ (by first|omega|(dsimp only;omega)) rfl (by exact wkx_Yn)
 ·rw [if_neg h0]
  simp only [stateA,pagesA] at *
  (refine wx_Yn ?_;repeat' (first|with_reducible refine And.intro ?_ ?_|intro hsp))
  exact end_wk (wk_tup ⟨wk_agg ⟨wk_nils,trivial⟩,wk_int rfl,trivial⟩)
end Go.Proofs.YtkahmhmkhfllpaaDoor
namespace Go.Pol
theorem check_valid {s:List Page} (h:checkM s=0):s.length≤1024∧(∀ p ∈ s,okPage p=true)∧okFrom (-1) s=true:=by
 unfold checkM at h
 split at h
 ·cases h
 ·rename_i h1
  split at h
  ·rename_i h2
   split at h
   ·rename_i h3;exact ⟨by omega,fun p hp=>List.all_eq_true.1 h2 p hp,h3⟩
   ·cases h
  ·cases h
def Can (last:Int):List Page→Prop
 | []=>True
 | p::s=>last < p.1∧p.1 < 1024∧p.2 ≠ []∧p.2.length≤4∧Sep 0 p.2∧Can p.1 s
theorem okFrom_can:∀ {s:List Page} {last:Int},(∀ p ∈ s,okPage p=true)→okFrom last s=true→Can last s
 | [],_,_,_=>trivial
 | p::s,last,hp,h=>by
  simp only [okFrom,Bool.and_eq_true,okNext,decide_eq_true_eq,sameL] at h
  obtain ⟨⟨⟨⟨h1,h2⟩,h3⟩,h4⟩,h5⟩:=h
  have h6:=hp p (List.mem_cons_self ..)
  simp only [okPage,Bool.and_eq_true,decide_eq_true_eq] at h6
  exact ⟨h1,h6.1.2,fun e=>by rw [e] at h2;simp at h2,h3,sep_iff.1 h4,okFrom_can (fun q hq=>hp q (List.mem_cons_of_mem _ hq)) h5⟩
def stC (c:Nat→List Cut):Nat→List Page
 | 0 => []
 | n+1=>if c n=[] then stC c n else stC c n++[((n:Int),c n)]
theorem mergeN_ne:∀ (n:Nat) (l:List Cut),l ≠ []→mergeN n l ≠ []
 | 0,l,h=>h
 | n+1,l,h=>by
  unfold mergeN
  split
  ·rename_i h4
   refine mergeN_ne n _ fun e=>?_
   have:=merge1_length h4
   rw [e] at this
   simp at this
   omega
  ·exact h
theorem down_nil {m:Nat} (hm:U64 m):downM m=[] ↔ m=0:=by
 constructor
 ·intro h
  have hc:cutsM m=[]:=Classical.byContradiction fun hne=>mergeN_ne _ _ hne h
  refine Nat.eq_of_testBit_eq fun b=>?_
  rw [Nat.zero_testBit]
  by_cases hb:b < 64
  ·have:=inCuts_runs m.testBit 64 (Nat.le_refl _) b
   have hc':runs m.testBit 64=[]:=hc
   rw [hc'] at this
   simpa [inCuts,hb] using this.symm
  ·exact bit_ge hm (by omega)
 ·rintro rfl;rfl
theorem stateM_stC {M:Nat→Nat} (hM:∀ k,U64 (M k)):∀ n,stateM M n=stC (fun k=>downM (M k)) n
 | 0=>rfl
 | n+1=>by
  unfold stateM stC
  rw [stateM_stC hM n]
  by_cases h:M n=0
  ·rw [if_pos h,if_pos ((down_nil (hM n)).2 h)]
  ·rw [if_neg h,if_neg (fun e=>h ((down_nil (hM n)).1 e))]
def cutsIn:List Page→Nat→List Cut
 | [], _ => []
 | p::s,k=>if p.1=(k:Int) then p.2 else cutsIn s k
def stR (c:Nat→List Cut):Nat→Nat→List Page
 | _, 0 => []
 | a,n+1=>(if c a=[] then [] else [((a:Int),c a)])++stR c (a+1) n
theorem stR_congr {c d:Nat→List Cut}:∀ (n a:Nat),(∀ k,a≤k→c k=d k)→stR c a n=stR d a n
 | 0,_,_=>rfl
 | n+1,a,h=>by unfold stR;rw [h a (Nat.le_refl _),stR_congr n (a+1) fun k hk=>h k (by omega)]
theorem stR_nil {c:Nat→List Cut}:∀ (n a:Nat),(∀ k,a≤k→c k=[])→stR c a n=[]
 | 0,_,_=>rfl
 | n+1,a,h=>by unfold stR;rw [if_pos (h a (Nat.le_refl _)),stR_nil n (a+1) fun k hk=>h k (by omega)];rfl
theorem stR_last {c:Nat→List Cut}:∀ (n a:Nat),stR c a (n+1)=stR c a n++(if c (a+n)=[] then [] else [(((a+n:Nat):Int),c (a+n))])
 | 0,a=>by simp [stR]
 | n+1,a=>by
  rw [stR,stR_last n (a+1),show a+1+n=a+(n+1) by omega,← List.append_assoc]
  rfl
theorem stC_stR (c:Nat→List Cut):∀ n,stC c n=stR c 0 n
 | 0=>rfl
 | n+1=>by
  rw [stR_last,stC,stC_stR c n,Nat.zero_add]
  split<;>simp [*]
theorem cutsIn_none:∀ {s:List Page} {last:Int},Can last s→∀ k:Nat,(k:Int)≤last→cutsIn s k=[]
 | [],_,_,_,_=>rfl
 | p::s,last,h,k,hk=>by
  obtain ⟨h1,h2,h3,h4,h5,h6⟩:=h
  unfold cutsIn
  rw [if_neg (by omega)]
  exact cutsIn_none h6 k (by omega)
theorem can_cuts:∀ {s:List Page} {last:Int},Can last s→∀ k,Sep 0 (cutsIn s k)∧(cutsIn s k).length≤4
 | [],_,_,_=>⟨trivial,Nat.zero_le _⟩
 | p::s,last,h,k=>by
  obtain ⟨h1,h2,h3,h4,h5,h6⟩:=h
  unfold cutsIn
  split
  ·exact ⟨h5,h4⟩
  ·exact can_cuts h6 k
theorem can_stR:∀ (n a:Nat) {s:List Page} {last:Int},Can last s→last < a→last+1=a∨(∀ p ∈ s,(a:Int)≤p.1)→(∀ p ∈ s,p.1 < (a+n:Nat))→stR (cutsIn s) a n=s
 | 0,a,s,last,h,hl,ha,hn=>by
  cases s with
  | nil=>rfl
  | cons p s =>
   have:=hn p (List.mem_cons_self ..)
   obtain ⟨h1,_⟩:=h
   rcases ha with ha|ha
   ·omega
   ·have:=ha p (List.mem_cons_self ..);omega
 | n+1,a,s,last,h,hl,ha,hn=>by
  cases s with
  | nil=>exact stR_nil _ _ fun _ _=>rfl
  | cons p s =>
   have hp:=hn p (List.mem_cons_self ..)
   obtain ⟨h1,h2,h3,h4,h5,h6⟩:=h
   have hpa:(a:Int)≤p.1:=by
    rcases ha with ha|ha
    ·omega
    ·exact ha p (List.mem_cons_self ..)
   have hgt:∀ {s:List Page} {l:Int},Can l s→∀ q ∈ s,l < q.1:=by
    intro s
    induction s with
    | nil=>intro l _ q hq;cases hq
    | cons r s ih =>
     intro l hc q hq
     obtain ⟨g1,_,_,_,_,g6⟩:=hc
     rcases List.mem_cons.1 hq with rfl|hq
     ·exact g1
     ·have:=ih g6 q hq;omega
   by_cases e:p.1=(a:Int)
   ·have hc:cutsIn (p::s) a=p.2:=by unfold cutsIn;rw [if_pos e]
    rw [stR,hc,if_neg h3,stR_congr (d:=cutsIn s) n (a+1) fun k hk=>by
     show (if p.1=(k:Int) then p.2 else cutsIn s k)=_
     rw [if_neg (by omega)]]
    rw [can_stR n (a+1) h6 (by omega) (.inl (by omega)) fun q hq=>by
     have:=hn q (List.mem_cons_of_mem _ hq);omega]
    rw [← e];rfl
   ·have hcan:Can a (p::s):=⟨by omega,h2,h3,h4,h5,h6⟩
    have hc:cutsIn (p::s) a=[]:=cutsIn_none hcan a (Int.le_refl _)
    rw [stR,hc,if_pos rfl,List.nil_append]
    exact can_stR n (a+1) hcan (by omega) (.inl (by omega)) fun q hq=>by
     have:=hn q hq;omega
theorem can_lt:∀ {s:List Page} {l:Int},Can l s→∀ q ∈ s,q.1 < 1024
 | [],_,_,_,hq=>by cases hq
 | r::s,l,hc,q,hq=>by
  obtain ⟨_,g2,_,_,_,g6⟩:=hc
  rcases List.mem_cons.1 hq with rfl|hq
  ·exact g2
  ·exact can_lt g6 q hq
theorem can_stC {s:List Page} (h:Can (-1) s):stC (cutsIn s) 1024=s:=by
 rw [stC_stR]
 exact can_stR 1024 0 h (by omega) (.inl (by omega)) fun p hp=>by have:=can_lt h p hp;omega
def updC (c:Nat→List Cut) (p:Nat) (l:List Cut):Nat→List Cut:=fun k=>if k=p then l else c k
theorem openM_stC {c:Nat→List Cut} {k:Nat}:∀ n,openM (stC c n) k=if k < n then unionM (c k) else 0
 | 0=>rfl
 | n+1=>by
  rw [stC]
  by_cases h0:c n=[]
  ·rw [if_pos h0,openM_stC n]
   by_cases e:k=n
   ·subst e;rw [if_neg (by omega),if_pos (by omega),h0];rfl
   ·by_cases h:k < n
    ·rw [if_pos h,if_pos (by omega)]
    ·rw [if_neg h,if_neg (by omega)]
  ·rw [if_neg h0,openM_snoc]
   simp only [updM,Int.toNat_natCast]
   by_cases e:k=n
   ·subst e
    rw [if_pos rfl,openM_stC k,if_neg (by omega),if_pos (by omega),Nat.zero_or]
   ·rw [if_neg e,openM_stC n]
    by_cases h:k < n
    ·rw [if_pos h,if_pos (by omega)]
    ·rw [if_neg h,if_neg (by omega)]
def BitOp (op:Nat→Nat→Nat) (is:Bool):Prop:=(∀ x y,U64 x→U64 y→U64 (op x y))∧∀ (x:Nat) (f n b:Nat),U64 x→b < 64→f+n≤64→(op x (runM ((f:Int),(n:Int)))).testBit b=if f≤b∧b < f+n then is else x.testBit b
theorem turn_bits {op:Nat→Nat→Nat} {is:Bool} (hop:BitOp op is):∀ (n a:Nat) (M:Nat→Nat),(∀ k,U64 (M k))→(∀ k,U64 (turnM op M a n k))∧∀ k b,b < 64→(turnM op M a n k).testBit b=if a≤64 * k+b∧64 * k+b < a+n then is else (M k).testBit b:=by
 intro n
 induction n using Nat.strongRecOn with
 | ind n ih =>
  intro a M hM
  by_cases h0:n=0
  ·subst h0
   refine ⟨hM,fun k b hb=>?_⟩
   rw [turnM_zero,if_neg (by omega)]
  ·rw [turnM_step h0]
   have hU:∀ k,U64 (updM M (a / 64) (op (M (a / 64)) (runM ((a % 64:Nat),(min n (64 - a % 64):Nat)))) k):=updM_u64 hM (hop.1 _ _ (hM _) (runM_u64 (by dsimp only;omega) (by dsimp only;omega) (by dsimp only;omega))) _
   obtain ⟨i1,i2⟩:=ih (n - min n (64 - a % 64)) (by omega) (a+min n (64 - a % 64)) _ hU
   refine ⟨i1,fun k b hb=>?_⟩
   rw [i2 k b hb]
   simp only [updM]
   by_cases e:k=a / 64
   ·rw [if_pos e,hop.2 _ _ _ b (hM _) hb (by omega),← e]
    by_cases h1:a≤64 * k+b∧64 * k+b < a+n
    ·rw [if_pos h1]
     split
     ·rfl
     ·rw [if_pos (by omega)]
    ·rw [if_neg h1,if_neg (by omega),if_neg (by omega)]
   ·rw [if_neg e]
    by_cases h1:a≤64 * k+b∧64 * k+b < a+n
    ·rw [if_pos h1,if_pos (by omega)]
    ·rw [if_neg h1,if_neg (by omega)]
theorem bit_or:BitOp opOr true:=⟨fun x y hx hy=>U64.or hx hy,fun x f n b _ _ _=>by
 rw [opOr,Nat.testBit_or,runM_bit _ (by dsimp only;omega) (by dsimp only;omega)]
 by_cases h:f≤b∧b < f+n
 ·rw [if_pos h,decide_eq_true (by dsimp only;omega),Bool.or_true]
 ·rw [if_neg h,decide_eq_false (by dsimp only;omega),Bool.or_false]⟩
theorem sep_u64 {l:List Cut} (h:Sep 0 l):U64 (unionM l):=unionM_u64 fun c hc=>by have:=h.all c hc;omega
theorem check_good {s:List Page} (h:checkM s=0):(∀ p ∈ s,0≤p.1∧p.1 < 1024∧∀ c ∈ p.2,badCut c=false)∧Can (-1) s:=by
 obtain ⟨_,h2,h3⟩:=check_valid h
 refine ⟨fun p hp=>?_,okFrom_can h2 h3⟩
 have:=h2 p hp
 simp only [okPage,Bool.and_eq_true,decide_eq_true_eq,Bool.not_eq_true',List.any_eq_false] at this
 exact ⟨this.1.1,this.1.2,fun c hc=>by simpa using this.2 c hc⟩
end Go.Pol
namespace Go.Proofs.YtkahmhmkhfllpaaDoor
open Go Go.Am Go.Pol
end Go.Proofs.YtkahmhmkhfllpaaDoor
