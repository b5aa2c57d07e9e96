/-
 ZeroingSystem: what the law's function returns: true,at any spans,bytes,state and zone.
-/
import Derived.Test.YtkahmhmkhfllpaaDoorXc
import Derived.Test.YtkahmhmkhfllpaaDoorXr
import Derived.Test.YtkahmhmkhfllpaaDoorZsA
import Derived.Test.YtkahmhmkhfllpaaDoorZrF
import Derived.Test.YtkahmhmkhfllpaaDoorVmH
set_option linter.unusedSimpArgs false
set_option linter.unusedVariables false
namespace Go.Pol
open Go.Am
theorem cut_adr {L:List II} {x:Int} (h:x ∈ adrs L):∃ z ∈ L,z.1≤x∧x < z.1+z.2:=by
 obtain ⟨z,hz,hx⟩:=List.mem_flatMap.1 h
 simp only [adr,List.mem_map,List.mem_range] at hx
 obtain ⟨j,hj,rfl⟩:=hx
 exact ⟨z,hz,by omega,by omega⟩
theorem zoneOf_in {a n p:Int} {c:Int × Int}:∀ z ∈ zoneOf a n p c,a≤z.1∧0≤z.2∧z.1+z.2≤a+n:=fun z hz=>by
 unfold zoneOf at hz
 split at hz
 ·simp at hz;subst hz;dsimp only;omega
 ·cases hz
theorem zone_in {s:List (Int × List (Int × Int))} {a n:Int}:∀ z ∈ givenR s a n,a≤z.1∧0≤z.2∧z.1+z.2≤a+n:=fun z hz=>by
 obtain ⟨p,_,hz⟩:=List.mem_flatMap.1 hz
 obtain ⟨c,_,hz⟩:=List.mem_flatMap.1 hz
 exact zoneOf_in z hz
end Go.Pol
namespace Go.Proofs.YtkahmhmkhfllpaaDoor
open Go Go.Am Go.Pol
theorem dcx_locY {f nx:Nat} {avs ds:List AV} {l:List (Nat × AObj)} {K:AV→Up→List Nat→Prop} (hc:LocY f avs ds) (hk:K (.ptr nx 0) [(nx,some (.cells ds))] []):DCallX Tryd.prog G0 f avs ⟨l,nx⟩ K :=
 dcx_new (r':=.ptr nx 0) (cs':=ds) [] hc.out plainG (fun n hn=>by cases hn) (rnl_plain hc.pa) (rn_ptr (.inr ⟨rfl,rfl⟩)) (rnl_plain hc.pd) hk
theorem plain_z {a n:Int}:Plain (.agg [.int .i64 a,.int .i64 n]):=plain_agg (plain_2 plain_int plain_int)
theorem plain_zt {T:List (List AV)} (h:Plain (.isl T)):Plain (.agg [.isl T]):=plain_agg (plain_1 h)
theorem wxd {p q:Prop} (hq:q) (h:HidP q→p:=by (intro hQz;((repeat' ((try (conv=>whnf));first|(with_reducible first|refine run_cons ?_|refine runq_cons ?_|refine code_seq ?_|refine code_reg ?_|refine code_cond ?_|refine run_nil ?_|refine runq_nil ?_|refine rund_op rfl ?_|refine rund_nil ?_|refine code_block ?_|refine code_skip ?_|refine code_exit ?_|refine code_ret ?_|refine code_range ?_|refine rund_fast (by decide +kernel) ?_|refine rund_slow (by decide +kernel) ?_|refine br_tt ?_|refine br_ff ?_|refine br_n ?_|refine br_and ?_|refine br_or ?_|refine br_t (by assumption) ?_|refine br_f (by assumption) ?_|refine eq_i64 (by omega) ?_|refine el_tn ?_)|((with_reducible refine br_dt ?_ ?_);focus omega)|((with_reducible refine br_df ?_ ?_);focus omega)|((with_reducible apply br_dq hQz)<;>(try intro hsp hQz))|((with_reducible refine ck_x ?_ ?_);focus (first|omega|rfl|assumption|decide|(simp only [List.length_map,List.length_cons,List.length_nil];omega)))|(with_reducible first|refine eq_tn ?_|refine eq_tn1 ?_|refine eq_tn2 ?_|refine eq_m1 ?_|refine eq_m2 ?_|refine eq_zm ?_|refine eq_z ?_|refine len_map ?_|refine len_sl ?_|refine len_nils ?_|refine len_own' ?_|refine len_isl ?_|refine eq_u8 (by omega) ?_|refine eq_u16 (by omega) ?_)|refine eq_of (by with_reducible assumption) ?_|(with_reducible first|refine eq_rfl ?_|refine ChkX.mk (by kernel_rfl) ?_|refine code_d (by decide +kernel) ?_|refine end_go rfl ?_)|refine cx_locS (by assumption) rfl (by omega) ?_|refine dcx_locS (by assumption) rfl rfl ?_|refine dcx_locY (by assumption) ?_|refine cx_locY (by assumption) ?_|refine cx_pureS (by assumption) ?_|refine dcx_pureS (by assumption) ?_|(refine cx_in hmix b36 rfl ?_;unfold c36)|(refine cx_in hmix b32 rfl ?_;unfold c32)|refine len_map ?_|refine len_isl ?_|refine el_of rfl rfl ?_|refine del_own ?_|refine del_own' rfl ?_|refine as_go rfl ?_|refine rd_go rfl ?_|refine rg_end rfl ?_|refine flat_ownX ?_|refine EqLX.mk ?_|((with_reducible apply br_bq hQz)<;>(try intro hsp hQz))|exact hQz.out))<;>(try (conv=>whnf))))):p:=h ⟨hq⟩
section
variable {s:Sy} {T:List (List AV)} {X P:List II} {at_ n e:Int} {S:List Page}
theorem k_great (hX:X.length≤9223372036854775807) (hP:P.length≤9223372036854775807) {b:Bool} (hb:b=decide (20 < X.length∨100 < P.length)):PureS 5 [.agg [.isl (X.map cutA),.isl (P.map puA)]] (.bool b):=by
 refine PureS.mk (pure_x hmix b5 plainG ⟨plain_made,trivial⟩ plain_bool rfl ?_)
 unfold c5
 (refine wxd ?_;repeat' (first|with_reducible refine And.intro ?_ ?_|intro hsp))
 all_goals exact end_plain (congrArg AV.bool (by rw [hb];apply Bool.eq_iff_iff.2;simp;omega)) plain_bool
theorem awakeS:PureS 7 [] (.bool true):=PureS.mk k_awake
end
end Go.Proofs.YtkahmhmkhfllpaaDoor
