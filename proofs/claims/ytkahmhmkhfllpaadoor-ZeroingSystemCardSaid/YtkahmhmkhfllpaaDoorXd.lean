/-
 ZeroingSystem: what the law's function returns: true,at any spans,bytes,state and zone.
-/
import Derived.Test.YtkahmhmkhfllpaaDoorXc
import Derived.Test.YtkahmhmkhfllpaaDoorXr
import Derived.Test.YtkahmhmkhfllpaaDoorZsA
import Derived.Test.YtkahmhmkhfllpaaDoorZrF
import Derived.Test.YtkahmhmkhfllpaaDoorVmH
set_option linter.unusedSimpArgs false
set_option linter.unusedVariables false
namespace Go.Pol
open Go.Am
theorem cut_adr {L:List II} {x:Int} (h:x ∈ adrs L):∃ z ∈ L,z.1≤x∧x < z.1+z.2:=by
 obtain ⟨z,hz,hx⟩:=List.mem_flatMap.1 h
 simp only [adr,List.mem_map,List.mem_range] at hx
 obtain ⟨j,hj,rfl⟩:=hx
 exact ⟨z,hz,by omega,by omega⟩
theorem zoneOf_in {a n p:Int} {c:Int × Int}:∀ z ∈ zoneOf a n p c,a≤z.1∧0≤z.2∧z.1+z.2≤a+n:=fun z hz=>by
 unfold zoneOf at hz
 split at hz
 ·simp at hz;subst hz;dsimp only;omega
 ·cases hz
theorem zone_in {s:List (Int × List (Int × Int))} {a n:Int}:∀ z ∈ givenR s a n,a≤z.1∧0≤z.2∧z.1+z.2≤a+n:=fun z hz=>by
 obtain ⟨p,_,hz⟩:=List.mem_flatMap.1 hz
 obtain ⟨c,_,hz⟩:=List.mem_flatMap.1 hz
 exact zoneOf_in z hz
end Go.Pol
namespace Go.Proofs.YtkahmhmkhfllpaaDoor
open Go Go.Am Go.Pol
theorem dcx_locY {f nx:Nat} {avs ds:List AV} {l:List (Nat × AObj)} {K:AV→Up→List Nat→Prop} (hc:LocY f avs ds) (hk:K (.ptr nx 0) [(nx,some (.cells ds))] []):DCallX Tryd.prog G0 f avs ⟨l,nx⟩ K :=
 dcx_new (r':=.ptr nx 0) (cs':=ds) [] hc.out plainG (fun n hn=>by cases hn) (rnl_plain hc.pa) (rn_ptr (.inr ⟨rfl,rfl⟩)) (rnl_plain hc.pd) hk
theorem plain_z {a n:Int}:Plain (.agg [.int .i64 a,.int .i64 n]):=plain_agg (plain_2 plain_int plain_int)
theorem plain_zt {T:List (List AV)} (h:Plain (.isl T)):Plain (.agg [.isl T]):=plain_agg (plain_1 h)
theorem wxd {p q:Prop} (hq:q) (h:HidP q→p:=by (intro hQz;((repeat' ((try (conv=>whnf));first|(with_reducible first|refine run_cons ?_|refine runq_cons ?_|refine code_seq ?_|refine code_reg ?_|refine code_cond ?_|refine run_nil ?_|refine runq_nil ?_|refine rund_op rfl ?_|refine rund_nil ?_|refine code_block ?_|refine code_skip ?_|refine code_exit ?_|refine code_ret ?_|refine code_range ?_|refine rund_fast (by decide +kernel) ?_|refine rund_slow (by decide +kernel) ?_|refine br_tt ?_|refine br_ff ?_|refine br_n ?_|refine br_and ?_|refine br_or ?_|refine br_t (by assumption) ?_|refine br_f (by assumption) ?_|refine eq_i64 (by omega) ?_|refine el_tn ?_)|((with_reducible refine br_dt ?_ ?_);focus omega)|((with_reducible refine br_df ?_ ?_);focus omega)|((with_reducible apply br_dq hQz)<;>(try intro hsp hQz))|((with_reducible refine ck_x ?_ ?_);focus (first|omega|rfl|assumption|decide|(simp only [List.length_map,List.length_cons,List.length_nil];omega)))|(with_reducible first|refine eq_tn ?_|refine eq_tn1 ?_|refine eq_tn2 ?_|refine eq_m1 ?_|refine eq_m2 ?_|refine eq_zm ?_|refine eq_z ?_|refine len_map ?_|refine len_sl ?_|refine len_nils ?_|refine len_own' ?_|refine len_isl ?_|refine eq_u8 (by omega) ?_|refine eq_u16 (by omega) ?_)|refine eq_of (by with_reducible assumption) ?_|(with_reducible first|refine eq_rfl ?_|refine ChkX.mk (by kernel_rfl) ?_|refine code_d (by decide +kernel) ?_|refine end_go rfl ?_)|refine cx_locS (by assumption) rfl (by omega) ?_|refine dcx_locS (by assumption) rfl rfl ?_|refine dcx_locY (by assumption) ?_|refine cx_locY (by assumption) ?_|refine cx_pureS (by assumption) ?_|refine dcx_pureS (by assumption) ?_|(refine cx_in hmix b36 rfl ?_;unfold c36)|(refine cx_in hmix b32 rfl ?_;unfold c32)|refine len_map ?_|refine len_isl ?_|refine el_of rfl rfl ?_|refine del_own ?_|refine del_own' rfl ?_|refine as_go rfl ?_|refine rd_go rfl ?_|refine rg_end rfl ?_|refine flat_ownX ?_|refine EqLX.mk ?_|((with_reducible apply br_bq hQz)<;>(try intro hsp hQz))|exact hQz.out))<;>(try (conv=>whnf))))):p:=h ⟨hq⟩
section
variable {s:Sy} {T:List (List AV)} {X P:List II} {at_ n e:Int} {S:List Page}
set_option maxHeartbeats 1600000 in
theorem p_zero_no (hg:GoodS s) (he:e ≠ 0) (hT:Plain (.isl T)) (zg:PureS 19 [.agg [.isl T],.int .i64 at_,.int .i64 n] (.tup [.isl [],.int .i64 e])) :
  LocS 10 [.agg [.isl T],.int .i64 at_,.int .i64 n] s.a (.tup [.agg [.nils],.int .i64 0,.int .i64 e]) s.a:=by
 have hr:Plain (.tup [.agg [.nils],.int .i64 0,.int .i64 e]):=plain_tup (plain_3 (plain_agg (plain_1 plain_nils)) plain_int plain_int)
 have zc:=p_counts hg
 unfold Sy.counts at zc
 refine LocS.mk (loc_x hmix b10 rfl ?_) a_plain a_plain (plain_3 (plain_zt hT) plain_int plain_int) hr
 unfold c10
 (refine wxd ?_;repeat' (first|with_reducible refine And.intro ?_ ?_|intro hsp))
 all_goals first|(exfalso;omega)|skip
 all_goals exact end_s rfl hr rfl a_plain
set_option maxHeartbeats 1600000 in
theorem q_zero_no (he:e ≠ 0) (hT:Plain (.isl T)) (zg:PureS 33 [.agg [.isl T],.int .i64 at_,.int .i64 n] (.tup [.isl [],.int .i64 e])) :
  LocS 11 [.agg [.isl T],.int .i64 at_,.int .i64 n] s.b (.tup [.agg [.nils],.int .i64 0,.int .i64 e]) s.b:=by
 have hr:Plain (.tup [.agg [.nils],.int .i64 0,.int .i64 e]):=plain_tup (plain_3 (plain_agg (plain_1 plain_nils)) plain_int plain_int)
 refine LocS.mk (loc_x hmix b11 rfl ?_) b_plain b_plain (plain_3 (plain_zt hT) plain_int plain_int) hr
 unfold c11
 (refine wxd ?_;repeat' (first|with_reducible refine And.intro ?_ ?_|intro hsp))
 all_goals first|(exfalso;omega)|skip
 all_goals exact end_s rfl hr rfl b_plain
set_option maxHeartbeats 1600000 in
theorem k_zero_nil (hT:Plain (.isl T)):PureS 10 [.nilp,.agg [.isl T],.int .i64 at_,.int .i64 n] (.tup [.agg [.nils],.int .i64 0,.int .i64 1]):=by
 have hr:Plain (.tup [.agg [.nils],.int .i64 0,.int .i64 1]):=plain_tup (plain_3 (plain_agg (plain_1 plain_nils)) plain_int plain_int)
 refine PureS.mk (pure_x hmix b10 plainG ⟨plain_nilp,plain_zt hT,plain_int,plain_int,trivial⟩ hr rfl ?_)
 unfold c10
 (refine wxd ?_;repeat' (first|with_reducible refine And.intro ?_ ?_|intro hsp))
 all_goals first|(exfalso;omega)|skip
 all_goals exact end_plain rfl hr
theorem k_great (hX:X.length≤9223372036854775807) (hP:P.length≤9223372036854775807) {b:Bool} (hb:b=decide (20 < X.length∨100 < P.length)):PureS 5 [.agg [.isl (X.map cutA),.isl (P.map puA)]] (.bool b):=by
 refine PureS.mk (pure_x hmix b5 plainG ⟨plain_made,trivial⟩ plain_bool rfl ?_)
 unfold c5
 (refine wxd ?_;repeat' (first|with_reducible refine And.intro ?_ ?_|intro hsp))
 all_goals exact end_plain (congrArg AV.bool (by rw [hb];apply Bool.eq_iff_iff.2;simp;omega)) plain_bool
theorem farS (hs:S.length≤9223372036854775807) (hc:∀ p ∈ S,p.2.length≤9223372036854775807):PureS 6 [.agg [.isl (S.map pageA)]] (.bool (farM S)):=PureS.mk (k_far S hs hc)
theorem awakeS:PureS 7 [] (.bool true):=PureS.mk k_awake
theorem sys_walk (hX:X.length≤20) (hP:P.length≤100) (hT:Plain (.isl T)) (hfar:PureS 6 [.agg [.isl T]] (.bool false)) {s':Sy} (hg:GoodS s') {r:AV} (hr:Plain r) {w:Int}
  (z1:LocS 10 [.agg [.isl T],.int .i64 at_,.int .i64 n] (mkS X P).a (.tup [.agg [r],.int .i64 w,.int .i64 e]) s'.a)
  (z2:LocS 11 [.agg [.isl T],.int .i64 at_,.int .i64 n] (mkS X P).b (.tup [.agg [r],.int .i64 w,.int .i64 e]) s'.b)
  (zs:PureS 12 [.agg [r],.agg [r]] (.bool true)) :
  PureS 3 [.agg [.isl (X.map cutA),.isl (P.map puA)],.agg [.isl T],.agg [.int .i64 at_,.int .i64 n]] (.bool true):=by
 have zg:=k_great (X:=X) (P:=P) (by omega) (by omega) (b:=false) (by simp;omega)
 have zm:=p_system (X:=X) (P:=P) hX hP
 have zr:=q_mirror (X:=X) (P:=P) hX hP
 have zn:=k_zero_nil (at_:=at_) (n:=n) hT
 have zp:=p_save hg
 have zq:=q_save hg
 have zv:=r_same (x:=s'.save) (y:=s'.save) (Nat.le_trans runs_len (by decide)) (Nat.le_trans huge_len (by decide)) (Nat.le_trans data_len (by decide)) (by have:=(chkS_ok hg.hv).2.1;show s'.l.length≤_;omega) (b:=true) ⟨fun _=>sameV_rfl,fun _=>rfl⟩
 have za:=awakeS
 refine PureS.mk (pure_x hmix b3 plainG ⟨plain_made,plain_zt hT,plain_z,trivial⟩ plain_bool rfl ?_)
 unfold c3
 generalize vsA s'.save=v at *
 generalize X.map cutA=X' at *
 generalize P.map puA=P' at *
 (refine wxd ?_;repeat' (first|with_reducible refine And.intro ?_ ?_|intro hsp))
 all_goals first|(exfalso;omega)|skip
 all_goals exact end_bool rfl
set_option maxHeartbeats 1600000 in
theorem sys_far {b c:Bool} (zg:PureS 5 [.agg [.isl (X.map cutA),.isl (P.map puA)]] (.bool b)) (hT:Plain (.isl T)) (hfar:PureS 6 [.agg [.isl T]] (.bool c)) (h:b=true∨c=true) :
  PureS 3 [.agg [.isl (X.map cutA),.isl (P.map puA)],.agg [.isl T],.agg [.int .i64 at_,.int .i64 n]] (.bool true):=by
 have za:=awakeS
 refine PureS.mk (pure_x hmix b3 plainG ⟨plain_made,plain_zt hT,plain_z,trivial⟩ plain_bool rfl ?_)
 unfold c3
 generalize X.map cutA=X' at *
 generalize P.map puA=P' at *
 cases b<;>cases c
 ·simp at h
 all_goals
  (refine wxd ?_;repeat' (first|with_reducible refine And.intro ?_ ?_|intro hsp))
  all_goals first|(exfalso;omega)|skip
  all_goals exact end_bool rfl
theorem refSet_good {s:List Page} {a n:Int} {is:Bool} (hg:∀ p ∈ s,goodP p) (han:a+n≤65536):(refSet s a n is).length≤s.length+1024∧∀ p ∈ refSet s a n is,p.2.length≤100:=by
 obtain ⟨h1,h2⟩:=setN_good (a:=a) (n:=n) (is:=is) (p0:=(a / 64).toNat) hg (lastPg a n - (a / 64).toNat)
 have hl:lastPg a n≤1024:=by unfold lastPg;omega
 exact ⟨Nat.le_trans h2 (by omega),fun p hp=>(h1 p hp).1⟩
theorem k_sys (hX:X.length≤9223372036854775807) (hP:P.length≤9223372036854775807) (hs:S.length≤9223372036854775807) (hc:∀ p ∈ S,p.2.length≤9223372036854775807) :
  PureS 3 [.agg [.isl (X.map cutA),.isl (P.map puA)],stateA S,.agg [.int .i64 at_,.int .i64 n]] (.bool true):=by
 have hT:Plain (.isl (S.map pageA)):=plain_pages
 have hfar:=farS hs hc
 by_cases hgr:20 < X.length∨100 < P.length
 ·exact sys_far (k_great hX hP (b:=true) (by simp [hgr])) hT hfar (.inl rfl)
 by_cases hf:farM S=true
 ·rw [hf] at hfar
  exact sys_far (k_great hX hP rfl) hT hfar (.inr rfl)
 have hf':farM S=false:=by simpa using hf
 rw [hf'] at hfar
 obtain ⟨g1,g2,g3⟩:=far_false hf'
 have g4:∀ p ∈ S,p.2.length≤100:=fun p hp=>by have:=g3 p hp;omega
 have hgm:GoodS (mkS X P):=good_mk
 by_cases h0:askM S at_ n=0
 ·obtain ⟨c0,ha,hn,han⟩:=ask_zero h0
  obtain ⟨hg,hcan⟩:=check_good c0
  have hlen:=(check_valid c0).1
  have hgood:∀ p ∈ S,goodP p:=fun p hp=>⟨g4 p hp,(hg p hp).2.2⟩
  have w1:=k_given S at_ n (by omega) g4 fun _=>⟨hg,ha,hn,han⟩
  have w2:=k_rgiven S at_ n (by omega) g4 fun _=>⟨hg,ha,hn,han⟩
  rw [if_pos h0,h0] at w1 w2
  rw [given_ref hcan ha hn han] at w1
  have hl:=givenR_len at_ n S g4
  have hin:=zone_in (s:=S) (a:=at_) (n:=n)
  have hL:∀ z ∈ givenR S at_ n,0≤z.1∧0≤z.2∧z.1+z.2≤65536:=fun z hz=>by have:=hin z hz;omega
  have hask:∀ m,(m=n∨m+at_ ∈ adrs (givenR S at_ n))→0≤m∧at_+m≤65536:=fun m hm=>by
   rcases hm with rfl|hm
   ·exact ⟨hn,han⟩
   ·obtain ⟨z,hz,h1,h2⟩:=cut_adr hm
    have:=hin z hz
    omega
  have hask0:∀ m,(m=n∨m+at_ ∈ adrs (givenR S at_ n))→askM S at_ m=0:=fun m hm=>by
   obtain ⟨h1,h2⟩:=hask m hm
   unfold askM okZone
   rw [if_pos c0,if_pos (by simp;omega)]
  have z1:=p_zero (s:=mkS X P) hgm hL (by omega) ⟨ha,by omega⟩ hT (zd:=fun m=>(refSet S at_ m false).map pageA) (fun m=>plain_pages) (PureS.mk w1) (fun m hm=>by
   obtain ⟨h1,h2⟩:=hask m hm
   have w:=k_zeroed S at_ m (by omega) g4 fun _=>⟨hg,ha,h1,h2⟩
   rw [if_pos (hask0 m hm),hask0 m hm,turn_ref bit_off hcan ha h1 h2] at w
   exact PureS.mk w)
  have z2:=q_zero (s:=mkS X P) hgm hL (by omega) ⟨ha,by omega⟩ hT (zd:=fun m=>(refSet S at_ m false).map pageA) (fun m=>plain_pages) (PureS.mk w2) (fun m hm=>by
   obtain ⟨h1,h2⟩:=hask m hm
   have w:=k_rzeroed S at_ m (by omega) g4 fun _=>⟨by omega,hgood,ha,h1,h2⟩
   rw [if_pos (hask0 m hm),hask0 m hm] at w
   exact PureS.mk w)
  have hm:(zRes (mkS X P) (adrs (givenR S at_ n)) at_ n).1=n∨(zRes (mkS X P) (adrs (givenR S at_ n)) at_ n).1+at_ ∈ adrs (givenR S at_ n):=by
   unfold zRes
   cases hb:badA (mkS X P) (adrs (givenR S at_ n)) with
   | none=>exact .inl rfl
   | some a=>exact .inr (by show a - at_+at_ ∈ _;rw [Int.sub_add_cancel];exact List.mem_of_find?_eq_some hb)
  obtain ⟨h1,h2⟩:=hask _ hm
  have r2:=refSet_good (is:=false) hgood h2
  exact sys_walk (by omega) (by omega) hT hfar (good_wz hgm) plain_pages z1 z2 (PureS.mk (by
   have:=k_same (refSet S at_ (zRes (mkS X P) (adrs (givenR S at_ n)) at_ n).1 false) (refSet S at_ (zRes (mkS X P) (adrs (givenR S at_ n)) at_ n).1 false) (by omega) r2.2 (by omega) r2.2
   rwa [sameP_self] at this))
 ·have w1:=k_given S at_ n (by omega) g4 fun h=>absurd h h0
  have w2:=k_rgiven S at_ n (by omega) g4 fun h=>absurd h h0
  rw [if_neg h0] at w1 w2
  exact sys_walk (by omega) (by omega) hT hfar hgm plain_nils (p_zero_no hgm h0 hT (PureS.mk w1)) (q_zero_no h0 hT (PureS.mk w2)) (PureS.mk (by
   have:=(k_same [] [] (by simp) (fun p hp=>by cases hp) (by simp) (fun p hp=>by cases hp)).weak (WkAs.args (xs:=[.agg [.nils],.agg [.nils]]) ⟨wkA_agg ⟨wkA_nil,trivial⟩,wkA_agg ⟨wkA_nil,trivial⟩,trivial⟩)
   rwa [sameP_self] at this))
end
end Go.Proofs.YtkahmhmkhfllpaaDoor
