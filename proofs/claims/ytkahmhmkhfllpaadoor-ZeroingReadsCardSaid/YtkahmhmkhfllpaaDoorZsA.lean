/-
 Layer 15,Given,Cost and Clean: what the reference's return.
 Layer 15,Given: what the program's returns.
 Layer 15's plain law of Given: what the program gives of a valid state is what the reference gives. No program in sight.
-/
import Derived.Test.YtkahmhmkhfllpaaDoorZrD
set_option linter.unusedSimpArgs false
set_option linter.unusedVariables false
namespace Go.Pol
def zoneOf (a n p:Int) (c:Cut):List Cut:=if max (p * 64+c.1) a < min (p * 64+c.1+c.2) (a+n) then [(max (p * 64+c.1) a,min (p * 64+c.1+c.2) (a+n) - max (p * 64+c.1) a)] else []
def zonesP (a n:Int) (p:Page):List Cut:=p.2.flatMap (zoneOf a n p.1)
def givenR (s:List Page) (a n:Int):List Cut:=s.flatMap (zonesP a n)
def sumL (l:List Cut):Int:=(l.map (·.2)).sum
theorem zoneOf_len (a n p:Int) (c:Cut):(zoneOf a n p c).length≤1:=by unfold zoneOf;split<;>simp
theorem zonesP_len (a n:Int) (q:Int):∀ l:List Cut,(l.flatMap (zoneOf a n q)).length≤l.length
 | []=>by simp
 | c::l=>by
  have:=zonesP_len a n q l
  have:=zoneOf_len a n q c
  simp only [List.flatMap_cons,List.length_append,List.length_cons];omega
theorem sum_take {l:List Cut} {k:Nat} (h:k < l.length):sumL (l.take (k+1))=sumL (l.take k)+(nth (0,0) l k).2:=by
 rw [sumL,take_nth (d:=(0,0)) h];simp [sumL]
theorem sum_bound {n:Int}:∀ l:List Cut,(∀ z ∈ l,0≤z.2∧z.2≤n)→0≤sumL l∧sumL l≤l.length * n
 | [],_=>by simp [sumL]
 | z::l,h=>by
  have:=sum_bound l fun y hy=>h y (List.mem_cons_of_mem _ hy)
  have h1:=h z (List.mem_cons_self ..)
  have e:((l.length+1:Nat):Int) * n=l.length * n+n:=by rw [Int.natCast_add,Int.add_mul];simp
  simp only [sumL,List.map_cons,List.sum_cons,List.length_cons] at *
  omega
end Go.Pol
namespace Go.Proofs.YtkahmhmkhfllpaaDoor
open Go Go.Am Go.Pol
end Go.Proofs.YtkahmhmkhfllpaaDoor
namespace Go.Pol
def cutsAt (M:Nat→Nat) (a sz:Nat):List Cut:=(cutsM (M (a / 64) &&& runM ((a % 64:Nat),(sz:Nat)))).map fun c=>(((a / 64:Nat):Int) * 64+c.1,c.2)
def givenF:Nat→(Nat→Nat)→Nat→Nat→List Cut
 | 0, _, _, _ => []
 | f+1,M,a,n=>if n=0 then [] else cutsAt M a (min n (64 - a % 64))++givenF f M (a+min n (64 - a % 64)) (n - min n (64 - a % 64))
theorem givenF_fuel:∀ (f g:Nat) (M:Nat→Nat) (a n:Nat),n≤f→n≤g→givenF f M a n=givenF g M a n
 | 0,0,_,_,_,_,_=>rfl
 | 0,g+1,M,a,n,h,_=>by
  have : n=0:=by omega
  subst this;simp [givenF]
 | f+1,0,M,a,n,_,h=>by
  have : n=0:=by omega
  subst this;simp [givenF]
 | f+1,g+1,M,a,n,h1,h2=>by
  unfold givenF
  split
  ·rfl
  ·rw [givenF_fuel f g _ _ _ (by omega) (by omega)]
def givenP (M:Nat→Nat) (a n:Nat):List Cut:=givenF n M a n
theorem givenP_step {M:Nat→Nat} {a n:Nat} (h:n ≠ 0):givenP M a n=cutsAt M a (min n (64 - a % 64))++givenP M (a+min n (64 - a % 64)) (n - min n (64 - a % 64)):=by
 unfold givenP
 obtain ⟨f,rfl⟩:=Nat.exists_eq_succ_of_ne_zero h
 rw [givenF,if_neg h,givenF_fuel f _ _ _ _ (by omega) (Nat.le_refl _)]
theorem givenP_zero {M:Nat→Nat} {a:Nat}:givenP M a 0=[]:=rfl
theorem zone_1 {L C:List Cut} {f:Cut→Cut}:L++(C.take 0).map f=L:=by simp
theorem bits_and {a b:Nat} (ha:a < 18446744073709551616) (hb:b < 18446744073709551616):bits .and .u64 (a:Int) (b:Int)=((a &&& b:Nat):Int):=by
 have:=Go.Am.and_u64 ha hb
 simp only [Go.Am.binV,if_true,Option.some.injEq,Go.Am.AV.int.injEq,true_and] at this
 exact this
end Go.Pol
namespace Go.Proofs.YtkahmhmkhfllpaaDoor
open Go Go.Am Go.Pol
theorem wkx_Gv {p:Prop} (h:p:=by (refine weak_o (by rfl) (by rfl) (fun hz=>by first|exact absurd rfl hz|(simp [lk,lk_ownE hz];done)|exact lk_ownE hz|rfl) (by rfl) (cell_plain) (by intro hs;(repeat' ((try (conv=>whnf));first|with_reducible exact True.intro|with_reducible refine And.intro ?_ ?_|(with_reducible refine WkX.mk ?_;first|exact wvx_Yn|fail)))) (by intro hs;(repeat' (first|with_reducible exact wko_nil|refine wko_plain hs (by first|decide|omega|simp) rfl (by first|rfl) (by (first|exact ppx_Yn|fail|((refine plain_app ?_ ?_)<;>(first|exact ppx_Yn|fail)))) ?_|refine wko_cells (by first|decide|omega|simp) rfl (by repeat' (first|with_reducible exact wkl_nil|with_reducible refine wkl_cons ?_ ?_|(first|exact wvx_Yn|fail))) ?_|refine wko_loop (by first|decide|omega|simp) rfl (by ((try subst hF);(try subst hF2);exact wkl_sd (wkf_sget (by (repeat' ((try (conv=>whnf));first|with_reducible exact True.intro|with_reducible refine And.intro ?_ ?_|(with_reducible refine WkX.mk ?_;first|exact wvx_Yn|fail))))))) ?_|exact wko_nil))))):p:=h
theorem wx_Gv {p q:Prop} (hq:q) (h:HidP q→p:=by (intro hQz;((repeat' ((try (conv=>whnf));first|(with_reducible first|refine run_cons ?_|refine runq_cons ?_|refine code_seq ?_|refine code_reg ?_|refine code_cond ?_|refine run_nil ?_|refine runq_nil ?_|refine rund_op rfl ?_|refine rund_nil ?_|refine code_block ?_|refine code_skip ?_|refine code_exit ?_|refine code_ret ?_|refine code_range ?_|refine rund_fast (by decide +kernel) ?_|refine rund_slow (by decide +kernel) ?_|refine br_tt ?_|refine br_ff ?_|refine br_n ?_|refine br_and ?_|refine br_or ?_|refine br_t (by assumption) ?_|refine br_f (by assumption) ?_|refine eq_i64 (by omega) ?_|refine el_tn ?_)|((with_reducible refine br_dt ?_ ?_);focus omega)|((with_reducible refine br_df ?_ ?_);focus omega)|((with_reducible apply br_dq hQz)<;>(try intro hsp hQz))|((with_reducible refine ck_x ?_ ?_);focus (first|omega|rfl|assumption|decide|(simp only [List.length_map,List.length_cons,List.length_nil];omega)))|(with_reducible first|refine eq_tn ?_|refine eq_tn1 ?_|refine eq_tn2 ?_|refine eq_m1 ?_|refine eq_m2 ?_|refine eq_zm ?_|refine eq_z ?_|refine len_map ?_|refine len_sl ?_|refine len_nils ?_|refine len_own' ?_|refine len_isl ?_|refine eq_u8 (by omega) ?_|refine eq_u16 (by omega) ?_)|refine el_map (0,0) cut_len (by omega) ?_|(with_reducible first|refine eq_rfl ?_|refine ChkX.mk (by kernel_rfl) ?_|refine code_q rfl ?_|refine code_d (by decide +kernel) ?_|refine end_go rfl ?_)|refine apps_own (f:=cutA) (l2:=[(((a / 64:Nat):Int) * 64+(nth (0,0) C k).1,(nth (0,0) C k).2)]) cut_len (src_of rfl rfl) (fun hz=>by first|(simp [lk,lk_ownE hz];done)|exact lk_ownE hz) (fun hz=>by first|(simp [lk,lk_ownN hz];done)|exact lk_ownN hz) rfl (by decide) ⟨by omega,by omega⟩ rfl ?_|(refine appx_own (f:=cutA) (l2:=[(((a / 64:Nat):Int) * 64+(nth (0,0) C k).1,(nth (0,0) C k).2)]) cut_len (src_of rfl rfl) (fun hz=>by first|(simp [lk,lk_ownE hz];done)|exact lk_ownE hz) rfl (by decide) ⟨by omega,by omega⟩ ?_ ?_<;>intro hzz)|refine cx_pure (hka) ?_|refine qcx (hka) ?_|refine dcx_pure (hka) ?_|(refine cx_in hmix b44 rfl ?_;unfold c44)|refine cx_loc (l1:=[(1,.cells (arr (openM s)))]) [] hlo plainG rfl .nil (rnl_plain (PlainL.all ⟨plain_state,trivial⟩)) (by first|(simp;done)|fail) (rn_ptr (j:=1) rfl) (.cons rfl (rnl_plain (arr_plain _)) .nil) ?_|refine len_map ?_|refine len_isl ?_|refine el_of rfl rfl ?_|refine del_own ?_|refine del_own' rfl ?_|refine as_go rfl ?_|refine rd_go rfl ?_|refine rg_end rfl ?_|refine flat_ownX ?_|refine EqLX.mk ?_|((with_reducible apply br_bq hQz)<;>(try intro hsp hQz))|exact hQz.out))<;>(try (conv=>whnf))))):p:=h ⟨hq⟩
theorem wx_Gvn {p q:Prop} (hq:q) (h:HidP q→p:=by (intro hQz;((repeat' ((try (conv=>whnf));first|(with_reducible first|refine run_cons ?_|refine runq_cons ?_|refine code_seq ?_|refine code_reg ?_|refine code_cond ?_|refine run_nil ?_|refine runq_nil ?_|refine rund_op rfl ?_|refine rund_nil ?_|refine code_block ?_|refine code_skip ?_|refine code_exit ?_|refine code_ret ?_|refine code_range ?_|refine rund_fast (by decide +kernel) ?_|refine rund_slow (by decide +kernel) ?_|refine br_tt ?_|refine br_ff ?_|refine br_n ?_|refine br_and ?_|refine br_or ?_|refine br_t (by assumption) ?_|refine br_f (by assumption) ?_|refine eq_i64 (by omega) ?_|refine el_tn ?_)|((with_reducible refine br_dt ?_ ?_);focus omega)|((with_reducible refine br_df ?_ ?_);focus omega)|((with_reducible apply br_dq hQz)<;>(try intro hsp hQz))|((with_reducible refine ck_x ?_ ?_);focus (first|omega|rfl|assumption|decide|(simp only [List.length_map,List.length_cons,List.length_nil];omega)|exact hr|exact hq|exact hmin|exact bits_and (hU (a / 64)) hrm))|refine eq_of (hr) ?_|refine eq_of (hq) ?_|refine eq_of (hmin) ?_|refine eq_of (bits_and (hU (a / 64)) hrm) ?_|(with_reducible first|refine eq_tn ?_|refine eq_tn1 ?_|refine eq_tn2 ?_|refine eq_m1 ?_|refine eq_m2 ?_|refine eq_zm ?_|refine eq_z ?_|refine len_map ?_|refine len_sl ?_|refine len_nils ?_|refine len_own' ?_|refine len_isl ?_|refine eq_u8 (by omega) ?_|refine eq_u16 (by omega) ?_)|refine nthK_of (arr_get hpg) ?_|(with_reducible first|refine eq_rfl ?_|refine ChkX.mk (by kernel_rfl) ?_|refine code_d (by decide +kernel) ?_|refine end_go rfl ?_)|refine cx_pure (k_bytes _ _ hbad) ?_|refine qcx (k_bytes _ _ hbad) ?_|refine dcx_pure (k_bytes _ _ hbad) ?_|refine cx_pure (k_cuts _ hand) ?_|refine qcx (k_cuts _ hand) ?_|refine dcx_pure (k_cuts _ hand) ?_|refine cx_yldE hmix rfl hF hA hB rfl ?_|refine len_map ?_|refine len_isl ?_|refine el_of rfl rfl ?_|refine del_own ?_|refine del_own' rfl ?_|refine as_go rfl ?_|refine rd_go rfl ?_|refine rg_end rfl ?_|refine flat_ownX ?_|refine EqLX.mk ?_|((with_reducible apply br_bq hQz)<;>(try intro hsp hQz))|exact hQz.out))<;>(try (conv=>whnf))))):p:=h ⟨hq⟩
set_option maxHeartbeats 1600000 in
set_option maxRecDepth 20000 in
theorem k_given (s:List Page) (a n:Int) (hs:s.length≤2000) (hc:∀ p ∈ s,p.2.length≤100) (hok:askM s a n=0→(∀ p ∈ s,0≤p.1∧p.1 < 1024∧∀ c ∈ p.2,badCut c=false)∧0≤a∧0≤n∧a+n≤65536) :
  PureC Tryd.prog G0 19 [stateA s,.int .i64 a,.int .i64 n] (.tup [cutsA (if askM s a n=0 then givenP (openM s) a.toNat n.toNat else []),.int .i64 (askM s a n)]):=by
 refine pure_x hmix b19 plainG ⟨plain_state,plain_int,plain_int,trivial⟩ (plain_tup (plain_two plain_cuts plain_int)) rfl ?_
 have hka:=k_ask s a n hs hc
 unfold c19
 by_cases h0:askM s a n=0
 ·obtain ⟨hg,ha,hn,han⟩:=hok h0
  have hlo:=l_open s hs hc hg
  have hU:=openM_u64 (fun p hp=>(hg p hp).2.2)
  rw [h0] at hka ⊢
  rw [if_pos rfl]
  obtain ⟨A,rfl⟩:=Int.eq_ofNat_of_zero_le ha
  obtain ⟨M,rfl⟩:=Int.eq_ofNat_of_zero_le hn
  simp only [Int.toNat_natCast,stateA,pagesA] at *
  (refine wx_Gv ?_;repeat' (first|with_reducible refine And.intro ?_ ?_|intro hsp))
  refine range_x hmix b60 rfl trivial ?_
  intro frl asl bdl hF hA hB
  unfold c60
  (refine wx_Gv ?_;repeat' (first|with_reducible refine And.intro ?_ ?_|intro hsp))
  (refine loop_x [0,1,2] (fun (q:List Cut × Nat × Nat)=>[]) (fun (q:List Cut × Nat × Nat)=>⟨[(0,.cells [.isl (s.map pageA)]),(1,.cells (arr (openM s))),(2,.cells [.ptr 1 0]),(3,.cells [ownV 7 2 q.1.length]),(4,.cells [.int .i64 (q.2.1:Nat)]),(5,.cells [.int .i64 (q.2.2:Nat)]),(6,.loop .ready none frl [27,28] asl bdl)]++ownH 7 cutA q.1,8⟩) (fun (q:List Cut × Nat × Nat)=>q.1++givenP (openM s) q.2.1 q.2.2=givenP (openM s) A M∧q.2.1+q.2.2=A+M∧q.1.length+64 * q.2.2≤64 * M) (fun (q:List Cut × Nat × Nat)=>q.2.2) (([],A,M)) [] rfl (fun _=>by first|exact Nat.zero_le _|(dsimp only;omega)) ?_ (by ((try (conv=>whnf));exact wkx_Gv)) ?_)
  ·exact ⟨rfl,rfl,by simp⟩
  rintro ⟨L,a,m⟩ ⟨ht,ham,hLm⟩
  dsimp only at ht ham hLm ⊢
  generalize openM s=W at *
  by_cases hm:m=0
  ·subst hm
   rw [givenP_zero,List.append_nil] at ht
   (refine wx_Gv ?_;repeat' (first|with_reducible refine And.intro ?_ ?_|intro hsp))
   rw [← ht]
   exact end_wk (wk_tup ⟨wk_frzO cut_len cell_plain fun hz=>lk_ownE hz,wk_int rfl,trivial⟩)
  ·have hr:((a:Nat):Int).tmod 64=((a % 64:Nat):Int):=by rw [Int.tmod_eq_emod_of_nonneg (by omega)];omega
   have hq:IntKind.i64.wrap (((a:Nat):Int).tdiv 64)=((a / 64:Nat):Int):=by
    rw [Int.tdiv_eq_ediv_of_nonneg (by omega),IntWalk.i64_in _ (by omega)];omega
   have hmin:min (m:Int) ((64:Int) - ((a % 64:Nat):Int))=((min m (64 - a % 64):Nat):Int):=by omega
   have hstep:=givenP_step (M:=W) (a:=a) hm
   have hsz:1≤min m (64 - a % 64)∧min m (64 - a % 64)≤m∧min m (64 - a % 64)≤64 - a % 64:=by omega
   generalize hszz:min m (64 - a % 64)=sz at *
   have hbad:badCut ((a % 64:Nat),(sz:Nat))=false:=by simp only [badCut,decide_eq_false_iff_not];omega
   have hrm:U64 (runM ((a % 64:Nat),(sz:Nat))):=bad_u64 hbad
   have hpg:a / 64 < 1024:=by omega
   have hcl:=runs_length (W (a / 64) &&& runM ((a % 64:Nat),(sz:Nat))).testBit 64
   have hand:U64 (W (a / 64) &&& runM ((a % 64:Nat),(sz:Nat))):=Nat.lt_of_le_of_lt Nat.and_le_left (hU _)
   (refine wx_Gvn ?_;repeat' (first|with_reducible refine And.intro ?_ ?_|intro hsp))
   have hct:cutsAt W a sz=(cutsM (W (a / 64) &&& runM ((a % 64:Nat),(sz:Nat)))).map fun c=>(((a / 64:Nat):Int) * 64+c.1,c.2):=rfl
   have hsep:Sep 0 (cutsM (W (a / 64) &&& runM ((a % 64:Nat),(sz:Nat)))):=runs_sep _
   have hcl:(cutsM (W (a / 64) &&& runM ((a % 64:Nat),(sz:Nat)))).length≤64:=hcl
   generalize cutsM (W (a / 64) &&& runM ((a % 64:Nat),(sz:Nat)))=C at *
   (refine loop_x [10,11,36,37] (fun (k:Nat)=>[(38,.int .i64 (k:Nat))]) (fun (k:Nat)=>⟨[(0,.cells [.isl (s.map pageA)]),(1,.cells (arr W)),(2,.cells [.ptr 1 0]),(3,.cells [ownV 14 2 (L++(C.take k).map fun c=>(((a / 64:Nat):Int) * 64+c.1,c.2)).length]),(4,.cells [.int .i64 (a:Nat)]),(5,.cells [.int .i64 (m:Nat)]),(6,.loop .busy none frl [27,28] asl bdl)]++ownH 14 cutA (L++(C.take k).map fun c=>(((a / 64:Nat):Int) * 64+c.1,c.2)),15⟩) (fun (k:Nat)=>k≤C.length) (fun (k:Nat)=>C.length - k) (0) [(14,7)] rfl (fun _=>by first|exact Nat.zero_le _|(dsimp only;omega)) ?_ (by ((try (conv=>whnf));(rw [zone_1]);exact wkx_Gv)) ?_)
   ·exact Nat.zero_le _
   intro k hk
   by_cases hkl:k < C.length
   ·have hst:(C.take (k+1)).map (fun c:Cut=>((((a / 64:Nat):Int) * 64+c.1,c.2):Cut))=(C.take k).map (fun c=>(((a / 64:Nat):Int) * 64+c.1,c.2))++[(((a / 64:Nat):Int) * 64+(nth (0,0) C k).1,(nth (0,0) C k).2)]:=by
     rw [take_nth (d:=(0,0)) hkl];simp
    have hg:=hsep.at_ hkl
    have hll:(L++(C.take k).map (fun c:Cut=>((((a / 64:Nat):Int) * 64+c.1,c.2):Cut))).length≤5000000:=by simp;omega
    generalize (C.take k).map (fun c:Cut=>((((a / 64:Nat):Int) * 64+c.1,c.2):Cut))=L1 at *
    (refine wx_Gv ?_;repeat' (first|with_reducible refine And.intro ?_ ?_|intro hsp))
    exact next_x (k+1) [(14,17)] (by (try dsimp only);omega) (by first|omega|(dsimp only;omega)) rfl (by ((try dsimp only);rw [hst,← List.append_assoc]);exact wkx_Gv)
   ·rw [List.take_of_length_le (by omega)]
    (refine wx_Gvn ?_;repeat' (first|with_reducible refine And.intro ?_ ?_|intro hsp))
    rw [hct] at hstep
    exact next_x (L++C.map (fun c:Cut=>((((a / 64:Nat):Int) * 64+c.1,c.2):Cut)),a+sz,m - sz) [(7,14)] ⟨by rw [List.append_assoc,← hstep];exact ht,by dsimp only;omega,by simp;omega⟩ (by first|omega|(dsimp only;omega)) rfl (by exact wkx_Gv)
 ·rw [if_neg h0]
  simp only [stateA,pagesA] at *
  (refine wx_Gv ?_;repeat' (first|with_reducible refine And.intro ?_ ?_|intro hsp))
  exact end_wk (wk_tup ⟨wk_nils,wk_int rfl,trivial⟩)
end Go.Proofs.YtkahmhmkhfllpaaDoor
namespace Go.Pol
def clip (f n:Int) (c:Cut):List Cut:=if max c.1 f < min (c.1+c.2) (f+n) then [(max c.1 f,min (c.1+c.2) (f+n) - max c.1 f)] else []
theorem sep_mono:∀ {l:List Cut} {a b:Int},a≤b→Sep b l→Sep a l
 | [],_,_,_,_=>trivial
 | c::l,a,b,h,hs=>⟨by have:=hs.1;omega,hs.2⟩
theorem sep_clip (f n:Int):∀ {l:List Cut} {a:Int},Sep a l→Sep a (l.flatMap (clip f n))
 | [],_,_=>trivial
 | c::l,a,h=>by
  obtain ⟨h1,h2,h3,h4⟩:=h
  have ih:=sep_clip f n h4
  simp only [List.flatMap_cons]
  unfold clip
  split
  ·rename_i hc
   exact ⟨by dsimp only;omega,by dsimp only;omega,by dsimp only;omega,sep_mono (by dsimp only;omega) ih⟩
  ·exact sep_mono (by omega) ih
theorem in_clip (f n:Int) (b:Nat):∀ l:List Cut,inCuts (l.flatMap (clip f n)) b=(inCuts l b && decide (f≤(b:Int)∧(b:Int) < f+n))
 | []=>by simp [inCuts]
 | c::l=>by
  have ih:=in_clip f n b l
  simp only [List.flatMap_cons]
  have e:∀ x y:List Cut,inCuts (x++y) b=(inCuts x b || inCuts y b):=fun x y=>by simp [inCuts]
  have e2:∀ (x:Cut) (y:List Cut),inCuts (x::y) b=(inCuts [x] b || inCuts y b):=fun x y=>by simp [inCuts]
  rw [e,ih,e2 c l]
  have : inCuts (clip f n c) b=(inCuts [c] b && decide (f≤(b:Int)∧(b:Int) < f+n)):=by
   rw [Bool.eq_iff_iff]
   unfold clip
   split<;>simp [inCuts]<;>omega
  rw [this,Bool.and_or_distrib_right]
theorem clip_cuts {C:List Cut} (hC:Sep 0 C) (f n:Nat):cutsM (unionM C &&& runM ((f:Int),(n:Int)))=C.flatMap (clip f n):=by
 have hD:=sep_clip f n hC
 rw [← cutsM_union hD]
 congr 1
 refine Nat.eq_of_testBit_eq fun b=>?_
 rw [Nat.testBit_and,unionM_bit _ fun d hd=>by have:=hC.all d hd;omega,unionM_bit _ fun d hd=>by have:=hD.all d hd;omega,runM_bit _ (by dsimp only;omega) (by dsimp only;omega),in_clip]
theorem zone_clip (q f:Nat) (n:Int) (c:Cut):zoneOf ((q * 64+f:Nat):Int) n (q:Nat) c=(clip f n c).map fun d=>((q:Int) * 64+d.1,d.2):=by
 unfold zoneOf clip
 by_cases h:max c.1 (f:Int) < min (c.1+c.2) (f+n)
 ·rw [if_pos h,if_pos (by omega)]
  simp only [List.map_cons,List.map_nil,List.cons.injEq,and_true,Prod.mk.injEq]
  omega
 ·rw [if_neg h,if_neg (by omega)];rfl
theorem flatMap_one {α β:Type} {l:List α} {f g:α→List β} (h:∀ x ∈ l,f x=g x):l.flatMap f=l.flatMap g:=by
 induction l with
 | nil=>rfl
 | cons x l ih=>simp only [List.flatMap_cons];rw [h x (List.mem_cons_self ..),ih fun y hy=>h y (List.mem_cons_of_mem _ hy)]
theorem flatMap_no {α β:Type} {l:List α} {f:α→List β} (h:∀ x ∈ l,f x=[]):l.flatMap f=[]:=by
 induction l with
 | nil=>rfl
 | cons x l ih=>simp only [List.flatMap_cons];rw [h x (List.mem_cons_self ..),ih fun y hy=>h y (List.mem_cons_of_mem _ hy)];rfl
theorem range_split {β:Type} {f g:Nat→List β} {q:Nat} {X:List β} (h1:∀ k,k < q→f k=[]∧g k=[]) (h2:f q=X∧g q=[]) (h3:∀ k,q < k→f k=g k):∀ N,(List.range N).flatMap f=(if q < N then X else [])++(List.range N).flatMap g
 | 0=>by simp
 | N+1=>by
  rw [List.range_succ,List.flatMap_append,List.flatMap_append,range_split h1 h2 h3 N]
  simp only [List.flatMap_cons,List.flatMap_nil,List.append_nil]
  rcases Nat.lt_trichotomy N q with h|h|h
  ·rw [if_neg (by omega),if_neg (by omega),(h1 N h).1,(h1 N h).2];simp
  ·subst h
   rw [if_neg (by omega),if_pos (by omega),h2.1,h2.2,flatMap_no fun k hk=>(h1 k (List.mem_range.1 hk)).2]
   simp
  ·rw [if_pos h,if_pos (by omega),h3 N h,List.append_assoc]
theorem givenR_stC (c:Nat→List Cut) (a n:Int):∀ N,givenR (stC c N) a n=(List.range N).flatMap fun k=>(c k).flatMap (zoneOf a n (k:Nat))
 | 0=>rfl
 | N+1=>by
  rw [stC,List.range_succ,List.flatMap_append,← givenR_stC c a n N]
  split
  ·rename_i h;simp [h]
  ·simp [givenR,zonesP]
theorem givenP_stC {N:Nat} {c:Nat→List Cut} {M:Nat→Nat} (hM:∀ k,k < N→M k=unionM (c k)) (hc:∀ k,Sep 0 (c k)):∀ (n a:Nat),a+n≤64 * N→givenP M a n=(List.range N).flatMap fun k=>(c k).flatMap (zoneOf (a:Nat) (n:Nat) (k:Nat)):=by
 have cut:∀ k,∀ d ∈ c k,0≤d.1∧1≤d.2∧d.1+d.2≤64:=fun k d hd=>by have:=(hc k).all d hd;omega
 intro n
 induction n using Nat.strongRecOn with
 | ind n ih =>
  intro a han
  by_cases h0:n=0
  ·subst h0
   rw [givenP_zero,flatMap_no]
   intro k _
   refine flatMap_no fun d hd=>?_
   unfold zoneOf;rw [if_neg (by omega)]
  ·rw [givenP_step h0,ih (n - min n (64 - a % 64)) (by omega) _ (by omega)]
   generalize hsz:min n (64 - a % 64)=sz
   have hq:a / 64 < N:=by omega
   have key:cutsAt M a sz=(c (a / 64)).flatMap (zoneOf (a:Nat) (n:Nat) ((a / 64:Nat):Int)):=by
    unfold cutsAt
    rw [hM _ hq,clip_cuts (hc _),List.map_flatMap]
    refine flatMap_one fun d hd=>?_
    have hd:=cut _ d hd
    have e:a=a / 64 * 64+a % 64:=by omega
    rw [show ((a:Nat):Int)=((a / 64 * 64+a % 64:Nat):Int) by rw [← e],zone_clip]
    congr 1
    unfold clip
    have e3:min (d.1+d.2) (((a % 64:Nat):Int)+(sz:Nat))=min (d.1+d.2) (((a % 64:Nat):Int)+(n:Nat)):=by omega
    rw [e3]
   rw [key]
   have rs:=range_split (f:=fun k=>(c k).flatMap (zoneOf (a:Nat) (n:Nat) (k:Nat))) (g:=fun k=>(c k).flatMap (zoneOf ((a+sz:Nat):Int) ((n - sz:Nat):Int) (k:Nat))) (q:=a / 64) (X:=(c (a / 64)).flatMap (zoneOf (a:Nat) (n:Nat) ((a / 64:Nat):Int))) ?_ ?_ ?_ N
   ·rw [rs,if_pos hq]
   ·exact fun k hk=>⟨flatMap_no fun d hd=>by have hd:=cut _ d hd;unfold zoneOf;rw [if_neg (by omega)],flatMap_no fun d hd=>by have hd:=cut _ d hd;unfold zoneOf;rw [if_neg (by omega)]⟩
   ·exact ⟨rfl,flatMap_no fun d hd=>by have hd:=cut _ d hd;unfold zoneOf;rw [if_neg (by omega)]⟩
   ·refine fun k hk=>flatMap_one fun d hd=>?_
    have hd:=cut _ d hd
    unfold zoneOf
    by_cases hs:sz=n
    ·rw [if_neg (by omega),if_neg (by omega)]
    ·have e1:max ((k:Int) * 64+d.1) (a:Nat)=max ((k:Int) * 64+d.1) ((a+sz:Nat):Int):=by omega
     have e2:((a:Nat):Int)+(n:Nat)=((a+sz:Nat):Int)+((n - sz:Nat):Int):=by omega
     rw [e1,e2]
theorem given_ref {s:List Page} {a n:Int} (hs:Can (-1) s) (ha:0≤a) (hn:0≤n) (han:a+n≤65536):givenP (openM s) a.toNat n.toNat=givenR s a n:=by
 obtain ⟨A,rfl⟩:=Int.eq_ofNat_of_zero_le ha
 obtain ⟨B,rfl⟩:=Int.eq_ofNat_of_zero_le hn
 simp only [Int.toNat_natCast]
 have hc:=can_cuts hs
 have key:givenP (openM (stC (cutsIn s) 1024)) A B=givenR (stC (cutsIn s) 1024) A B:=by
  rw [givenR_stC,givenP_stC (N:=1024) (c:=cutsIn s) (fun k hk=>by rw [openM_stC,if_pos hk]) (fun k=>(hc k).1) B A (by omega)]
 rwa [can_stC hs] at key
end Go.Pol
