/-
 ZeroingReads: what the law's function returns: true,at any spans,bytes and zone.
-/
import Derived.Test.YtkahmhmkhfllpaaDoorXe
set_option linter.unusedSimpArgs false
set_option linter.unusedVariables false
namespace Go.Pol
open Go.Am
def zbk (at_ n p:Int) (b:Nat→Int) (k:Nat):Nat→Int:=fun j=>if j < k then zb at_ n p b j else b j
def leftK (at_ n p:Int) (b:Nat→Int) (k:Nat):Bool:=!decide (∀ j,j < k→zb at_ n p b j=0)
theorem zbk_0 {at_ n p:Int} {b:Nat→Int}:zbk at_ n p b 0=b:=by funext j;simp [zbk]
theorem left_0 {at_ n p:Int} {b:Nat→Int}:leftK at_ n p b 0=false:=by simp [leftK]
theorem zbk_in {at_ n p:Int} {b:Nat→Int} {k:Nat} (h:at_≤p * 64+(k:Nat)∧p * 64+(k:Nat) < at_+n):updI (zbk at_ n p b k) k 0=zbk at_ n p b (k+1)∧zbk at_ n p b (k+1) k=0:=by
 have hz:zb at_ n p b k=0:=if_pos h
 refine ⟨funext fun j=>?_,by unfold zbk;rw [if_pos (by omega),hz]⟩
 unfold updI zbk
 by_cases e:j=k
 ·subst e;rw [if_pos rfl,if_pos (by omega),hz]
 ·rw [if_neg e]
  by_cases hj:j < k
  ·rw [if_pos hj,if_pos (by omega)]
  ·rw [if_neg hj,if_neg (by omega)]
theorem zbk_out {at_ n p:Int} {b:Nat→Int} {k:Nat} (h:¬ (at_≤p * 64+(k:Nat)∧p * 64+(k:Nat) < at_+n)):zbk at_ n p b k=zbk at_ n p b (k+1):=by
 have hz:zb at_ n p b k=b k:=if_neg h
 funext j
 unfold zbk
 by_cases e:j=k
 ·subst e;rw [if_neg (by omega),if_pos (by omega),hz]
 ·by_cases hj:j < k
  ·rw [if_pos hj,if_pos (by omega)]
  ·rw [if_neg hj,if_neg (by omega)]
theorem left_s {at_ n p:Int} {b:Nat→Int} {k:Nat}:leftK at_ n p b (k+1)=(leftK at_ n p b k || decide (zbk at_ n p b (k+1) k ≠ 0)):=by
 have hz:zbk at_ n p b (k+1) k=zb at_ n p b k:=if_pos (by omega)
 rw [hz]
 unfold leftK
 apply Bool.eq_iff_iff.2
 simp only [Bool.not_eq_true',decide_eq_false_iff_not,Bool.or_eq_true,decide_eq_true_eq]
 constructor
 ·intro h
  by_cases h2:∀ j,j < k→zb at_ n p b j=0
  ·refine .inr fun h3=>h fun j hj=>?_
   by_cases e:j=k
   ·rw [e];exact h3
   ·exact h2 j (by omega)
  ·exact .inl h2
 ·rintro (h|h) h2
  ·exact h fun j hj=>h2 j (by omega)
  ·exact h (h2 k (by omega))
theorem left_64 {at_ n p:Int} {b:Nat→Int}:leftK at_ n p b 64 = !decide (zeroB (zb at_ n p b)):=by
 unfold leftK;congr 1
theorem by_64 {at_ n p:Int} {b:Nat→Int}:byA (zbk at_ n p b 64)=byA (zb at_ n p b):=by_inj.2 fun j hj=>if_pos hj
theorem want_take {at_ n:Int} {D:List Dt} {i:Nat} (h:i < D.length):wantD at_ n (D.take (i+1))=wantD at_ n (D.take i)++if zeroB (zb at_ n (nth dDt D i).p (nth dDt D i).b) then [] else [⟨(nth dDt D i).p,zb at_ n (nth dDt D i).p (nth dDt D i).b⟩]:=by
 rw [take_nth (d:=dDt) h,want_app];rfl
theorem given_len4 (a n:Int):∀ s:List (Int × List (Int × Int)),(∀ p ∈ s,p.2.length≤4)→(givenR s a n).length≤4 * s.length
 | [],_=>by simp [givenR]
 | p::s,h=>by
  have h1:=given_len4 a n s fun q hq=>h q (List.mem_cons_of_mem _ hq)
  have h2:=zonesP_len a n p.1 p.2
  have h3:=h p (List.mem_cons_self ..)
  simp only [givenR,List.flatMap_cons,List.length_append,List.length_cons,zonesP] at *;omega
theorem data_p {B:Nat→Nat→Int}:∀ m,m≤1024→∀ d ∈ dataTo B m,0≤d.p∧d.p < 1024
 | 0,_,d,hd=>by cases hd
 | m+1,h,d,hd=>by
  have ih:=data_p (B:=B) m (by omega)
  have hd:d ∈ (if zeroB (B m) then dataTo B m else dataTo B m++[⟨(m:Nat),B m⟩]):=hd
  split at hd
  ·exact ih d hd
  ·rcases List.mem_append.1 hd with hd|hd
   ·exact ih d hd
   ·rw [List.mem_singleton.1 hd];dsimp only;omega
end Go.Pol
namespace Go.Proofs.YtkahmhmkhfllpaaDoor
open Go Go.Am Go.Pol
theorem dt_set {p v:Int} {f:Nat→Int} {k:Nat}:(AV.int .i64 p::byA f).set (1+k) (.int .u8 v) = .int .i64 p::byA (updI f k v):=by
 rw [Nat.add_comm,List.set_cons_succ,by_set]
theorem dt_get {p:Int} {f:Nat→Int} {k:Nat} (h:k < 64):(AV.int .i64 p::byA f)[1+k]? = some (.int .u8 (f k)):=by
 rw [Nat.add_comm,List.getElem?_cons_succ,by_get h]
theorem dt_plain' {p:Int} {f:Nat→Int}:∀ x ∈ (AV.int .i64 p::byA f),Plain x:=dtA_plain ⟨p,f⟩
theorem plain_pgs {S:List Page}:Plain (.isl (S.map pageA)):=plain_pages
theorem pg1_plain {S:List Page}:∀ x ∈ [AV.isl (S.map pageA)],Plain x:=plain_1 plain_pages
theorem plx_Xf {p:Prop} (h:p:=by ((first|assumption|exact plain_int|exact plain_bool|exact plain_undef|exact plain_nils|exact plain_nilp|exact plain_nilf|exact plain_str|with_reducible apply plain_rl|with_reducible apply plain_rls|with_reducible apply plain_pl|with_reducible apply plain_ii|with_reducible apply plain_st|with_reducible apply plain_stE|with_reducible apply plain_pus|with_reducible apply plain_cus|with_reducible apply plain_made|with_reducible apply plain_z|with_reducible apply plain_zt|with_reducible apply plain_pgs|with_reducible apply plain_isls rnA_plain|with_reducible apply plain_isls inA_plain|with_reducible apply plain_isls dtA_plain|with_reducible apply plain_vs|fail);first|done|fail)):p:=h
theorem prx_Xf {p:Prop} (h:p:=by (((repeat' (first|exact plain_all0|refine plain_all2 ?_ ?_|exact plain_int|first|assumption|exact plain_int|exact plain_bool|exact plain_undef|exact plain_nils|exact plain_nilp|exact plain_nilf|exact plain_str|with_reducible apply plain_rl|with_reducible apply plain_rls|with_reducible apply plain_pl|with_reducible apply plain_ii|with_reducible apply plain_st|with_reducible apply plain_stE|with_reducible apply plain_pus|with_reducible apply plain_cus|with_reducible apply plain_made|with_reducible apply plain_z|with_reducible apply plain_zt|with_reducible apply plain_pgs|with_reducible apply plain_isls rnA_plain|with_reducible apply plain_isls inA_plain|with_reducible apply plain_isls dtA_plain|with_reducible apply plain_vs)));first|done|fail)):p:=h
theorem ppx_Xf {p:Prop} (h:p:=by ((first|with_reducible assumption|with_reducible apply rlA_plain _|with_reducible apply plain_flat rlA_plain|with_reducible apply stA_plain|with_reducible apply vsA_plain _|with_reducible apply b_plain|with_reducible apply a_plain|with_reducible apply plain_puA _|with_reducible apply plain_cutAl _|with_reducible apply dtA_plain _|with_reducible apply dt_plain'|with_reducible apply plain_flat dtA_plain|with_reducible apply pg1_plain|with_reducible apply plain_map (fun _=>plain_int)|with_reducible apply plain_map (fun _=>plain_bool)|exact prx_Xf|fail);first|done|fail)):p:=h
theorem wvx_Xf {p:Prop} (h:p:=by ((first|exact wk_undef|exact wk_int (by first|rfl|omega|(dsimp only;omega))|exact wk_bool rfl|exact wk_ptr rfl (by first|decide|simp|omega)|exact wk_sl rfl (by first|decide|simp|omega) (by first|rfl|omega|simp) (by first|omega|simp) (by first|omega|simp)|exact wk_nils|exact wk_own rfl (by first|decide|simp|omega)|exact wk_nil0 (by first|rfl|simp)|exact wk_slown rfl (by first|decide|omega|(simp;done)) (by first|omega|(simp;done)) (by first|rfl|omega|(simp;done)|(simp;omega))|exact wk_plain hs plx_Xf|(with_reducible refine wk_fn ?_ ?_<;>repeat' (first|with_reducible exact wkl_nil|with_reducible refine wkl_cons ?_ ?_|exact wk_ptr rfl (by first|decide|simp|omega)))|(with_reducible refine wk_agg ?_;repeat' (first|with_reducible exact wkl_nil|with_reducible refine wkl_cons ?_ ?_|exact wk_int (by first|rfl|omega|(dsimp only;omega))|exact wk_bool rfl))|exact wk_yld rfl (by first|decide|simp|omega)|fail);first|done|fail)):p:=h
theorem wkx_Xf {p:Prop} (h:p:=by (refine weak_s (by exact oneOf_of rfl) (by exact subH_of rfl) (by intro hs;(repeat' ((try (conv=>whnf));first|with_reducible exact True.intro|with_reducible refine And.intro ?_ ?_|(with_reducible refine WkX.mk ?_;first|exact wvx_Xf|fail)))) (by intro hs;(try dsimp only);(repeat' (first|with_reducible exact wko_nil|refine wko_plain hs (by first|decide|omega|simp) rfl (by first|rfl) (by (first|exact ppx_Xf|fail|((refine plain_app ?_ ?_)<;>(first|exact ppx_Xf|fail)))) ?_|refine wko_cells (by first|decide|omega|simp) rfl (by repeat' (first|with_reducible exact wkl_nil|with_reducible refine wkl_cons ?_ ?_|(first|exact wvx_Xf|fail))) ?_|refine wko_loop (by first|decide|omega|simp) rfl (by ((try subst hF);(try subst hF2);exact wkl_sd (wkf_sget (by (repeat' ((try (conv=>whnf));first|with_reducible exact True.intro|with_reducible refine And.intro ?_ ?_|(with_reducible refine WkX.mk ?_;first|exact wvx_Xf|fail))))))) ?_|exact wko_nil))))):p:=h
theorem wkx_Xf1 {p:Prop} (h:p:=by (refine weak_o (by rfl) (by rfl) (fun hz=>by first|exact absurd rfl hz|(simp [lk,lk_ownE hz];done)|exact lk_ownE hz|rfl) (by rfl) (dtA_plain) (by intro hs;(repeat' ((try (conv=>whnf));first|with_reducible exact True.intro|with_reducible refine And.intro ?_ ?_|(with_reducible refine WkX.mk ?_;first|exact wvx_Xf|fail)))) (by intro hs;(repeat' (first|with_reducible exact wko_nil|refine wko_plain hs (by first|decide|omega|simp) rfl (by first|rfl) (by (first|exact ppx_Xf|fail|((refine plain_app ?_ ?_)<;>(first|exact ppx_Xf|fail)))) ?_|refine wko_cells (by first|decide|omega|simp) rfl (by repeat' (first|with_reducible exact wkl_nil|with_reducible refine wkl_cons ?_ ?_|(first|exact wvx_Xf|fail))) ?_|refine wko_loop (by first|decide|omega|simp) rfl (by ((try subst hF);(try subst hF2);exact wkl_sd (wkf_sget (by (repeat' ((try (conv=>whnf));first|with_reducible exact True.intro|with_reducible refine And.intro ?_ ?_|(with_reducible refine WkX.mk ?_;first|exact wvx_Xf|fail))))))) ?_|exact wko_nil))))):p:=h
theorem wxf {p q:Prop} (hq:q) (h:HidP q→p:=by (intro hQz;((repeat' ((try (conv=>whnf));first|(with_reducible first|refine run_cons ?_|refine runq_cons ?_|refine code_seq ?_|refine code_reg ?_|refine code_cond ?_|refine run_nil ?_|refine runq_nil ?_|refine rund_op rfl ?_|refine rund_nil ?_|refine code_block ?_|refine code_skip ?_|refine code_exit ?_|refine code_ret ?_|refine code_range ?_|refine rund_fast (by decide +kernel) ?_|refine rund_slow (by decide +kernel) ?_|refine br_tt ?_|refine br_ff ?_|refine br_n ?_|refine br_and ?_|refine br_or ?_|refine br_t (by assumption) ?_|refine br_f (by assumption) ?_|refine eq_i64 (by omega) ?_|refine el_tn ?_)|((with_reducible refine br_dt ?_ ?_);focus omega)|((with_reducible refine br_df ?_ ?_);focus omega)|((with_reducible apply br_dq hQz)<;>(try intro hsp hQz))|((with_reducible refine ck_x ?_ ?_);focus (first|omega|rfl|assumption|decide|(simp only [List.length_map,List.length_cons,List.length_nil];omega)|(simp only [List.length_cons,by_len])))|(with_reducible first|refine eq_tn ?_|refine eq_tn1 ?_|refine eq_tn2 ?_|refine eq_m1 ?_|refine eq_m2 ?_|refine eq_zm ?_|refine eq_z ?_|refine len_map ?_|refine len_sl ?_|refine len_nils ?_|refine len_own' ?_|refine len_isl ?_|refine eq_u8 (by omega) ?_|refine eq_u16 (by omega) ?_)|refine el_row puA_len (by first|assumption|omega) (by with_reducible assumption) ?_|refine el_row dt_len (by first|assumption|omega) (by with_reducible assumption) ?_|refine eq_of (by with_reducible assumption) ?_|refine overK_of (by first|(simp only [List.length_cons,List.length_nil,by_len];omega)|fail) (over_y1 (by_len _)) ?_|refine takeK_of (by first|(rw [by_len];exact Nat.le_refl _)|fail) by_take ?_|refine nthK_of (by with_reducible assumption) ?_|refine set1K_of (by first|(simp only [List.length_cons,by_len];omega)|fail) (by with_reducible assumption) ?_|(with_reducible first|refine eq_rfl ?_|refine ChkX.mk (by kernel_rfl) ?_|refine code_d (by decide +kernel) ?_|refine end_go rfl ?_)|refine cx_locS (by assumption) rfl (by omega) ?_|refine dcx_locS (by assumption) rfl rfl ?_|refine cx_locY (by assumption) ?_|refine cx_pureS (by assumption) ?_|refine dcx_pureS (by assumption) ?_|refine apps_own (f:=dtA) (l2:=[⟨v,zb at_ n v b⟩]) dt_len (src_of rfl (by first|rfl|(simp;done)|(simp [*];done))) (fun hz=>by first|(simp [lk,lk_own,lk_ownS hz,lk_ownE hz];done)|rfl) (fun hz=>by first|(simp [lk,lk_own,lk_ownO,lk_tN hz,lk_ownN hz];done)|rfl) (by first|rfl|(simp [flat,dtA];done)|(simp [flat,dtA, *];done)) (by decide) ⟨by omega,by omega⟩ rfl ?_|((with_reducible apply appx_q hQz);intro hQa hQb;refine appx_own (f:=dtA) (l2:=[⟨v,zb at_ n v b⟩]) dt_len (src_of rfl (by first|rfl|(simp;done)|(simp [*];done))) (fun hz=>by first|(simp [lk,lk_own,lk_ownS hz,lk_ownE hz];done)|rfl) (by first|rfl|(simp [flat,dtA];done)|(simp [flat,dtA, *];done)) (by decide) ⟨by omega,by omega⟩ ?_ ?_<;>intro hzz<;>first|(have hQz:=HidP.mk (hQa.out hzz))|(have hQz:=HidP.mk (hQb.out hzz)))|refine len_map ?_|refine len_isl ?_|refine el_of rfl rfl ?_|refine del_own ?_|refine del_own' rfl ?_|refine as_go rfl ?_|refine rd_go rfl ?_|refine rg_end rfl ?_|refine flat_ownX ?_|refine EqLX.mk ?_|((with_reducible apply br_bq hQz)<;>(try intro hsp hQz))|exact hQz.out))<;>(try (conv=>whnf))))):p:=h ⟨hq⟩
section
variable {X P:List II} {at_ n:Int}
set_option maxHeartbeats 3200000 in
set_option maxRecDepth 20000 in
theorem reads_walk (hX:X.length≤20) (hP:P.length≤100) (h0:0≤at_) (h1:at_≤65536) (hn:0≤n) (han:n≤65536 - at_) :
  PureS 4 [.agg [.isl (X.map cutA),.isl (P.map puA)],.agg [.int .i64 at_,.int .i64 n]] (.bool true):=by
 have zg:=k_great (X:=X) (P:=P) (by omega) (by omega) (b:=false) (by simp;omega)
 have zm:=p_system (X:=X) (P:=P) hX hP
 have za:=awakeS
 have hgm:GoodS (mkS X P):=good_mk
 obtain ⟨hok,hsame⟩:=reads_plain (X:=X) (P:=P) h0 hn (by omega)
 have hall:=wri_all (s:=mkS X P) (P:=P)
 refine PureS.mk (pure_x hmix b4 plainG ⟨plain_made,plain_z,trivial⟩ plain_bool rfl ?_)
 unfold c4
 generalize mkS X P=s at *
 (refine wxf ?_;repeat' (first|with_reducible refine And.intro ?_ ?_|intro hsp))
 all_goals first|(exfalso;omega)|skip
 (refine loop_x [2,3,5,6] (fun (i:Nat)=>[(7,.int .i64 (i:Nat))]) (fun (i:Nat)=>⟨[(0,.cells [.isl (X.map cutA),.isl (P.map puA)]),(1,.cells [.int .i64 at_,.int .i64 n]),(2,.cells s.a),(3,.cells [.isl ((wrL' s (P.take i)).map pageA)])],4⟩) (fun (i:Nat)=>i≤P.length) (fun (i:Nat)=>P.length - i) (0) [] rfl (fun _=>by first|exact Nat.zero_le _|(dsimp only;omega)) ?_ (by ((try (conv=>whnf));(rw [show wrL' s (P.take 0)=[] from rfl,List.map_nil]);exact wkx_Xf)) ?_)
 ·exact Nat.zero_le _
 rintro i hi
 by_cases hil:i < P.length
 ·obtain ⟨W,hW⟩:=hall i hi
  have hnx:=wr_take (s:=s) hil
  obtain ⟨a,b,he⟩:∃ a b,nth (0,0) P i=(a,b):=⟨_,_,rfl⟩
  have hx:puA (nth (0,0) P i)=[.int .i64 a,.int .u8 b]:=by rw [he];rfl
  have zr:=p_read (s:=s) (a:=a)
  rw [he] at hnx
  unfold wrS at hnx
  dsimp only at hnx
  by_cases ho:okW s a=true
  ·rw [if_pos ho] at hnx
   obtain ⟨o1,o2,o3⟩:=okW_spec ho
   have hr:s.read a=(s.B (a.toNat / 64) (a.toNat % 64),0):=by unfold Sy.read;rw [if_neg (by omega),if_pos o3]
   rw [hr] at zr
   obtain ⟨c1,c2,c3,c4⟩:=wri_can hW
   have hk:askM (wrL' s (P.take i)) a 1=0:=by unfold askM okZone;rw [if_pos c2,if_pos (by simp;omega)]
   have w:=k_wrote (wrL' s (P.take i)) a 1 (by omega) (fun p hp=>by have:=c4 p hp;omega) fun _=>⟨(check_good c2).1,o1,by omega,by omega⟩
   rw [if_pos hk,hk,show (1:Int).toNat=1 from rfl,← hnx] at w
   have zw:PureS 17 [.agg [.isl ((wrL' s (P.take i)).map pageA)],.int .i64 a,.int .i64 1] (.tup [.agg [.isl ((wrL' s (P.take (i+1))).map pageA)],.int .i64 0]):=PureS.mk w
   (refine wxf ?_;repeat' (first|with_reducible refine And.intro ?_ ?_|intro hsp))
   all_goals first|(exfalso;omega)|skip
   all_goals exact next_x (i+1) [] (by (try dsimp only);omega) (by first|omega|(dsimp only;omega)) rfl (by exact wkx_Xf)
  ·rw [if_neg ho] at hnx
   have hr:(s.read a).2 ≠ 0:=by
    unfold Sy.read
    split
    ·exact (by decide:(7:Int) ≠ 0)
    ·rename_i h
     split
     ·rename_i h2;exact absurd (by simp only [okW,decide_eq_true_eq];exact ⟨by omega,by omega,h2⟩) ho
     ·exact (by decide:(61:Int) ≠ 0)
   generalize s.read a=r at *
   obtain ⟨v,e⟩:=r
   dsimp only at zr hr
   (refine wxf ?_;repeat' (first|with_reducible refine And.intro ?_ ?_|intro hsp))
   all_goals first|(exfalso;omega)|skip
   all_goals exact next_x (i+1) [] (by (try dsimp only);omega) (by first|omega|(dsimp only;omega)) rfl (by ((try dsimp only);rw [hnx]);exact wkx_Xf)
 obtain ⟨W,hW⟩:=hall P.length (Nat.le_refl _)
 rw [List.take_of_length_le (show P.length≤i by omega)]
 rw [List.take_length] at hW
 generalize wrL' s P=S at *
 obtain ⟨c1,c2,c3,c4⟩:=wri_can hW
 have c5:∀ p ∈ S,p.2.length≤100:=fun p hp=>by have:=c4 p hp;omega
 have hg:=(check_good c2).1
 have hask:∀ m:Int,0≤m→at_+m≤65536→askM S at_ m=0:=fun m h2 h3=>by unfold askM okZone;rw [if_pos c2,if_pos (by simp;omega)]
 have wg:=k_given S at_ n (by omega) c5 fun _=>⟨hg,h0,hn,by omega⟩
 rw [if_pos (hask n hn (by omega)),hask n hn (by omega),given_ref c1 h0 hn (by omega)] at wg
 have hin:=zone_in (s:=S) (a:=at_) (n:=n)
 have hlen:=given_len4 at_ n S c4
 have wc:=k_cost S at_ n 0 _ (by omega) (fun z hz=>by have:=hin z hz;omega) wg
 have zc:PureS 18 [.agg [.isl (S.map pageA)],.int .i64 at_,.int .i64 n] (.tup [.int .i64 (sumL (givenR S at_ n)),.int .i64 0]):=PureS.mk wc
 have hsum:=adrs_sum (L:=givenR S at_ n) fun z hz=>(hin z hz).2.1
 have hrng:∀ m:Int,(m=n∨m+at_ ∈ adrs (givenR S at_ n))→0≤m∧at_+m≤65536:=fun m hm=>by
  rcases hm with rfl|hm
  ·exact ⟨hn,by omega⟩
  ·obtain ⟨z,hz,h2,h3⟩:=cut_adr hm
   have:=hin z hz
   omega
 have zz:=p_zero (s:=s) (L:=givenR S at_ n) (at_:=at_) (n:=n) hgm (fun z hz=>by have:=hin z hz;omega) (by omega) ⟨h0,by omega⟩ plain_pages (zd:=fun m=>(stateM (turnM opOff (openM S) at_.toNat m.toNat) 1024).map pageA) (fun m=>plain_pages) (PureS.mk wg) (fun m hm=>by
  obtain ⟨h2,h3⟩:=hrng m hm
  have w:=k_zeroed S at_ m (by omega) c5 fun _=>⟨hg,h0,h2,h3⟩
  rw [if_pos (hask m h2 h3),hask m h2 h3] at w
  exact PureS.mk w)
 obtain ⟨p1,p2⟩:=pre_all (s:=s) hok
 have hzr:zRes s (adrs (givenR S at_ n)) at_ n=(n,(adrs (givenR S at_ n)).length,0):=by unfold zRes;rw [p2]
 rw [hzr,p1,hsum] at zz
 dsimp only at zz
 have hg2:GoodS (wz s (adrs (givenR S at_ n))):=good_wz hgm
 have z1:=p_save hgm
 have z2:=p_save hg2
 have hDp:=data_p (B:=s.B) 1024 (Nat.le_refl _)
 have hDl:=data_len (B:=s.B) (n:=1024)
 have hRl:=runs_len (K:=s.K) (n:=1024)
 have hUl:=huge_len (G:=s.G) (n:=1024)
 have hll:=(chkS_ok hgm.hv).2.1
 generalize sumL (givenR S at_ n)=w at *
 generalize wz s (adrs (givenR S at_ n))=t at *
 obtain ⟨R,hR⟩:∃ R,R=runsTo s.K 1024:=⟨_,rfl⟩
 obtain ⟨U,hU⟩:∃ U,U=hugeTo s.G 1024:=⟨_,rfl⟩
 obtain ⟨D,hD⟩:∃ D,D=dataTo s.B 1024:=⟨_,rfl⟩
 have hsv:s.save=⟨R,U,D,s.l,s.C,s.H⟩:=by rw [hR,hU,hD];rfl
 rw [hsv] at z1 hsame
 rw [← hR] at hRl
 rw [← hU] at hUl
 rw [← hD] at hDp hDl
 dsimp only at hsame
 obtain ⟨R',U',D',l',C',H',hsv'⟩:∃ R' U' D' l' C' H',t.save=⟨R',U',D',l',C',H'⟩:=⟨_,_,_,_,_,_,rfl⟩
 rw [hsv'] at z2 hsame
 have hwl:=want_len (at_:=at_) (n:=n) (l:=D)
 have zq:=r_same (x:=⟨R,U,wantD at_ n D,s.l,s.C,s.H⟩) (y:=⟨R',U',D',l',C',H'⟩) (by dsimp only;omega) (by dsimp only;omega) (by dsimp only;omega) (by dsimp only;omega) (b:=true) ⟨fun _=>hsame,fun _=>rfl⟩
 clear hsame
 simp only [vsA,stA] at z1 z2 zq
 generalize s.l=l at *
 generalize s.C=C at *
 generalize s.H=H at *
 generalize (stateM (turnM opOff (openM S) at_.toNat n.toNat) 1024).map pageA=zp at *
 (refine wxf ?_;repeat' (first|with_reducible refine And.intro ?_ ?_|intro hsp))
 all_goals first|(exfalso;omega)|skip
 (refine loop_x [3,12,18] (fun (i:Nat)=>[(19,ownV 7 65 (wantD at_ n (D.take i)).length),(20,.int .i64 (i:Nat))]) (fun (i:Nat)=>⟨[(1,.cells [.int .i64 at_,.int .i64 n]),(4,.cells [.isl (R.map rnA),.isl (U.map inA),.isl (D.map dtA),.isl (l.map rlA),.int .i64 (C 0),.int .i64 (C 1),.int .i64 (C 2),.int .i64 (C 3),.int .i64 (C 4),.int .i64 (C 5),.int .i64 (C 6),.int .i64 (H 0),.int .i64 (H 1),.int .i64 (H 2),.int .i64 (H 3),.int .i64 (H 4),.int .i64 (H 5),.int .i64 (H 6)]),(6,.cells [.isl (R'.map rnA),.isl (U'.map inA),.isl (D'.map dtA),.isl (l'.map rlA),.int .i64 (C' 0),.int .i64 (C' 1),.int .i64 (C' 2),.int .i64 (C' 3),.int .i64 (C' 4),.int .i64 (C' 5),.int .i64 (C' 6),.int .i64 (H' 0),.int .i64 (H' 1),.int .i64 (H' 2),.int .i64 (H' 3),.int .i64 (H' 4),.int .i64 (H' 5),.int .i64 (H' 6)])]++ownH 7 dtA (wantD at_ n (D.take i)),8⟩) (fun (i:Nat)=>i≤D.length) (fun (i:Nat)=>D.length - i) (0) [] rfl (fun _=>by first|exact Nat.zero_le _|(dsimp only;omega)) ?_ (by ((try (conv=>whnf));(rw [show wantD at_ n (D.take 0)=[] from rfl]);exact wkx_Xf1)) ?_)
 ·exact Nat.zero_le _
 intro i hi
 by_cases hil:i < D.length
 ·have hwt:=want_take (at_:=at_) (n:=n) hil
  have hdp:=hDp _ (nth_mem (d:=dDt) hil)
  have hwl2:=want_len (at_:=at_) (n:=n) (l:=D.take i)
  have hwl3:=List.length_take_le i D
  generalize wantD at_ n (D.take i)=Q at *
  obtain ⟨v,b,he⟩:∃ v b,nth dDt D i=⟨v,b⟩:=⟨_,_,rfl⟩
  rw [he] at hwt hdp
  dsimp only at hwt hdp
  obtain ⟨dd,hdd⟩:∃ dd:Dt,dd=⟨v,zb at_ n v b⟩:=⟨_,rfl⟩
  have hx:dtA (nth dDt D i) = .int .i64 v::byA b:=by rw [he];rfl
  have hbl:=by_len b
  (refine wxf ?_;repeat' (first|with_reducible refine And.intro ?_ ?_|intro hsp))
  all_goals first|(exfalso;omega)|skip
  (refine loop_x [3,12,18,19,20,21] (fun (k:Nat)=>[(22,.bool (leftK at_ n v b k)),(23,.int .i64 (k:Nat))]) (fun (k:Nat)=>⟨[(8,.cells (.int .i64 v::byA (zbk at_ n v b k))),(1,.cells [.int .i64 at_,.int .i64 n]),(4,.cells [.isl (R.map rnA),.isl (U.map inA),.isl (D.map dtA),.isl (l.map rlA),.int .i64 (C 0),.int .i64 (C 1),.int .i64 (C 2),.int .i64 (C 3),.int .i64 (C 4),.int .i64 (C 5),.int .i64 (C 6),.int .i64 (H 0),.int .i64 (H 1),.int .i64 (H 2),.int .i64 (H 3),.int .i64 (H 4),.int .i64 (H 5),.int .i64 (H 6)]),(6,.cells [.isl (R'.map rnA),.isl (U'.map inA),.isl (D'.map dtA),.isl (l'.map rlA),.int .i64 (C' 0),.int .i64 (C' 1),.int .i64 (C' 2),.int .i64 (C' 3),.int .i64 (C' 4),.int .i64 (C' 5),.int .i64 (C' 6),.int .i64 (H' 0),.int .i64 (H' 1),.int .i64 (H' 2),.int .i64 (H' 3),.int .i64 (H' 4),.int .i64 (H' 5),.int .i64 (H' 6)])]++ownH 7 dtA Q,9⟩) (fun (k:Nat)=>k≤64) (fun (k:Nat)=>64 - k) (0) [] rfl (fun _=>by first|exact Nat.zero_le _|(dsimp only;omega)) ?_ (by ((try (conv=>whnf));(rw [left_0,zbk_0]);exact wkx_Xf1)) ?_)
  ·exact Nat.zero_le _
  intro k hk
  by_cases hk2:k < 64
  ·have hls:=left_s (at_:=at_) (n:=n) (p:=v) (b:=b) (k:=k)
   by_cases hz:at_≤v * 64+(k:Nat)∧v * 64+(k:Nat) < at_+n
   ·obtain ⟨hzi,hz0⟩:=zbk_in (b:=b) hz
    rw [hz0] at hls
    rw [show decide ((0:Int) ≠ 0)=false from rfl,Bool.or_false] at hls
    have hset:(AV.int .i64 v::byA (zbk at_ n v b k)).set (1+k) (.int .u8 0) = .int .i64 v::byA (zbk at_ n v b (k+1)):=by rw [dt_set,hzi]
    have hnth:(AV.int .i64 v::byA (zbk at_ n v b (k+1)))[1+k]? = some (.int .u8 0):=by rw [dt_get hk2,hz0]
    cases hlk:leftK at_ n v b k<;>rw [hlk] at hls
    all_goals
     (refine wxf ?_;repeat' (first|with_reducible refine And.intro ?_ ?_|intro hsp))
     all_goals first|(exfalso;omega)|skip
     all_goals exact next_x (k+1) [] (by (try dsimp only);omega) (by first|omega|(dsimp only;omega)) rfl (by ((try dsimp only);rw [hls]);exact wkx_Xf1)
   ·have hzo:=zbk_out (b:=b) hz
    rw [hzo]
    have hnth:(AV.int .i64 v::byA (zbk at_ n v b (k+1)))[1+k]? = some (.int .u8 (zbk at_ n v b (k+1) k)):=dt_get hk2
    by_cases hb0:zbk at_ n v b (k+1) k=0
    ·rw [hb0] at hls hnth
     rw [show decide ((0:Int) ≠ 0)=false from rfl,Bool.or_false] at hls
     cases hlk:leftK at_ n v b k<;>rw [hlk] at hls
     all_goals
      (refine wxf ?_;repeat' (first|with_reducible refine And.intro ?_ ?_|intro hsp))
      all_goals first|(exfalso;omega)|skip
      all_goals exact next_x (k+1) [] (by (try dsimp only);omega) (by first|omega|(dsimp only;omega)) rfl (by ((try dsimp only);rw [hls]);exact wkx_Xf1)
    ·rw [decide_eq_true (p:=¬ _=_) hb0,Bool.or_true] at hls
     generalize zbk at_ n v b (k+1) k=u at hnth hb0
     cases hlk:leftK at_ n v b k
     ·have hls2:leftK at_ n v b (k+1) = !decide (u=0):=by rw [hls,decide_eq_false hb0];rfl
      (refine wxf ?_;repeat' (first|with_reducible refine And.intro ?_ ?_|intro hsp))
      all_goals first|(exfalso;omega)|skip
      all_goals exact next_x (k+1) [] (by (try dsimp only);omega) (by first|omega|(dsimp only;omega)) rfl (by ((try dsimp only);rw [hls2]);exact wkx_Xf1)
     ·(refine wxf ?_;repeat' (first|with_reducible refine And.intro ?_ ?_|intro hsp))
      all_goals first|(exfalso;omega)|skip
      all_goals exact next_x (k+1) [] (by (try dsimp only);omega) (by first|omega|(dsimp only;omega)) rfl (by ((try dsimp only);rw [hls]);exact wkx_Xf1)
  ·obtain rfl:k=64:=by omega
   rw [left_64,by_64]
   by_cases hz:zeroB (zb at_ n v b)
   ·rw [if_pos hz,List.append_nil] at hwt
    rw [decide_eq_true hz]
    (refine wxf ?_;repeat' (first|with_reducible refine And.intro ?_ ?_|intro hsp))
    all_goals first|(exfalso;omega)|skip
    all_goals exact next_x (i+1) [] (by (try dsimp only);omega) (by first|omega|(dsimp only;omega)) rfl (by ((try dsimp only);rw [hwt]);exact wkx_Xf1)
   ·rw [if_neg hz] at hwt
    rw [decide_eq_false hz]
    (refine wxf ?_;repeat' (first|with_reducible refine And.intro ?_ ?_|intro hsp))
    all_goals first|(exfalso;omega)|skip
    all_goals exact next_x (i+1) [(7,10)] (by (try dsimp only);omega) (by first|omega|(dsimp only;omega)) rfl (by ((try dsimp only);rw [hwt]);exact wkx_Xf1)
 rw [List.take_of_length_le (show D.length≤i by omega)]
 generalize wantD at_ n D=Q at *
 have hst:∀ x ∈ stA l C H,Plain x:=stA_plain
 have hvp:Plain (.agg (vsA ⟨R',U',D',l',C',H'⟩)):=plain_vs
 simp only [vsA] at hvp
 unfold stA at hst hvp
 by_cases hQ:Q.length=0
 ·obtain rfl:=List.eq_nil_of_length_eq_zero hQ
  rw [List.length_nil,own_z,ownH_z rfl]
  (refine wxf ?_;repeat' (first|with_reducible refine And.intro ?_ ?_|intro hsp))
  all_goals first|(exfalso;omega)|skip
  all_goals
   refine cx_fnU (fnU_frzR [] zq.out plainG ⟨frz_agg ⟨frz_plain (plain_isls rnA_plain),frz_plain (plain_isls inA_plain),frz_nils,frzl_plain hst⟩,frz_plain hvp,trivial⟩ scal_bool) ?_
   (refine wxf ?_;repeat' (first|with_reducible refine And.intro ?_ ?_|intro hsp))
   all_goals first|(exfalso;omega)|exact end_bool rfl
 ·rw [own_s hQ,ownH_s hQ]
  (refine wxf ?_;repeat' (first|with_reducible refine And.intro ?_ ?_|intro hsp))
  all_goals first|(exfalso;omega)|skip
  all_goals
   refine cx_fnU (fnU_frzR [7] zq.out plainG ⟨frz_agg ⟨frz_plain (plain_isls rnA_plain),frz_plain (plain_isls inA_plain),frz_row dt_len dtA_plain (by simp) rfl rfl,frzl_plain hst⟩,frz_plain hvp,trivial⟩ scal_bool) ?_
   (refine wxf ?_;repeat' (first|with_reducible refine And.intro ?_ ?_|intro hsp))
   all_goals first|(exfalso;omega)|exact end_bool rfl
set_option maxHeartbeats 1600000 in
theorem reads_far {b:Bool} (zg:PureS 5 [.agg [.isl (X.map cutA),.isl (P.map puA)]] (.bool b)) (h:b=true∨at_ < 0∨65536 < at_∨n < 0∨65536 - at_ < n) :
  PureS 4 [.agg [.isl (X.map cutA),.isl (P.map puA)],.agg [.int .i64 at_,.int .i64 n]] (.bool true):=by
 have za:=awakeS
 refine PureS.mk (pure_x hmix b4 plainG ⟨plain_made,plain_z,trivial⟩ plain_bool rfl ?_)
 unfold c4
 generalize X.map cutA=X' at *
 generalize P.map puA=P' at *
 by_cases h1:at_ < 0
 ·cases b
  all_goals
   (refine wxf ?_;repeat' (first|with_reducible refine And.intro ?_ ?_|intro hsp))
   all_goals first|(exfalso;omega)|exact end_bool rfl
 by_cases h2:65536 < at_
 ·cases b
  all_goals
   (refine wxf ?_;repeat' (first|with_reducible refine And.intro ?_ ?_|intro hsp))
   all_goals first|(exfalso;omega)|exact end_bool rfl
 by_cases h3:n < 0
 ·cases b
  all_goals
   (refine wxf ?_;repeat' (first|with_reducible refine And.intro ?_ ?_|intro hsp))
   all_goals first|(exfalso;omega)|exact end_bool rfl
 by_cases h4:65536 - at_ < n
 ·cases b
  all_goals
   (refine wxf ?_;repeat' (first|with_reducible refine And.intro ?_ ?_|intro hsp))
   all_goals first|(exfalso;omega)|exact end_bool rfl
 cases b
 ·exfalso;rcases h with h|h
  ·cases h
  ·omega
 ·(refine wxf ?_;repeat' (first|with_reducible refine And.intro ?_ ?_|intro hsp))
  all_goals first|(exfalso;omega)|exact end_bool rfl
theorem k_reads (hX:X.length≤9223372036854775807) (hP:P.length≤9223372036854775807):PureS 4 [.agg [.isl (X.map cutA),.isl (P.map puA)],.agg [.int .i64 at_,.int .i64 n]] (.bool true):=by
 by_cases hgr:20 < X.length∨100 < P.length
 ·exact reads_far (k_great hX hP (b:=true) (by simp [hgr])) (.inl rfl)
 by_cases hz:at_ < 0∨65536 < at_∨n < 0∨65536 - at_ < n
 ·exact reads_far (k_great hX hP rfl) (.inr hz)
 exact reads_walk (by omega) (by omega) (by omega) (by omega) (by omega) (by omega)
end
end Go.Proofs.YtkahmhmkhfllpaaDoor
