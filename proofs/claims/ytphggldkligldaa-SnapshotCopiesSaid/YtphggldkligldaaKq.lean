/-
 SnapshotCopies.
-/
import Derived.Test.YtphggldkligldaaKy
import Derived.Test.YtphggldkligldaaNr
set_option linter.unusedSimpArgs false
set_option linter.unusedVariables false
namespace Go.Proofs.Ytphggldkligldaa.Sh
open Go Go.Am Go.Pol
theorem plx_Kq {p:Prop} (h:p:=by ((first|assumption|exact plain_int|exact plain_bool|exact plain_undef|exact plain_nils|exact plain_nilp|exact plain_nilf|exact plain_str|with_reducible apply plain_int|with_reducible apply plain_bool|with_reducible apply plain_vwC|with_reducible apply plain_vwE|with_reducible apply plain_vs|with_reducible apply plain_stA|with_reducible apply plain_ns|with_reducible apply plain_bc|with_reducible apply plain_none|with_reducible apply plain_is|with_reducible apply plain_pl|with_reducible apply plain_rls|with_reducible apply plain_sna|with_reducible apply plain_acs|with_reducible apply plain_py _|with_reducible apply plain_ac _|fail);first|done|fail)):p:=h
theorem prx_Kq {p:Prop} (h:p:=by (((repeat' (first|exact plain_all0|refine plain_all2 ?_ ?_|exact plain_int|first|assumption|exact plain_int|exact plain_bool|exact plain_undef|exact plain_nils|exact plain_nilp|exact plain_nilf|exact plain_str|with_reducible apply plain_int|with_reducible apply plain_bool|with_reducible apply plain_vwC|with_reducible apply plain_vwE|with_reducible apply plain_vs|with_reducible apply plain_stA|with_reducible apply plain_ns|with_reducible apply plain_bc|with_reducible apply plain_none|with_reducible apply plain_is|with_reducible apply plain_pl|with_reducible apply plain_rls|with_reducible apply plain_sna|with_reducible apply plain_acs|with_reducible apply plain_py _|with_reducible apply plain_ac _)));first|done|fail)):p:=h
theorem ppx_Kq {p:Prop} (h:p:=by ((first|with_reducible assumption|with_reducible apply cells_plain|with_reducible apply ends_plain|with_reducible apply cnt_plain|with_reducible apply memI_plain _ _|with_reducible apply vw_plain|with_reducible apply nat_plain|with_reducible apply a_plain|with_reducible apply b_plain|with_reducible apply rdK_plain|with_reducible apply bc_plain|with_reducible apply plain_flat int1_plain|with_reducible apply py_plain _|with_reducible apply ac_plain _|with_reducible apply plain_map (fun _=>plain_int)|with_reducible apply plain_map (fun _=>plain_bool)|exact prx_Kq|fail);first|done|fail)):p:=h
theorem wvx_Kq {p:Prop} (h:p:=by ((first|exact wk_undef|exact wk_int (by first|rfl|omega|(dsimp only;omega))|exact wk_bool rfl|exact wk_ptr rfl (by first|decide|simp|omega)|exact wk_map rfl (by first|decide|simp|omega)|exact wk_sl rfl (by first|decide|simp|omega) (by first|rfl|omega|simp) (by first|omega|simp) (by first|omega|simp)|exact wk_own rfl (by first|decide|simp|omega)|exact wk_nil0 (by first|rfl|simp)|exact wk_slown rfl (by first|decide|omega|(simp;done)) (by first|omega|(simp;done)) (by first|rfl|omega|(simp;done)|(simp;omega))|exact wk_plain hs plx_Kq|(with_reducible refine wk_fn ?_ ?_<;>repeat' (first|with_reducible exact wkl_nil|with_reducible refine wkl_cons ?_ ?_|exact wk_ptr rfl (by first|decide|simp|omega)))|(with_reducible refine wk_agg ?_;repeat' (first|with_reducible exact wkl_nil|with_reducible refine wkl_cons ?_ ?_|exact wk_int (by first|rfl|omega|(dsimp only;omega))|exact wk_bool rfl))|exact wk_yld rfl (by first|decide|simp|omega)|(with_reducible refine wk_tup ?_;repeat' (first|with_reducible exact wkl_nil|with_reducible refine wkl_cons ?_ ?_|exact wk_int (by first|rfl|omega|(dsimp only;omega))|exact wk_bool rfl|exact wk_ptr rfl (by first|decide|simp|omega)))|fail);first|done|fail)):p:=h
theorem wkx_Kq {p:Prop} (h:p:=by (refine weak_s (by exact oneOf_of rfl) (by exact subH_of rfl) (by intro hs;(repeat' ((try (conv=>whnf));first|with_reducible exact True.intro|with_reducible refine And.intro ?_ ?_|(with_reducible refine WkX.mk ?_;first|exact wvx_Kq|fail)))) (by intro hs;(try dsimp only);(repeat' (first|with_reducible exact wko_nil|refine wko_tab hs (by first|decide|omega|simp) rfl rfl (by first|decide|omega|simp) rfl (by first|decide|omega|simp) ?_|refine wko_maps hs (by first|decide|omega|simp) rfl rfl key_plain ?_|refine wko_plain hs (by first|decide|omega|simp) rfl (by first|rfl) (by (first|exact ppx_Kq|fail|((refine plain_app ?_ ?_)<;>(first|exact ppx_Kq|fail)))) ?_|refine wko_cells (by first|decide|omega|simp) rfl (by repeat' (first|with_reducible exact wkl_nil|with_reducible refine wkl_cons ?_ ?_|(first|exact wvx_Kq|fail))) ?_|refine wko_loop (by first|decide|omega|simp) rfl (by ((try subst hF);(try subst hF2);exact wkl_sd (wkf_sget (by (repeat' ((try (conv=>whnf));first|with_reducible exact True.intro|with_reducible refine And.intro ?_ ?_|(with_reducible refine WkX.mk ?_;first|exact wvx_Kq|fail))))))) ?_|exact wko_nil))))):p:=h
theorem wx_Kq {p q:Prop} (hq:q) (h:HidP q→p:=by (intro hQz;((repeat' ((try (conv=>whnf));first|(with_reducible first|refine run_cons ?_|refine runq_cons ?_|refine code_seq ?_|refine code_reg ?_|refine code_cond ?_|refine run_nil ?_|refine runq_nil ?_|refine rund_op rfl ?_|refine rund_nil ?_|refine code_block ?_|refine code_skip ?_|refine code_exit ?_|refine code_ret ?_|refine code_range ?_|refine rund_fast (by decide +kernel) ?_|refine rund_slow (by decide +kernel) ?_|refine br_tt ?_|refine br_ff ?_|refine br_n ?_|refine br_and ?_|refine br_or ?_|refine br_t (by assumption) ?_|refine br_f (by assumption) ?_|refine eq_i64 (by omega) ?_|refine el_tn ?_)|((with_reducible refine br_dt ?_ ?_);focus omega)|((with_reducible refine br_df ?_ ?_);focus omega)|((with_reducible apply br_dq hQz)<;>(try intro hsp hQz))|((with_reducible refine ck_x ?_ ?_);focus (first|omega|rfl|assumption|decide|(simp only [List.length_map,List.length_cons,List.length_nil];omega)))|(with_reducible first|refine eq_tn ?_|refine eq_tn1 ?_|refine eq_tn2 ?_|refine eq_m1 ?_|refine eq_m2 ?_|refine eq_zm ?_|refine eq_z ?_|refine len_map ?_|refine len_sl ?_|refine len_nils ?_|refine len_own' ?_|refine len_isl ?_|refine eq_u8 (by omega) ?_|refine eq_u16 (by omega) ?_)|refine el_mapE (d:=dA) acE_len (by first|assumption|omega) (by with_reducible assumption) ?_|refine eq_of (by with_reducible assumption) ?_|refine el_mapE (d:=dV) vw_len (by first|assumption|omega) (by with_reducible assumption) ?_|(with_reducible first|refine eq_rfl ?_|refine ChkX.mk (by kernel_rfl) ?_|refine code_q rfl ?_|refine code_d (by decide +kernel) ?_|refine end_go rfl ?_)|refine cx_pureS (by assumption) ?_|refine cx_BE hb ?_|refine cx_BB hb ?_|refine cx_A ha rfl rfl rfl rfl rfl rfl rfl rfl (by decide) rfl ?_|refine cx_b0 hc1 rfl rfl rfl rfl rfl rfl rfl rfl (by decide) rfl ?_|refine cx_b0 hc2 rfl rfl rfl rfl rfl rfl rfl rfl (by decide) rfl ?_|refine cx_b0 hsv rfl rfl rfl rfl rfl rfl rfl rfl (by decide) rfl ?_|refine cx_b0 hdi rfl rfl rfl rfl rfl rfl rfl rfl (by decide) rfl ?_|refine len_map ?_|refine len_isl ?_|refine el_of rfl rfl ?_|refine del_own ?_|refine del_own' rfl ?_|refine as_go rfl ?_|refine rd_go rfl ?_|refine rg_end rfl ?_|refine flat_ownX ?_|refine EqLX.mk ?_|((with_reducible apply br_bq hQz)<;>(try intro hsp hQz))|exact hQz.out))<;>(try (conv=>whnf))))):p:=h ⟨hq⟩
set_option maxHeartbeats 6400000 in
set_option maxRecDepth 20000 in
theorem k_copies {p:Py} (hl:p.X.length≤maxLen) (hw:∀ x ∈ p.X,0≤x.w):PureS 3 [.agg (pyE p)] (.bool true):=by
 obtain ⟨fb,hfar,hok⟩:=k_far p hl
 have hsh:=k_shown
 refine PureS.mk (pure_x hmix b3 plainG ⟨plain_py p,trivial⟩ plain_bool rfl ?_)
 unfold c3
 cases fb with
 | true =>
  unfold pyE at hfar ⊢
  (refine wx_Kq ?_;repeat' (first|with_reducible refine And.intro ?_ ?_|intro hsp))
  all_goals first|exact end_bool rfl|(exfalso;omega)
 | false =>
  have hok:=hok rfl
  rcases l_begun p with ⟨e,he,hb⟩ | ⟨e,ds,he,hb⟩ | ⟨h1,h2,h3,hb⟩
  ·unfold pyE at hfar hb ⊢
   (refine wx_Kq ?_;repeat' (first|with_reducible refine And.intro ?_ ?_|intro hsp))
   all_goals first|exact end_bool rfl|(exfalso;omega)
  ·unfold pyE at hfar hb ⊢
   (refine wx_Kq ?_;repeat' (first|with_reducible refine And.intro ?_ ?_|intro hsp))
   all_goals first|exact end_bool rfl|(exfalso;omega)
  ·obtain ⟨g1,-,-,-,-⟩:=py_good h1 h2 h3
   obtain ⟨T,hT0,hT,hst⟩:=al_chain (b:=p.b) hw g1 tok_0
   have hR0:p.b.run p.X 0=p.b:=rfl
   have hRs:=fun k=>run_s (b:=p.b) (X:=p.X) (k:=k)
   have hG:=run_good (X:=p.X) g1
   have h40:=hok.1
   unfold pyE at hfar hb ⊢
   generalize p.b.run p.X=R at *
   generalize p.b=b0 at *
   generalize T0=t0 at *
   (refine wx_Kq ?_;repeat' (first|with_reducible refine And.intro ?_ ?_|intro hsp))
   (refine loop_x [1,3,4] (fun (k:Nat)=>[(6,.int .i64 (k:Nat))]) (fun (k:Nat)=>⟨[(0,.cells [.int .i64 p.a,.int .i64 p.n,.isl (p.l.map rlA),.isl (p.X.map acE)])]++bkN (R k) (T k) 1 2 3 4 5 6 7 8,9⟩) (fun (k:Nat)=>k≤p.X.length) (fun (k:Nat)=>p.X.length - k) (0) [] rfl (fun _=>by first|exact Nat.zero_le _|(dsimp only;omega)) ?_ (by ((try (conv=>whnf));(rw [hR0,hT0]);exact wkx_Kq)) ?_)
   ·exact Nat.zero_le _
   intro k hk
   unfold bkN rdN
   by_cases hkl:k < p.X.length
   ·have ha:=hst k hkl
    have hTk:=hT k hk
    have hTn:=hT (k+1) hkl
    have hGk:=hG k
    have hGn:=hG (k+1)
    have hRk:=hRs k
    have hc1:=b_Counts hGk hTk
    have hsv:=b_Save hTk
    have hc2:=b_Counts hGn hTn
    have hul1:=used_le hGk
    have hul2:=used_le hGn
    have hrn:=hGn.rng
    have hw0:=hw _ (nth_mem (d:=dA) hkl)
    have hm:(nth dA p.X k).w.tmod 14=(((nth dA p.X k).w.toNat % 14:Nat):Int):=by rw [Int.tmod_eq_emod_of_nonneg hw0];omega
    have hlen:=hGk.len
    clear hT hst hG hRs hw hfar hb hR0 hT0
    generalize hx:nth dA p.X k=x at *
    obtain ⟨w,hwe⟩:∃ w,w=x.w.toNat % 14:=⟨_,rfl⟩
    have hwl:w < 14:=by rw [hwe];exact Nat.mod_lt _ (by decide)
    have hal:=al_is (b:=R k) (x:=x) hwe.symm
    rw [← hwe] at hm
    by_cases he:((R k).al x).1=0
    ·rw [he] at ha
     by_cases c35:w=3∨w=5
     ·have hdf:∃ a b:Nat,x.a=(a:Int)∧x.b=(b:Int)∧a < 64∧b < 64∧(R (k+1)).difN a b 1024=[]:=by
       rcases c35 with rfl|rfl
       ·have he:((R k).take x.a x.b).2.1=0:=by rw [hal] at he;exact he
        have hR:R (k+1)=((R k).take x.a x.b).2.2:=by rw [hRk,hal];rfl
        obtain ⟨i1,i2⟩:=take_in he
        obtain ⟨a,e1,l1⟩:=nat_in i1
        obtain ⟨b,e2,l2⟩:=nat_in i2
        have hd:=take_same hGk x.a x.b he
        rw [e1,e2,differ_N (by omega) (by omega)] at hd
        refine ⟨a,b,e1,e2,by omega,by omega,?_⟩
        rw [hR,e1,e2];exact (Prod.mk.inj hd).1
       ·have he:((R k).revert x.a x.b).2.1=0:=by rw [hal] at he;exact he
        have hR:R (k+1)=((R k).revert x.a x.b).2.2:=by rw [hRk,hal];rfl
        obtain ⟨i1,i2⟩:=revert_in he
        obtain ⟨a,e1,l1⟩:=nat_in i1
        obtain ⟨b,e2,l2⟩:=nat_in i2
        have hd:=revert_same hGk x.a x.b he
        rw [e1,e2,differ_N (by omega) (by omega)] at hd
        refine ⟨a,b,e1,e2,by omega,by omega,?_⟩
        rw [hR,e1,e2];exact (Prod.mk.inj hd).1
      obtain ⟨a,b,e1,e2,l1,l2,hd⟩:=hdf
      have hdi:=b_Differ hGn hTn l1 l2
      rw [hd,← e1,← e2] at hdi
      clear hd he hal hRk
      generalize (R k).used=u1 at *
      generalize (R k).idle=u2 at *
      generalize (R k).many=u3 at *
      generalize (R (k+1)).used=v1 at *
      generalize (R (k+1)).idle=v2 at *
      generalize (R (k+1)).many=v3 at *
      (refine wx_Kq ?_;repeat' (first|with_reducible refine And.intro ?_ ?_|intro hsp))
      all_goals first|(exfalso;omega)|(exfalso;simp at hsp;done)|exact next_x (k+1) [] (by (try dsimp only);omega) (by first|omega|(dsimp only;omega)) rfl (by exact wkx_Kq)
     ·by_cases c69:6≤w∧w≤9
      ·have hcw:(R k).call w x.a x.b x.t x.v x.l=(R k).write x.a x.t x.v:=by
        unfold Bk.call
        rw [if_neg (by omega),if_neg (by omega),if_neg (by omega),if_neg (by omega),if_neg (by omega),if_pos (by omega)]
       have he:((R k).write x.a x.t x.v).1=0:=by rw [hal,hcw] at he;exact he
       have hR:R (k+1)=((R k).write x.a x.t x.v).2:=by rw [hRk,hal,hcw]
       obtain ⟨i1,i2⟩:=wr_in he
       obtain ⟨a,e1,l1⟩:=nat_in i1
       obtain ⟨t',e2,l2⟩:=nat_in i2
       have hwu:=write_used hGk x.a x.t x.v he
       rw [← hR] at hwu
       have hq:=q64 (t:=t') (by omega)
       rw [← e2] at hq
       have hma:=muB_all hGk.sr (x:=a) (t:=t')
       rw [← e1,← e2] at hma
       have hm1:muB (R k).L a (t' / 64) (R k).L.length=true→(R (k+1)).used=(R k).used+1:=fun h=>hwu.1 (hma.1 h)
       have hm2:muB (R k).L a (t' / 64) (R k).L.length=false→(R (k+1)).used=(R k).used:=fun h=>hwu.2 fun h2=>by rw [hma.2 h2] at h;cases h
       clear hwu hma hR he hal hRk hcw
       obtain ⟨s7,hs7⟩:∃ s7,s7=t' / 64:=⟨_,rfl⟩
       rw [← hs7] at hq hm1 hm2
       generalize (R k).used=u1 at *
       generalize (R k).idle=u2 at *
       generalize (R k).many=u3 at *
       generalize (R (k+1)).used=v1 at *
       generalize (R (k+1)).idle=v2 at *
       generalize (R (k+1)).many=v3 at *
       (refine wx_Kq ?_;repeat' (first|with_reducible refine And.intro ?_ ?_|intro hsp))
       all_goals first|(exfalso;omega)|skip
       have hmz:mI (muB (R k).L a s7 0)=0:=rfl
       (refine loop_x [1,3,4,6,7,8,12,14] (fun (i:Nat)=>[(21,.int .i64 (mI (muB (R k).L a s7 i))),(22,.int .i64 (i:Nat))]) (fun (i:Nat)=>⟨[(0,.cells [.int .i64 p.a,.int .i64 p.n,.isl (p.l.map rlA),.isl (p.X.map acE)])]++bkN (R (k+1)) (T (k+1)) 1 2 3 4 5 6 7 8++[(9,.cells [.int .u8 x.w,.int .i64 x.a,.int .i64 x.b,.int .i64 x.t,.int .u8 x.v,.isl (x.l.map rlA)]),(10,.cells [.int .i64 ((R k).a:Nat),.int .i64 ((R k).n:Nat),.isl ((R k).L.map vwC)])],11⟩) (fun (i:Nat)=>i≤(R k).L.length) (fun (i:Nat)=>(R k).L.length - i) (0) [] rfl (fun _=>by first|exact Nat.zero_le _|(dsimp only;omega)) ?_ (by ((try (conv=>whnf));(rw [hmz]);exact wkx_Kq)) ?_)
       ·exact Nat.zero_le _
       intro i hi
       unfold bkN rdN
       by_cases hil:i < (R k).L.length
       ·have hms:=muB_s (L:=(R k).L) (x:=a) (k:=s7) (i:=i)
        have htw:=fun m=>twB_s (L:=(R k).L) (j:=i) (m:=m)
        by_cases hcd:(nth dV (R k).L i).1=a∧(nth dV (R k).L i).2.1=s7∧(nth dV (R k).L i).2.2.2=false
        ·have hcb:cdB (R k).L a s7 i=true:=decide_eq_true hcd
         rw [hcb,Bool.true_and] at hms
         obtain ⟨d1,d2,d3⟩:=hcd
         have htz:mI (muB (R k).L a s7 i || twB (R k).L i 0)=mI (muB (R k).L a s7 i):=by rw [twB_0,Bool.or_false]
         generalize hy:nth dV (R k).L i=v at *
         obtain ⟨va,vk,vf,vw⟩:=v
         dsimp only at d1 d2 d3 htw
         subst d1 d2 d3
         (refine wx_Kq ?_;repeat' (first|with_reducible refine And.intro ?_ ?_|intro hsp))
         all_goals first|(exfalso;(try dsimp only at *);omega)|skip
         (refine loop_x [1,3,4,6,7,8,12,14,22,23] (fun (m:Nat)=>[(21,.int .i64 (mI (or (muB (R k).L va vk i) (twB (R k).L i m)))),(24,.int .i64 (m:Nat))]) (fun (m:Nat)=>⟨[(0,.cells [.int .i64 p.a,.int .i64 p.n,.isl (p.l.map rlA),.isl (p.X.map acE)])]++bkN (R (k+1)) (T (k+1)) 1 2 3 4 5 6 7 8++[(9,.cells [.int .u8 x.w,.int .i64 x.a,.int .i64 x.b,.int .i64 x.t,.int .u8 x.v,.isl (x.l.map rlA)]),(10,.cells [.int .i64 ((R k).a:Nat),.int .i64 ((R k).n:Nat),.isl ((R k).L.map vwC)]),(11,.cells [.int .i64 (va:Nat),.int .i64 (vk:Nat),.int .i64 (vf:Nat),.bool false])],12⟩) (fun (m:Nat)=>m≤(R k).L.length) (fun (m:Nat)=>(R k).L.length - m) (0) [] rfl (fun _=>by first|exact Nat.zero_le _|(dsimp only;omega)) ?_ (by ((try (conv=>whnf));(rw [htz]);exact wkx_Kq)) ?_)
         ·exact Nat.zero_le _
         intro m hm9
         unfold bkN rdN
         by_cases hml:m < (R k).L.length
         ·have htm:=htw m
          generalize hz:nth dV (R k).L m=z at *
          by_cases hcc:m ≠ i∧z.2.2.1=vf
          ·rw [decide_eq_true hcc,Bool.or_true] at htm
           have ht1:mI (muB (R k).L va vk i || twB (R k).L i (m+1))=1:=by rw [htm,Bool.or_true];rfl
           (refine wx_Kq ?_;repeat' (first|with_reducible refine And.intro ?_ ?_|intro hsp))
           all_goals first|(exfalso;omega)|exact next_x (m+1) [] (by (try dsimp only);omega) (by first|omega|(dsimp only;omega)) rfl (by ((try dsimp only);rw [ht1]);exact wkx_Kq)
          ·rw [decide_eq_false hcc,Bool.or_false] at htm
           have ht1:mI (muB (R k).L va vk i || twB (R k).L i (m+1))=mI (or (muB (R k).L va vk i) (twB (R k).L i m)):=by rw [htm]
           (refine wx_Kq ?_;repeat' (first|with_reducible refine And.intro ?_ ?_|intro hsp))
           all_goals first|(exfalso;omega)|exact next_x (m+1) [] (by (try dsimp only);omega) (by first|omega|(dsimp only;omega)) rfl (by ((try dsimp only);rw [ht1]);exact wkx_Kq)
         ·obtain rfl:m=(R k).L.length:=by omega
          have ht1:mI (muB (R k).L va vk (i+1))=mI (muB (R k).L va vk i || twB (R k).L i (R k).L.length):=by rw [hms]
          (refine wx_Kq ?_;repeat' (first|with_reducible refine And.intro ?_ ?_|intro hsp))
          all_goals first|(exfalso;omega)|exact next_x (i+1) [] (by (try dsimp only);omega) (by first|omega|(dsimp only;omega)) rfl (by ((try dsimp only);rw [ht1]);exact wkx_Kq)
        ·have hcb:cdB (R k).L a s7 i=false:=decide_eq_false hcd
         rw [hcb,Bool.false_and,Bool.or_false] at hms
         have ht1:mI (muB (R k).L a s7 (i+1))=mI (muB (R k).L a s7 i):=by rw [hms]
         clear htw
         generalize hy:nth dV (R k).L i=v at *
         obtain ⟨va,vk,vf,vw⟩:=v
         dsimp only at hcd
         cases vw
         all_goals
          (refine wx_Kq ?_;repeat' (first|with_reducible refine And.intro ?_ ?_|intro hsp))
          all_goals first|(exfalso;(try dsimp only at *);omega)|(exfalso;(try dsimp only at *);exact hcd ⟨by omega,by omega,rfl⟩)|(exfalso;(try dsimp only at *);simp at hsp;done)|exact next_x (i+1) [] (by (try dsimp only);omega) (by first|omega|(dsimp only;omega)) rfl (by ((try dsimp only);rw [ht1]);exact wkx_Kq)
       ·obtain rfl:i=(R k).L.length:=by omega
        cases hb1:muB (R k).L a s7 (R k).L.length
        ·have hv:=hm2 hb1
         rw [show mI false=0 from rfl]
         (refine wx_Kq ?_;repeat' (first|with_reducible refine And.intro ?_ ?_|intro hsp))
         all_goals first|(exfalso;omega)|exact next_x (k+1) [] (by (try dsimp only);omega) (by first|omega|(dsimp only;omega)) rfl (by exact wkx_Kq)
        ·have hv:=hm1 hb1
         rw [show mI true=1 from rfl]
         (refine wx_Kq ?_;repeat' (first|with_reducible refine And.intro ?_ ?_|intro hsp))
         all_goals first|(exfalso;omega)|exact next_x (k+1) [] (by (try dsimp only);omega) (by first|omega|(dsimp only;omega)) rfl (by exact wkx_Kq)
      ·clear hal hRk he
       generalize (R k).used=u1 at *
       generalize (R k).idle=u2 at *
       generalize (R k).many=u3 at *
       generalize (R (k+1)).used=v1 at *
       generalize (R (k+1)).idle=v2 at *
       generalize (R (k+1)).many=v3 at *
       (refine wx_Kq ?_;repeat' (first|with_reducible refine And.intro ?_ ?_|intro hsp))
       all_goals first|(exfalso;omega)|exact next_x (k+1) [] (by (try dsimp only);omega) (by first|omega|(dsimp only;omega)) rfl (by exact wkx_Kq)
    ·clear hal hRk
     generalize ((R k).al x).1=e at *
     generalize (R k).used=u1 at *
     generalize (R k).idle=u2 at *
     generalize (R k).many=u3 at *
     generalize (R (k+1)).used=v1 at *
     generalize (R (k+1)).idle=v2 at *
     generalize (R (k+1)).many=v3 at *
     (refine wx_Kq ?_;repeat' (first|with_reducible refine And.intro ?_ ?_|intro hsp))
     all_goals first|(exfalso;omega)|exact next_x (k+1) [] (by (try dsimp only);omega) (by first|omega|(dsimp only;omega)) rfl (by exact wkx_Kq)
   ·(refine wx_Kq ?_;repeat' (first|with_reducible refine And.intro ?_ ?_|intro hsp))
    all_goals exact end_bool rfl
end Go.Proofs.Ytphggldkligldaa.Sh
