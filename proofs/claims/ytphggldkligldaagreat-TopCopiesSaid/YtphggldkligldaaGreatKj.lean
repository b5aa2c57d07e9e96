/-
 TopCopies.
-/
import Derived.Test.YtphggldkligldaaGreatKi
import Derived.Test.YtphggldkligldaaGreatKb
set_option linter.unusedSimpArgs false
set_option linter.unusedVariables false
namespace Go.Pol
open Go.Am Go.Proofs.YtphggldkligldaaGreat.Sh
theorem new_okE {n:Nat} (h1:1≤n) (h2:n≤50):((Sy.new []).chg 100 (n:Nat) 0 1 0).1=0:=by
 unfold Sy.chg
 have hok:okR (Sy.new []).K (Sy.new []).M (100:Int).toNat ((n:Nat):Int).toNat 0:=fun i hi=>⟨rfl,rfl⟩
 rw [if_neg (by omega),if_pos hok,show isR (Sy.new []).l (Sy.new []).C 0=false from isR_nil rfl]
 rfl
theorem sum_up {F:Nat→Nat} {j n:Nat} (h:j≤n):sumN F j≤sumN F n:=by
 obtain ⟨d,rfl⟩:=Nat.exists_eq_add_of_le h
 clear h
 induction d with
 | zero=>exact Nat.le_refl _
 | succ d ih=>exact Nat.le_trans ih (Nat.le_add_right _ _)
def tc0 (n:Nat):Bk:=⟨100,n,[],((Sy.new []).chg 100 (n:Nat) 0 1 0).2⟩
theorem tcg_0 {n:Nat} (h1:1≤n) (h2:n≤50):TcG (tc0 n) fun _=>S8:=by
 obtain ⟨g1,-,g3,-,g5⟩:=new_book (l:=[]) (a:=100) (n:=(n:Nat)) (by decide) ⟨by decide,by omega,by omega⟩ (new_okE h1 h2) (tc0 n) rfl
 refine ⟨g1,g3,g5 rfl,fun v hv=>(by cases hv),fun a ha=>?_⟩
 exact (new_sp s8_ok (by decide)).congr fun p j _ _=>rfl
end Go.Pol
namespace Go.Proofs.YtphggldkligldaaGreat.Sh
open Go Go.Am Go.Pol
theorem plx_Kj {p:Prop} (h:p:=by ((first|assumption|exact plain_int|exact plain_bool|exact plain_undef|exact plain_nils|exact plain_nilp|exact plain_nilf|exact plain_str|with_reducible apply plain_int|with_reducible apply plain_bool|with_reducible apply plain_none|with_reducible apply plain_pl|with_reducible apply plain_rls|with_reducible apply plain_cps|with_reducible apply plain_sn|with_reducible apply plain_vsA|fail);first|done|fail)):p:=h
theorem prx_Kj {p:Prop} (h:p:=by (((repeat' (first|exact plain_all0|refine plain_all2 ?_ ?_|exact plain_int|first|assumption|exact plain_int|exact plain_bool|exact plain_undef|exact plain_nils|exact plain_nilp|exact plain_nilf|exact plain_str|with_reducible apply plain_int|with_reducible apply plain_bool|with_reducible apply plain_none|with_reducible apply plain_pl|with_reducible apply plain_rls|with_reducible apply plain_cps|with_reducible apply plain_sn|with_reducible apply plain_vsA)));first|done|fail)):p:=h
theorem ppx_Kj {p:Prop} (h:p:=by ((first|with_reducible assumption|with_reducible apply cells_plain|with_reducible apply ends_plain|with_reducible apply cnt_plain|with_reducible apply memI_plain _ _|with_reducible apply vw_plain|with_reducible apply nat_plain|with_reducible apply a_plain|with_reducible apply b_plain|with_reducible apply cp_plain _|with_reducible apply plain_map (fun _=>plain_int)|with_reducible apply plain_map (fun _=>plain_bool)|exact prx_Kj|fail);first|done|fail)):p:=h
theorem wvx_Kj {p:Prop} (h:p:=by ((first|exact wk_undef|exact wk_int (by first|rfl|omega|(dsimp only;omega))|exact wk_bool rfl|exact wk_ptr rfl (by first|decide|simp|omega)|exact wk_map rfl (by first|decide|simp|omega)|exact wk_sl rfl (by first|decide|simp|omega) (by first|rfl|omega|simp) (by first|omega|simp) (by first|omega|simp)|exact wk_own rfl (by first|decide|simp|omega)|exact wk_nil0 (by first|rfl|simp)|exact wk_slown rfl (by first|decide|omega|(simp;done)) (by first|omega|(simp;done)) (by first|rfl|omega|(simp;done)|(simp;omega))|exact wk_plain hs plx_Kj|(with_reducible refine wk_fn ?_ ?_<;>repeat' (first|with_reducible exact wkl_nil|with_reducible refine wkl_cons ?_ ?_|exact wk_ptr rfl (by first|decide|simp|omega)))|(with_reducible refine wk_agg ?_;repeat' (first|with_reducible exact wkl_nil|with_reducible refine wkl_cons ?_ ?_|exact wk_int (by first|rfl|omega|(dsimp only;omega))|exact wk_bool rfl))|exact wk_yld rfl (by first|decide|simp|omega)|(with_reducible refine wk_tup ?_;repeat' (first|with_reducible exact wkl_nil|with_reducible refine wkl_cons ?_ ?_|exact wk_int (by first|rfl|omega|(dsimp only;omega))|exact wk_bool rfl|exact wk_ptr rfl (by first|decide|simp|omega)))|fail);first|done|fail)):p:=h
theorem wkx_Kj {p:Prop} (h:p:=by (refine weak_s (by exact oneOf_of rfl) (by exact subH_of rfl) (by intro hs;(repeat' ((try (conv=>whnf));first|with_reducible exact True.intro|with_reducible refine And.intro ?_ ?_|(with_reducible refine WkX.mk ?_;first|exact wvx_Kj|fail)))) (by intro hs;(try dsimp only);(repeat' (first|with_reducible exact wko_nil|refine wko_tab hs (by first|decide|omega|simp) rfl rfl (by first|decide|omega|simp) rfl (by first|decide|omega|simp) ?_|refine wko_maps hs (by first|decide|omega|simp) rfl rfl key_plain ?_|refine wko_plain hs (by first|decide|omega|simp) rfl (by first|rfl) (by (first|exact ppx_Kj|fail|((refine plain_app ?_ ?_)<;>(first|exact ppx_Kj|fail)))) ?_|refine wko_cells (by first|decide|omega|simp) rfl (by repeat' (first|with_reducible exact wkl_nil|with_reducible refine wkl_cons ?_ ?_|(first|exact wvx_Kj|fail))) ?_|refine wko_loop (by first|decide|omega|simp) rfl (by ((try subst hF);(try subst hF2);exact wkl_sd (wkf_sget (by (repeat' ((try (conv=>whnf));first|with_reducible exact True.intro|with_reducible refine And.intro ?_ ?_|(with_reducible refine WkX.mk ?_;first|exact wvx_Kj|fail))))))) ?_|exact wko_nil))))):p:=h
theorem wx_Kj {p q:Prop} (hq:q) (h:HidP q→p:=by (intro hQz;((repeat' ((try (conv=>whnf));first|(with_reducible first|refine run_cons ?_|refine runq_cons ?_|refine code_seq ?_|refine code_reg ?_|refine code_cond ?_|refine run_nil ?_|refine runq_nil ?_|refine rund_op rfl ?_|refine rund_nil ?_|refine code_block ?_|refine code_skip ?_|refine code_exit ?_|refine code_ret ?_|refine code_range ?_|refine rund_fast (by decide +kernel) ?_|refine rund_slow (by decide +kernel) ?_|refine br_tt ?_|refine br_ff ?_|refine br_n ?_|refine br_and ?_|refine br_or ?_|refine br_t (by assumption) ?_|refine br_f (by assumption) ?_|refine eq_i64 (by omega) ?_|refine el_tn ?_)|((with_reducible refine br_dt ?_ ?_);focus omega)|((with_reducible refine br_df ?_ ?_);focus omega)|((with_reducible apply br_dq hQz)<;>(try intro hsp hQz))|((with_reducible refine ck_x ?_ ?_);focus (first|omega|rfl|assumption|decide|(simp only [List.length_map,List.length_cons,List.length_nil];omega)))|(with_reducible first|refine eq_tn ?_|refine eq_tn1 ?_|refine eq_tn2 ?_|refine eq_m1 ?_|refine eq_m2 ?_|refine eq_zm ?_|refine eq_z ?_|refine len_map ?_|refine len_sl ?_|refine len_nils ?_|refine len_own' ?_|refine len_isl ?_|refine eq_u8 (by omega) ?_|refine eq_u16 (by omega) ?_)|refine eq_of (by with_reducible assumption) ?_|refine el_mapE (d:=dC6) cpE_len (by first|assumption|omega) (by with_reducible assumption) ?_|(with_reducible first|refine eq_rfl ?_|refine ChkX.mk (by kernel_rfl) ?_|refine code_q rfl ?_|refine code_d (by decide +kernel) ?_|refine end_go rfl ?_)|refine cx_locN hn ?_|refine cx_BN h0 rfl (by decide) ?_|refine cx_b0 c1 rfl rfl rfl rfl rfl rfl rfl rfl (by decide) rfl ?_|refine cx_b0 c2 rfl rfl rfl rfl rfl rfl rfl rfl (by decide) rfl ?_|refine cx_b0 c3 rfl rfl rfl rfl rfl rfl rfl rfl (by decide) rfl ?_|refine cx_b0 c4 rfl rfl rfl rfl rfl rfl rfl rfl (by decide) rfl ?_|refine cx_b0 r4 rfl rfl rfl rfl rfl rfl rfl rfl (by decide) rfl ?_|refine cx_pureS hsh ?_|refine cx_locN hnw ?_|refine cx_BN hbn rfl (by decide) ?_|refine cx_LN hbg ?_|refine cx_R ha rfl rfl rfl rfl rfl rfl rfl rfl rfl rfl rfl rfl rfl (by decide) rfl ?_|refine cx_R hr0 rfl rfl rfl rfl rfl rfl rfl rfl rfl rfl rfl rfl rfl (by decide) rfl ?_|refine cx_R hri rfl rfl rfl rfl rfl rfl rfl rfl rfl rfl rfl rfl rfl (by decide) rfl ?_|refine cx_b0 hcn rfl rfl rfl rfl rfl rfl rfl rfl (by decide) rfl ?_|refine cx_b0 hsv rfl rfl rfl rfl rfl rfl rfl rfl (by decide) rfl ?_|refine cx_LT hld ?_|refine cx_L hpg rfl rfl rfl rfl rfl (by decide) rfl ?_|refine cx_tab cc rfl rfl rfl rfl rfl (by decide) rfl ?_|refine len_map ?_|refine len_isl ?_|refine el_of rfl rfl ?_|refine del_own ?_|refine del_own' rfl ?_|refine as_go rfl ?_|refine rd_go rfl ?_|refine rg_end rfl ?_|refine flat_ownX ?_|refine EqLX.mk ?_|((with_reducible apply br_bq hQz)<;>(try intro hsp hQz))|exact hQz.out))<;>(try (conv=>whnf))))):p:=h ⟨hq⟩
theorem plain_cps {l:List Cp}:Plain (.isl (l.map cpE)):=plain_isl fun e he=>by obtain ⟨x,_,rfl⟩:=List.mem_map.1 he;exact cp_plain x
set_option maxHeartbeats 1600000 in
theorem k_sharing:PureS 43 [] (.bool true):=by
 have hn:=n_new
 have hc0:(chkP []).2=0:=by decide
 have h0:LocBN 38 [.int .i64 8,.int .i64 2] (Sy.new []) sh0 T0:=b_New (good_new hc0) (a:=8) (n:=2) (by decide) sh_0
 have g0:GoodB sh0:=(new_book (l:=[]) (a:=8) (n:=2) hc0 (by decide) sh_0 sh0 rfl).1
 obtain ⟨t1,k1,c1⟩:=b_Map g0 tok_0 0 3
 have g1:GoodB sh1:=good_map g0 0 3
 rw [sh_1,show (sh0.map 0 3).2=sh1 from rfl] at c1
 rw [show (sh0.map 0 3).2=sh1 from rfl] at k1
 obtain ⟨t2,k2,c2⟩:=b_Write g1 k1 0 192 7
 have g2:GoodB sh2:=good_write' g1 0 192 7
 rw [sh_2,show (sh1.write 0 192 7).2=sh2 from rfl] at c2
 rw [show (sh1.write 0 192 7).2=sh2 from rfl] at k2
 obtain ⟨t3,k3,c3⟩:=b_Take k2 0 1
 have g3:GoodB sh3:=good_take g2 0 1
 rw [sh_3.1,sh_3.2,show (sh2.take 0 1).2.2=sh3 from rfl] at c3
 rw [show (sh2.take 0 1).2.2=sh3 from rfl] at k3
 obtain ⟨t4,k4,c4⟩:=b_Write g3 k3 0 192 8
 rw [sh_4,show (sh3.write 0 192 8).2=sh4 from rfl] at c4
 rw [show (sh3.write 0 192 8).2=sh4 from rfl] at k4
 have r4:=b_Read k4 1 192
 rw [sh_r4] at r4
 clear g0 g1 g2 g3 k1 k2 k3 k4 hc0
 generalize T0=t0 at *
 generalize Sy.new []=s0 at *
 generalize sh0=q0 at *
 generalize sh1=q1 at *
 generalize sh2=q2 at *
 generalize sh3=q3 at *
 generalize sh4=q4 at *
 refine PureS.mk (pure_x hmix b43 plainG trivial plain_bool rfl ?_)
 unfold c43
 (refine wx_Kj ?_;repeat' (first|with_reducible refine And.intro ?_ ?_|intro hsp))
 all_goals first|exact end_bool rfl|(exfalso;omega)
theorem tc_chain {n:Nat} (h1:1≤n) (h2:n≤50) {l:List Cp} (hl:∀ x ∈ l,okP x):∃ S:Nat→Bk × TS × (Nat→Sy),S 0=(tc0 n,T0,fun _=>S8)∧(∀ k,k≤l.length→TcG (S k).1 (S k).2.2∧TOk (S k).1.L (S k).2.1∧(S k).1.a=100∧(S k).1.n=n) ∧
  ∀ k,k < l.length→LocR 45 [.agg (cpE (nth ⟨0,0,0,0,0,0⟩ l k))] (S k).1 (S k).2.1 (S k).2.2 (.tup []) (S (k+1)).1 (S (k+1)).2.1 (S (k+1)).2.2:=by
 refine chain (n:=l.length) (P:=fun k s=>TcG s.1 s.2.2∧TOk s.1.L s.2.1∧s.1.a=100∧s.1.n=n) (S:=fun k s s'=>LocR 45 [.agg (cpE (nth ⟨0,0,0,0,0,0⟩ l k))] s.1 s.2.1 s.2.2 (.tup []) s'.1 s'.2.1 s'.2.2) (tc0 n,T0,fun _=>S8) ⟨tcg_0 h1 h2,tok_0,rfl,rfl⟩ fun k s hk hs=>?_
 obtain ⟨q',t',A',e1,e2,e3,e4⟩:=l_call hs.1 hs.2.1 (nth ⟨0,0,0,0,0,0⟩ l k) (hl _ (nth_mem hk))
 exact ⟨(q',t',A'),⟨e1,e2,e3.1.trans hs.2.2.1,e3.2.trans hs.2.2.2⟩,e4⟩
def dC6:Cp:=⟨0,0,0,0,0,0⟩
set_option maxHeartbeats 3200000 in
set_option maxRecDepth 20000 in
theorem k_top {m:Nat} (hm:m < 256) {l:List Cp} (hl:∀ x ∈ l,okP x):PureS 9 [.int .u8 (m:Nat),.isl (l.map cpE)] (.bool true):=by
 have hsh:=k_sharing
 refine PureS.mk (pure_x hmix b9 plainG ⟨plain_int,plain_cps,trivial⟩ plain_bool rfl ?_)
 unfold c9
 by_cases h40:40 < l.length
 ·(refine wx_Kj ?_;repeat' (first|with_reducible refine And.intro ?_ ?_|intro hsp))
  all_goals first|exact end_bool rfl|(exfalso;omega)
 have hm50:m % 50 < 50:=Nat.mod_lt _ (by decide)
 have fm:((m:Nat):Int).tmod 50=((m % 50:Nat):Int):=tmn m 50
 generalize m % 50=m5 at *
 obtain ⟨n,hn⟩:∃ n,n=1+m5:=⟨_,rfl⟩
 have hn1:1≤n:=by omega
 have hn2:n≤50:=by omega
 have hne:(1:Int)+(m5:Nat)=(n:Nat):=by omega
 have hnw:=n_new
 have hbn:LocBN 38 [.int .i64 100,.int .i64 (n:Nat)] (Sy.new []) (tc0 n) T0:=b_New (good_new (l:=[]) (by decide)) (a:=100) (n:=(n:Nat)) ⟨by decide,by decide,by omega,by omega⟩ (new_okE hn1 hn2)
 have hbg:=l_begin
 obtain ⟨S,hS0,hS,hst⟩:=tc_chain hn1 hn2 hl
 have e1:(S 0).1=tc0 n:=by rw [hS0]
 have e2:(S 0).2.1=T0:=by rw [hS0]
 have e3:(S 0).2.2=fun _=>S8:=by rw [hS0]
 have ea:(tc0 n).a=100:=rfl
 have en:(tc0 n).n=n:=rfl
 clear hS0
 rw [← hne] at hbn
 generalize tc0 n=q0 at *
 generalize T0=t0 at *
 generalize (fun _=>S8:Nat→Sy)=A0 at *
 generalize Sy.new []=s0 at *
 (refine wx_Kj ?_;repeat' (first|with_reducible refine And.intro ?_ ?_|intro hsp))
 (refine loop_x [1,7,8,9] (fun (k:Nat)=>[(10,.int .i64 (k:Nat))]) (fun (k:Nat)=>⟨tcN (S k).1 (S k).2.1 (S k).2.2 1 2 3 4 5 6 7 0 8 9 10 11 12,13⟩) (fun (k:Nat)=>k≤l.length) (fun (k:Nat)=>l.length - k) (0) [] rfl (fun _=>by first|exact Nat.zero_le _|(dsimp only;omega)) ?_ (by ((try (conv=>whnf));(rw [e1,e2,e3]);exact wkx_Kj)) ?_)
 ·exact Nat.zero_le _
 intro k hk
 unfold tcN bkN rdN
 by_cases hkl:k < l.length
 ·have ha:=hst k hkl
  obtain ⟨g,ht,hqa,hqn⟩:=hS (k+1) hkl
  have hx6:=hl _ (nth_mem (d:=dC6) hkl)
  have hcn:=b_Counts g.good ht
  rw [idle_no g.tight] at hcn
  have hsv:=b_Save ht
  obtain ⟨t2,ht2,hld⟩:=l_Load g.good.sr g.good.len g.good.ok
  have hpg:=l_pages fun i hi=>(g.tc.sp i hi).good
  have hrd:=fun m hm=>l_reads g.good ht g.tc (m:=m) hm
  have hr0:=hrd 0 (by decide)
  have hri:=hrd (nth dC6 l k).i hx6.2.2.2.2.1
  have hus:=tc_used g.good g.tc
  have hul:=used_le g.good
  have huz:=used_sum (b:=(S (k+1)).1)
  have hva:=views_all g.good
  have hlen:=g.good.len
  rw [hqn] at hus hva huz
  rw [hqa] at hva huz
  clear hS hst hl hsh hnw hbn hbg e1 e2 e3 ea en hrd
  rw [show (⟨0,0,0,0,0,0⟩:Cp)=dC6 from rfl] at ha
  generalize hF:(fun i=>cntF (S (k+1)).1.L (100+i))=F at *
  generalize hG:(fun i=>if 0 < cntF (S (k+1)).1.L (100+i) then 1 else 0)=G at *
  generalize (S (k+1)).1.many=u3 at *
  generalize (S (k+1)).1.used=u1 at *
  generalize sumN (fun a=>cntK ((S (k+1)).2.2 a).K 2 1024) 4=pgs at *
  generalize hx:nth dC6 l k=x at *
  (refine wx_Kj ?_;repeat' (first|with_reducible refine And.intro ?_ ?_|intro hsp))
  have hF0:sumN F 0=0:=rfl
  have hG0:sumN G 0=0:=rfl
  (refine loop_x [1,7,8,9,10,11,15] (fun (j:Nat)=>[(17,.int .i64 (sumN F j:Nat)),(18,.int .i64 (sumN G j:Nat)),(19,.int .i64 ((100+j:Nat):Int))]) (fun (j:Nat)=>⟨tcN (S (k+1)).1 (S (k+1)).2.1 (S (k+1)).2.2 1 2 3 4 5 6 7 0 8 9 10 11 12++tabN t2 13 14 15 16 17,18⟩) (fun (j:Nat)=>j≤n) (fun (j:Nat)=>n - j) (0) [] rfl (fun _=>by first|exact Nat.zero_le _|(dsimp only;omega)) ?_ (by ((try (conv=>whnf));(rw [hF0,hG0]);exact wkx_Kj)) ?_)
  ·exact Nat.zero_le _
  intro j hj
  have hFu:=sum_up (F:=F) hj
  have hGu:=sum_up (F:=G) hj
  unfold tcN bkN rdN tabN
  by_cases hjn:j < n
  ·have cc:=u_Count ht2 (f:=100+j) (by omega)
   have hFj:F j=cntF (S (k+1)).1.L (100+j):=by rw [← hF]
   have hGj:G j=if 0 < F j then 1 else 0:=by rw [← hG,hFj]
   have hG1:0 < F j→G j=1:=fun h=>by rw [hGj,if_pos h]
   have hG2:¬ 0 < F j→G j=0:=fun h=>by rw [hGj,if_neg h]
   have hFn:sumN F (j+1)=sumN F j+F j:=rfl
   have hGn:sumN G (j+1)=sumN G j+G j:=rfl
   have hFv:=sum_up (F:=F) (show j+1≤n from hjn)
   rw [← hFj] at cc
   clear hF hG hGj hFj
   (refine wx_Kj ?_;repeat' (first|with_reducible refine And.intro ?_ ?_|intro hsp))
   all_goals first|(exfalso;omega)|exact next_x (j+1) [] (by (try dsimp only);omega) (by first|omega|(dsimp only;omega)) rfl (by exact wkx_Kj)
  ·obtain rfl:j=n:=by omega
   (refine wx_Kj ?_;repeat' (first|with_reducible refine And.intro ?_ ?_|intro hsp))
   all_goals first|(exfalso;omega)|exact next_x (k+1) [] (by (try dsimp only);omega) (by first|omega|(dsimp only;omega)) rfl (by exact wkx_Kj)
 ·(refine wx_Kj ?_;repeat' (first|with_reducible refine And.intro ?_ ?_|intro hsp))
  all_goals exact end_bool rfl
end Go.Proofs.YtphggldkligldaaGreat.Sh
