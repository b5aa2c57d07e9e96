/-
 A book's calls: Revert,Write.
-/
import Derived.Test.YtphggldkligldaaGreatJe
set_option linter.unusedSimpArgs false
set_option linter.unusedVariables false
namespace Go.Pol
open Go.Am
def rvN (L:List Vw) (x y i:Nat):Int:=(i:Int)+((ofA y (L.take i)).length:Nat) - ((ofA x (L.take i)).length:Nat)
theorem rvN_0 {L:List Vw} {x y:Nat}:rvN L x y 0=0:=rfl
theorem rvN_s {L:List Vw} {x y i:Nat} (hi:i < L.length):rvN L x y (i+1)=rvN L x y i+1+(if (nth dV L i).1=y then 1 else 0) - (if (nth dV L i).1=x then 1 else 0):=by
 have h:∀ a,(ofA a (L.take (i+1))).length=(ofA a (L.take i)).length+if (nth dV L i).1=a then 1 else 0:=fun a=>by
  rw [take_nth (d:=dV) hi];unfold ofA
  rw [List.filter_append,List.length_append]
  by_cases e:(nth dV L i).1=a<;>simp [e]
 unfold rvN
 rw [h,h]
 split<;>split<;>omega
theorem rvN_le {L:List Vw} {x y i:Nat} (hi:i≤L.length):0≤rvN L x y i∧rvN L x y i≤2 * i:=by
 have h:∀ a,(ofA a (L.take i)).length≤i:=fun a=>Nat.le_trans (List.length_filter_le ..) (by rw [List.length_take];omega)
 have h1:=h x
 have h2:=h y
 unfold rvN;omega
theorem rvN_all {L:List Vw} {x y:Nat}:rvN L x y L.length=(L.length:Int)+((ofA y L).length:Nat) - ((ofA x L).length:Nat):=by unfold rvN;rw [List.take_length]
theorem put_a {q:Bk} {x t v:Int}:(q.put x t v).2.a=q.a∧(q.put x t v).2.n=q.n∧(q.put x t v).2.L=q.L:=by unfold Bk.put;split<;>exact ⟨rfl,rfl,rfl⟩
end Go.Pol
namespace Go.Proofs.YtphggldkligldaaGreat.Sh
open Go Go.Am Go.Pol
theorem wx_Jf {p q:Prop} (hq:q) (h:HidP q→p:=by (intro hQz;((repeat' ((try (conv=>whnf));first|(with_reducible first|refine run_cons ?_|refine runq_cons ?_|refine code_seq ?_|refine code_reg ?_|refine code_cond ?_|refine run_nil ?_|refine runq_nil ?_|refine rund_op rfl ?_|refine rund_nil ?_|refine code_block ?_|refine code_skip ?_|refine code_exit ?_|refine code_ret ?_|refine code_range ?_|refine rund_fast (by decide +kernel) ?_|refine rund_slow (by decide +kernel) ?_|refine br_tt ?_|refine br_ff ?_|refine br_n ?_|refine br_and ?_|refine br_or ?_|refine br_t (by assumption) ?_|refine br_f (by assumption) ?_|refine eq_i64 (by omega) ?_|refine el_tn ?_)|((with_reducible refine br_dt ?_ ?_);focus omega)|((with_reducible refine br_df ?_ ?_);focus omega)|((with_reducible apply br_dq hQz)<;>(try intro hsp hQz))|((with_reducible refine ck_x ?_ ?_);focus (first|omega|rfl|assumption|decide|(simp only [List.length_map,List.length_cons,List.length_nil];omega)))|(with_reducible first|refine eq_tn ?_|refine eq_tn1 ?_|refine eq_tn2 ?_|refine eq_m1 ?_|refine eq_m2 ?_|refine eq_zm ?_|refine eq_z ?_|refine len_map ?_|refine len_sl ?_|refine len_nils ?_|refine len_own' ?_|refine len_isl ?_|refine eq_u8 (by omega) ?_|refine eq_u16 (by omega) ?_)|refine el_mapE (d:=dV) vw_len (by first|assumption|omega) (by with_reducible assumption) ?_|refine eq_of (by with_reducible assumption) ?_|(with_reducible first|refine eq_rfl ?_|refine ChkX.mk (by kernel_rfl) ?_|refine code_q rfl ?_|refine code_d (by decide +kernel) ?_|refine end_go rfl ?_)|refine cx_b0 hi rfl rfl rfl rfl rfl rfl rfl rfl (by decide) rfl ?_|refine cx_pureS (by assumption) ?_|refine cx_tab (by assumption) rfl rfl rfl rfl rfl (by decide) rfl ?_|refine cx_tab h2 rfl rfl rfl rfl rfl (by decide) rfl ?_|refine cx_tab h5 rfl rfl rfl rfl rfl (by decide) rfl ?_|refine cx_b1 (o:=0) hgv rfl rfl rfl rfl rfl rfl rfl rfl (by decide) rfl ?_|refine len_map ?_|refine len_isl ?_|refine el_of rfl rfl ?_|refine del_own ?_|refine del_own' rfl ?_|refine as_go rfl ?_|refine rd_go rfl ?_|refine rg_end rfl ?_|refine flat_ownX ?_|refine EqLX.mk ?_|((with_reducible apply br_bq hQz)<;>(try intro hsp hQz))|exact hQz.out))<;>(try (conv=>whnf))))):p:=h ⟨hq⟩
theorem wx_Jfn {p q:Prop} (hq:q) (h:HidP q→p:=by (intro hQz;((repeat' ((try (conv=>whnf));first|(with_reducible first|refine run_cons ?_|refine runq_cons ?_|refine code_seq ?_|refine code_reg ?_|refine code_cond ?_|refine run_nil ?_|refine runq_nil ?_|refine rund_op rfl ?_|refine rund_nil ?_|refine code_block ?_|refine code_skip ?_|refine code_exit ?_|refine code_ret ?_|refine code_range ?_|refine rund_fast (by decide +kernel) ?_|refine rund_slow (by decide +kernel) ?_|refine br_tt ?_|refine br_ff ?_|refine br_n ?_|refine br_and ?_|refine br_or ?_|refine br_t (by assumption) ?_|refine br_f (by assumption) ?_|refine eq_i64 (by omega) ?_|refine el_tn ?_)|((with_reducible refine br_dt ?_ ?_);focus omega)|((with_reducible refine br_df ?_ ?_);focus omega)|((with_reducible apply br_dq hQz)<;>(try intro hsp hQz))|((with_reducible refine ck_x ?_ ?_);focus (first|omega|rfl|assumption|decide|(simp only [List.length_map,List.length_cons,List.length_nil];omega)))|(with_reducible first|refine eq_tn ?_|refine eq_tn1 ?_|refine eq_tn2 ?_|refine eq_m1 ?_|refine eq_m2 ?_|refine eq_zm ?_|refine eq_z ?_|refine len_map ?_|refine len_sl ?_|refine len_nils ?_|refine len_own' ?_|refine len_isl ?_|refine eq_u8 (by omega) ?_|refine eq_u16 (by omega) ?_)|refine cx_tx (by assumption) rfl rfl rfl rfl rfl rfl (by decide) rfl ?_|refine eq_of (by with_reducible assumption) ?_|(with_reducible first|refine eq_rfl ?_|refine ChkX.mk (by kernel_rfl) ?_|refine code_d (by decide +kernel) ?_|refine end_go rfl ?_)|refine cx_b0 hi rfl rfl rfl rfl rfl rfl rfl rfl (by decide) rfl ?_|refine cx_pureS (by assumption) ?_|refine cx_tab (by assumption) rfl rfl rfl rfl rfl (by decide) rfl ?_|refine dcx_tab (by assumption) rfl rfl rfl rfl rfl rfl rfl ?_|refine cx_tab hfi rfl rfl rfl rfl rfl (by decide) rfl ?_|refine cx_tab h2 rfl rfl rfl rfl rfl (by decide) rfl ?_|refine dcx_tab hcn rfl rfl rfl rfl rfl rfl rfl ?_|refine cx_b1 (o:=0) hby rfl rfl rfl rfl rfl rfl rfl rfl (by decide) rfl ?_|refine cx_b1 (o:=0) htk rfl rfl rfl rfl rfl rfl rfl rfl (by decide) rfl ?_|refine len_map ?_|refine len_isl ?_|refine el_of rfl rfl ?_|refine del_own ?_|refine del_own' rfl ?_|refine as_go rfl ?_|refine rd_go rfl ?_|refine rg_end rfl ?_|refine flat_ownX ?_|refine EqLX.mk ?_|((with_reducible apply br_bq hQz)<;>(try intro hsp hQz))|exact hQz.out))<;>(try (conv=>whnf))))):p:=h ⟨hq⟩
section
variable {q:Bk} {t:TS}
set_option maxHeartbeats 1600000 in
theorem b_Revert (hg:GoodB q) (h:TOk q.L t) (x y:Int):∃ t',TOk (q.revert x y).2.2.L t'∧LocB 32 0 [.int .i64 x,.int .i64 y] q t (.tup [.int .i64 (q.revert x y).1,.int .i64 (q.revert x y).2.1]) (q.revert x y).2.2 t':=by
 have hi:=b_is (q:=q) (t:=t)
 have hsv:=t_Save h
 have hs1:=k_space x
 have hs2:=k_space y
 have hlen:=hg.len
 unfold Bk.revert
 by_cases hin:inR 64 x∧inR 64 y
 ·rw [if_neg (by rw [Classical.not_not];exact hin)]
  rw [decide_eq_true hin.1] at hs1
  rw [decide_eq_true hin.2] at hs2
  obtain ⟨x',rfl,hx⟩:=nat_in hin.1
  obtain ⟨y',rfl,hy⟩:=nat_in hin.2
  rw [Int.toNat_natCast,Int.toNat_natCast]
  by_cases hxy:x'=y'
  ·rw [if_pos (by omega)]
   refine ⟨t,h,LocB.mk (loc_x hmix b32 rfl ?_) plain_i2 plain_i2'⟩
   unfold c32
   unfold bkN rdN
   (refine wx_Jf ?_;repeat' (first|with_reducible refine And.intro ?_ ?_|intro hsp))
   all_goals first|exact end_bk rfl plain_i2' rfl rfl rfl rfl rfl rfl rfl rfl|(exfalso;omega)
  ·rw [if_neg (by omega)]
   have hxl:(ofA x' q.L).length≤q.L.length:=List.length_filter_le ..
   by_cases hf:2000 < q.L.length+(ofA y' q.L).length - (ofA x' q.L).length
   ·rw [if_pos hf]
    refine ⟨t,h,LocB.mk (loc_x hmix b32 rfl ?_) plain_i2 plain_i2'⟩
    unfold c32
    unfold bkN rdN
    (refine wx_Jf ?_;repeat' (first|with_reducible refine And.intro ?_ ?_|intro hsp))
    (refine loop_x [0,1,2,8,39,40] (fun (i:Nat)=>[(9,.int .i64 (rvN q.L x' y' i)),(41,.int .i64 (i:Nat))]) (fun (i:Nat)=>⟨bkN q t 0 1 2 3 4 5 6 7,8⟩) (fun (i:Nat)=>i≤q.L.length) (fun (i:Nat)=>q.L.length - i) (0) [] rfl (fun _=>by first|exact Nat.zero_le _|(dsimp only;omega)) ?_ (by ((try (conv=>whnf));(rw [rvN_0]);exact wkx_Je)) ?_)
    ·exact Nat.zero_le _
    intro i hil
    by_cases hik:i < q.L.length
    ·have hst:=rvN_s (x:=x') (y:=y') hik
     have hle:=rvN_le (L:=q.L) (x:=x') (y:=y') hil
     generalize hx':nth dV q.L i=v at *
     generalize rvN q.L x' y' i=m at *
     unfold bkN rdN
     (refine wx_Jf ?_;repeat' (first|with_reducible refine And.intro ?_ ?_|intro hsp))
     all_goals exact next_x (i+1) [] (by (try dsimp only);omega) (by first|omega|(dsimp only;omega)) rfl (by exact wkx_Je)
    ·obtain rfl:i=q.L.length:=by omega
     have hal:=rvN_all (L:=q.L) (x:=x') (y:=y')
     generalize rvN q.L x' y' q.L.length=m at *
     unfold bkN rdN
     (refine wx_Jf ?_;repeat' (first|with_reducible refine And.intro ?_ ?_|intro hsp))
     all_goals first|exact end_bk rfl plain_i2' rfl rfl rfl rfl rfl rfl rfl rfl|(exfalso;omega)
   ·rw [if_neg hf]
    obtain ⟨t1,h1,h2⟩:=t_Drop h (a:=x') (by omega)
    have hno:ofA y' (noA x' q.L)=ofA y' q.L:=ofA_noA (Ne.symm hxy)
    have hnl:=noA_len (L:=q.L) (a:=x')
    obtain ⟨t2,M,h3,h4,h5⟩:=t_Fork h1 (a:=y') (b:=x') (Ne.symm hxy) (by omega) (by omega) ofA_self (by rw [hno];omega)
    have e:=fork_same h1.srt h3.srt ofA_self h4
    rw [show putL x' ((noA x' q.L).map (wnV y')) (ofA y' (noA x' q.L))=frkL y' x' (noA x' q.L) from rfl] at e
    rw [e] at h3
    rw [hno] at h5
    have hgv:=b_give (q:=⟨q.a,q.n,frkL y' x' (noA x' q.L),q.s⟩) (t:=t2) hg.good (G:=goneL q.L x') gone_4k
    dsimp only at hgv ⊢
    refine ⟨t2,h3,LocB.mk (loc_x hmix b32 rfl ?_) plain_i2 plain_i2'⟩
    unfold c32
    unfold bkN rdN
    (refine wx_Jf ?_;repeat' (first|with_reducible refine And.intro ?_ ?_|intro hsp))
    (refine loop_x [0,1,2,8,39,40] (fun (i:Nat)=>[(9,.int .i64 (rvN q.L x' y' i)),(41,.int .i64 (i:Nat))]) (fun (i:Nat)=>⟨bkN q t 0 1 2 3 4 5 6 7,8⟩) (fun (i:Nat)=>i≤q.L.length) (fun (i:Nat)=>q.L.length - i) (0) [] rfl (fun _=>by first|exact Nat.zero_le _|(dsimp only;omega)) ?_ (by ((try (conv=>whnf));(rw [rvN_0]);exact wkx_Je)) ?_)
    ·exact Nat.zero_le _
    intro i hil
    by_cases hik:i < q.L.length
    ·have hst:=rvN_s (x:=x') (y:=y') hik
     have hle:=rvN_le (L:=q.L) (x:=x') (y:=y') hil
     generalize hx':nth dV q.L i=v at *
     generalize rvN q.L x' y' i=m at *
     unfold bkN rdN
     (refine wx_Jf ?_;repeat' (first|with_reducible refine And.intro ?_ ?_|intro hsp))
     all_goals exact next_x (i+1) [] (by (try dsimp only);omega) (by first|omega|(dsimp only;omega)) rfl (by exact wkx_Je)
    ·obtain rfl:i=q.L.length:=by omega
     have hal:=rvN_all (L:=q.L) (x:=x') (y:=y')
     generalize rvN q.L x' y' q.L.length=m at *
     generalize goneL q.L x'=G at *
     unfold bkN rdN
     (refine wx_Jf ?_;repeat' (first|with_reducible refine And.intro ?_ ?_|intro hsp))
     all_goals first|exact end_bk (q:=⟨q.a,q.n,frkL y' x' (noA x' q.L),givP q.s G⟩) rfl plain_i2' rfl rfl rfl rfl rfl rfl rfl rfl|(exfalso;omega)
 ·rw [if_pos hin]
  refine ⟨t,h,LocB.mk (loc_x hmix b32 rfl ?_) plain_i2 plain_i2'⟩
  unfold c32
  unfold bkN rdN
  (refine wx_Jf ?_;repeat' (first|with_reducible refine And.intro ?_ ?_|intro hsp))
  all_goals first|exact end_bk rfl plain_i2' rfl rfl rfl rfl rfl rfl rfl rfl|(exfalso;simp_all;done)
set_option maxHeartbeats 1600000 in
theorem b_Write (hg:GoodB q) (h:TOk q.L t) (x a v:Int):∃ t',TOk (q.write x a v).2.L t'∧LocB 37 0 [.int .i64 x,.int .i64 a,.int .u8 v] q t (.int .i64 (q.write x a v).1) (q.write x a v).2 t':=by
 have hi:=b_is (q:=q) (t:=t)
 have hsp:=k_space x
 unfold Bk.write
 by_cases hin:inR 64 x∧inR 65536 a
 ·rw [if_neg (by rw [Classical.not_not];exact hin)]
  rw [decide_eq_true hin.1] at hsp
  obtain ⟨a',rfl,ha⟩:=nat_in hin.2
  have hq:=q64 (t:=a') (by omega)
  rw [Int.toNat_natCast]
  have hk:inR 1024 ((a' / 64:Nat):Int):=⟨by omega,by omega⟩
  have hfn:∀ r,fndL q.L x.toNat (a' / 64)=r→fndL q.L x.toNat ((a' / 64:Nat):Int).toNat=r:=fun r hr=>by rw [Int.toNat_natCast];exact hr
  cases hf:fndL q.L x.toNat (a' / 64) with
  | none =>
   have hfi:=u_Find_none h ⟨hin.1,hk⟩ (hfn _ hf)
   refine ⟨t,h,LocB.mk (loc_x hmix b37 rfl ?_) (by simp [plain_int]) plain_int⟩
   unfold c37
   unfold bkN rdN
   generalize ((a' / 64:Nat):Int)=kk at *
   (refine wx_Jf ?_;repeat' (first|with_reducible refine And.intro ?_ ?_|intro hsp))
   all_goals first|exact end_bk rfl plain_int rfl rfl rfl rfl rfl rfl rfl rfl|(exfalso;omega)
  | some u =>
   have hfi:=u_Find h ⟨hin.1,hk⟩ (hfn _ hf)
   have huv:=hg.view (fnd_some hf).1
   have hu4:u.2.2.1 < 1024:=by have:=hg.rng.2;omega
   have hcn:=u_Count h hu4
   dsimp only
   by_cases hw:u.2.2.2=true
   ·rw [if_pos hw]
    rw [hw] at hfi
    have hwr:=u_Write h x (a':Nat) v
    have hpa:=put_a (q:=q) (x:=x) (t:=(a':Nat)) (v:=v)
    refine ⟨t,by rw [hpa.2.2];exact h,LocB.mk (loc_x hmix b37 rfl ?_) (by simp [plain_int]) plain_int⟩
    unfold c37
    unfold bkN rdN
    generalize ((a' / 64:Nat):Int)=kk at *
    generalize cntF q.L u.2.2.1=n at *
    rw [hpa.1,hpa.2.1]
    generalize q.put x (a':Nat) v=r at *
    obtain ⟨e,ra,rn,rL,rs⟩:=r
    dsimp only at *
    (refine wx_Jfn ?_;repeat' (first|with_reducible refine And.intro ?_ ?_|intro hsp))
    all_goals first|exact end_bk (q:=⟨q.a,q.n,q.L,rs⟩) rfl plain_int rfl rfl rfl rfl rfl rfl rfl rfl|(exfalso;omega)
   ·rw [if_neg hw]
    have hw:u.2.2.2=false:=by cases hb:u.2.2.2<;>simp_all
    rw [hw] at hfi
    by_cases hc:cntF q.L u.2.2.1=1
    ·rw [if_pos hc]
     rw [hc] at hcn
     obtain ⟨t1,h1,h2⟩:=u_Protect h ⟨hin.1,hk⟩ (hfn _ hf) true
     rw [Int.toNat_natCast] at h1
     have hwr:=u_Write (q:=⟨q.a,q.n,setL (prV true) x.toNat (a' / 64) q.L,q.s⟩) h1 x (a':Nat) v
     have hpa:=put_a (q:=⟨q.a,q.n,setL (prV true) x.toNat (a' / 64) q.L,q.s⟩) (x:=x) (t:=(a':Nat)) (v:=v)
     refine ⟨t1,by rw [hpa.2.2];exact h1,LocB.mk (loc_x hmix b37 rfl ?_) (by simp [plain_int]) plain_int⟩
     unfold c37
     unfold bkN rdN
     rw [hpa.1,hpa.2.1]
     generalize setL (prV true) x.toNat (a' / 64) q.L=L1 at *
     generalize ((a' / 64:Nat):Int)=kk at *
     dsimp only at hwr ⊢
     generalize Bk.put ⟨q.a,q.n,L1,q.s⟩ x (a':Nat) v=r at *
     obtain ⟨e,ra,rn,rL,rs⟩:=r
     dsimp only at *
     (refine wx_Jfn ?_;repeat' (first|with_reducible refine And.intro ?_ ?_|intro hsp))
     all_goals first|exact end_bk (q:=⟨q.a,q.n,L1,rs⟩) rfl plain_int rfl rfl rfl rfl rfl rfl rfl rfl|(exfalso;omega)
    ·rw [if_neg hc]
     have hby:=b_bytes (q:=q) (t:=t) hu4 huv.2.2
     have htk:=b_take hg h (q.s.B u.2.2.1)
     have tk:=hg.tk (q.s.B u.2.2.1)
     generalize hr:tkP q.a q.n q.L q.s (q.s.B u.2.2.1)=r at *
     generalize cntF q.L u.2.2.1=n at *
     obtain ⟨e,f,s1⟩:=r
     dsimp only at *
     by_cases he:e=0
     ·rw [if_pos he]
      subst he
      have hgot:=tk.got rfl
      dsimp only at hgot
      obtain ⟨t1,h1,h2⟩:=u_Split h ⟨hin.1,hk⟩ (hfn _ hf) (f:=f) (by have:=hgot.2.1;have:=hg.rng.2;omega) hgot.2.2.1
      rw [Int.toNat_natCast] at h1
      have hwr:=u_Write (q:=⟨q.a,q.n,setL (frV f) x.toNat (a' / 64) q.L,s1⟩) h1 x (a':Nat) v
      have hpa:=put_a (q:=⟨q.a,q.n,setL (frV f) x.toNat (a' / 64) q.L,s1⟩) (x:=x) (t:=(a':Nat)) (v:=v)
      refine ⟨t1,by rw [hpa.2.2];exact h1,LocB.mk (loc_x hmix b37 rfl ?_) (by simp [plain_int]) plain_int⟩
      unfold c37
      unfold bkN rdN
      rw [hpa.1,hpa.2.1]
      generalize setL (frV f) x.toNat (a' / 64) q.L=L1 at *
      generalize ((a' / 64:Nat):Int)=kk at *
      dsimp only at hwr ⊢
      generalize Bk.put ⟨q.a,q.n,L1,s1⟩ x (a':Nat) v=r at *
      obtain ⟨e,ra,rn,rL,rs⟩:=r
      dsimp only at *
      (refine wx_Jfn ?_;repeat' (first|with_reducible refine And.intro ?_ ?_|intro hsp))
      all_goals first|exact end_bk (q:=⟨q.a,q.n,L1,rs⟩) rfl plain_int rfl rfl rfl rfl rfl rfl rfl rfl|(exfalso;omega)
     ·rw [if_neg he]
      refine ⟨t,h,LocB.mk (loc_x hmix b37 rfl ?_) (by simp [plain_int]) plain_int⟩
      unfold c37
      unfold bkN rdN
      generalize ((a' / 64:Nat):Int)=kk at *
      (refine wx_Jfn ?_;repeat' (first|with_reducible refine And.intro ?_ ?_|intro hsp))
      all_goals first|exact end_bk (q:=⟨q.a,q.n,q.L,s1⟩) rfl plain_int rfl rfl rfl rfl rfl rfl rfl rfl|(exfalso;omega)
 ·rw [if_pos hin]
  refine ⟨t,h,LocB.mk (loc_x hmix b37 rfl ?_) (by simp [plain_int]) plain_int⟩
  unfold c37
  unfold bkN rdN
  unfold inR at hin
  by_cases hx1:inR 64 x
  ·rw [decide_eq_true hx1] at hsp
   (refine wx_Jf ?_;repeat' (first|with_reducible refine And.intro ?_ ?_|intro hsp))
   all_goals first|exact end_bk rfl plain_int rfl rfl rfl rfl rfl rfl rfl rfl|(exfalso;exact hin ⟨hx1,by omega,by omega⟩)
  ·rw [decide_eq_false hx1] at hsp
   (refine wx_Jf ?_;repeat' (first|with_reducible refine And.intro ?_ ?_|intro hsp))
   all_goals first|exact end_bk rfl plain_int rfl rfl rfl rfl rfl rfl rfl rfl|(exfalso;omega)
end
end Go.Proofs.YtphggldkligldaaGreat.Sh
