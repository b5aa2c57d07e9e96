/-
 New and Load.
 Systems in which frames are committed.
 The law's awake.
 The law's ready: a table and a system.
-/
import Derived.Test.YtphggldkligldaaGreatBa
set_option linter.unusedSimpArgs false
set_option linter.unusedVariables false
namespace Go.Pol
open Go.Am
theorem insV_last {L:List Vw} (h:srt L) {k:Nat} (hk:k < L.length) {d:Vw}:insV (nth d L k) (L.take k)=L.take (k+1):=by
 rw [take_nth (d:=d) hk]
 have h1:=insV_of (v:=nth d L k) (X:=L.take k) (Y:=[]) (fun u hu=>?_) (fun u Y' e=>by cases e)
 ·rwa [List.append_nil] at h1
 ·obtain ⟨i,hi,rfl⟩:=List.mem_iff_getElem.1 hu
  rw [List.length_take] at hi
  rw [List.getElem_take,nth_get hk]
  exact (List.pairwise_iff_getElem.1 h) i k (by omega) hk (by omega)
theorem chain {α:Type} {P:Nat→α→Prop} {S:Nat→α→α→Prop} {n:Nat} (x0:α) (h0:P 0 x0) (hs:∀ k x,k < n→P k x→∃ y,P (k+1) y∧S k x y):∃ f:Nat→α,f 0=x0∧(∀ k,k≤n→P k (f k))∧∀ k,k < n→S k (f k) (f (k+1)):=by
 classical
 refine ⟨fun k=>Nat.rec x0 (fun k x=>if h:k < n∧P k x then Classical.choose (hs k x h.1 h.2) else x) k,rfl,?_,?_⟩
 ·intro k
  induction k with
  | zero=>exact fun _=>h0
  | succ k ih =>
   intro hk
   have h1:=ih (by omega)
   show P (k+1) (dite _ _ _)
   rw [dif_pos ⟨by omega,h1⟩]
   exact (Classical.choose_spec (hs k _ (by omega) h1)).1
 ·have key:∀ k,k≤n→P k (Nat.rec x0 (fun k x=>if h:k < n∧P k x then Classical.choose (hs k x h.1 h.2) else x) k):=by
   intro k
   induction k with
   | zero=>exact fun _=>h0
   | succ k ih =>
    intro hk
    have h1:=ih (by omega)
    show P (k+1) (dite _ _ _)
    rw [dif_pos ⟨by omega,h1⟩]
    exact (Classical.choose_spec (hs k _ (by omega) h1)).1
  intro k hk
  have h1:=key k (by omega)
  show S k _ (dite _ _ _)
  rw [dif_pos ⟨hk,h1⟩]
  exact (Classical.choose_spec (hs k _ hk h1)).2
theorem take_ne {L:List Vw} (h:srt L) {k:Nat} (hk:k < L.length):∀ u ∈ L.take k,¬ atV ((nth dV L k).1,(nth dV L k).2.1) u:=fun u hu ha=>by
 obtain ⟨i,hi,rfl⟩:=List.mem_iff_getElem.1 hu
 rw [List.length_take] at hi
 have h1:=(List.pairwise_iff_getElem.1 h) i k (by omega) hk (by omega)
 rw [List.getElem_take,nth_get hk] at ha
 unfold bef at h1;unfold atV at ha;omega
end Go.Pol
namespace Go.Proofs.YtphggldkligldaaGreat.Sh
open Go Go.Am Go.Pol
theorem plx_Da {p:Prop} (h:p:=by ((first|assumption|exact plain_int|exact plain_bool|exact plain_undef|exact plain_nils|exact plain_nilp|exact plain_nilf|exact plain_str|with_reducible apply plain_int|with_reducible apply plain_bool|with_reducible apply plain_vwC|with_reducible apply plain_vwE|with_reducible apply plain_vs|with_reducible apply plain_vsA|fail);first|done|fail)):p:=h
theorem prx_Da {p:Prop} (h:p:=by (((repeat' (first|exact plain_all0|refine plain_all2 ?_ ?_|exact plain_int|first|assumption|exact plain_int|exact plain_bool|exact plain_undef|exact plain_nils|exact plain_nilp|exact plain_nilf|exact plain_str|with_reducible apply plain_int|with_reducible apply plain_bool|with_reducible apply plain_vwC|with_reducible apply plain_vwE|with_reducible apply plain_vs|with_reducible apply plain_vsA)));first|done|fail)):p:=h
theorem ppx_Da {p:Prop} (h:p:=by ((first|with_reducible assumption|with_reducible apply cells_plain|with_reducible apply ends_plain|with_reducible apply cnt_plain|with_reducible apply memI_plain _ _|with_reducible apply vw_plain|with_reducible apply plain_flat vw_plain'|with_reducible apply plain_map (fun _=>plain_int)|with_reducible apply plain_map (fun _=>plain_bool)|exact prx_Da|fail);first|done|fail)):p:=h
theorem wvx_Da {p:Prop} (h:p:=by ((first|exact wk_undef|exact wk_int (by first|rfl|omega|(dsimp only;omega))|exact wk_bool rfl|exact wk_ptr rfl (by first|decide|simp|omega)|exact wk_map rfl (by first|decide|simp|omega)|exact wk_sl rfl (by first|decide|simp|omega) (by first|rfl|omega|simp) (by first|omega|simp) (by first|omega|simp)|exact wk_own rfl (by first|decide|simp|omega)|exact wk_nil0 (by first|rfl|simp)|exact wk_slown rfl (by first|decide|omega|(simp;done)) (by first|omega|(simp;done)) (by first|rfl|omega|(simp;done)|(simp;omega))|exact wk_plain hs plx_Da|(with_reducible refine wk_fn ?_ ?_<;>repeat' (first|with_reducible exact wkl_nil|with_reducible refine wkl_cons ?_ ?_|exact wk_ptr rfl (by first|decide|simp|omega)))|(with_reducible refine wk_agg ?_;repeat' (first|with_reducible exact wkl_nil|with_reducible refine wkl_cons ?_ ?_|exact wk_int (by first|rfl|omega|(dsimp only;omega))|exact wk_bool rfl))|exact wk_yld rfl (by first|decide|simp|omega)|(with_reducible refine wk_tup ?_;repeat' (first|with_reducible exact wkl_nil|with_reducible refine wkl_cons ?_ ?_|exact wk_int (by first|rfl|omega|(dsimp only;omega))|exact wk_bool rfl|exact wk_ptr rfl (by first|decide|simp|omega)))|fail);first|done|fail)):p:=h
theorem wkx_Da {p:Prop} (h:p:=by (refine weak_s (by exact oneOf_of rfl) (by exact subH_of rfl) (by intro hs;(repeat' ((try (conv=>whnf));first|with_reducible exact True.intro|with_reducible refine And.intro ?_ ?_|(with_reducible refine WkX.mk ?_;first|exact wvx_Da|fail)))) (by intro hs;(try dsimp only);(repeat' (first|with_reducible exact wko_nil|refine wko_tab hs (by first|decide|omega|simp) rfl rfl (by first|decide|omega|simp) rfl (by first|decide|omega|simp) ?_|refine wko_maps hs (by first|decide|omega|simp) rfl rfl key_plain ?_|refine wko_plain hs (by first|decide|omega|simp) rfl (by first|rfl) (by (first|exact ppx_Da|fail|((refine plain_app ?_ ?_)<;>(first|exact ppx_Da|fail)))) ?_|refine wko_cells (by first|decide|omega|simp) rfl (by repeat' (first|with_reducible exact wkl_nil|with_reducible refine wkl_cons ?_ ?_|(first|exact wvx_Da|fail))) ?_|refine wko_loop (by first|decide|omega|simp) rfl (by ((try subst hF);(try subst hF2);exact wkl_sd (wkf_sget (by (repeat' ((try (conv=>whnf));first|with_reducible exact True.intro|with_reducible refine And.intro ?_ ?_|(with_reducible refine WkX.mk ?_;first|exact wvx_Da|fail))))))) ?_|exact wko_nil))))):p:=h
theorem wx_Da {p q:Prop} (hq:q) (h:HidP q→p:=by (intro hQz;((repeat' ((try (conv=>whnf));first|(with_reducible first|refine run_cons ?_|refine runq_cons ?_|refine code_seq ?_|refine code_reg ?_|refine code_cond ?_|refine run_nil ?_|refine runq_nil ?_|refine rund_op rfl ?_|refine rund_nil ?_|refine code_block ?_|refine code_skip ?_|refine code_exit ?_|refine code_ret ?_|refine code_range ?_|refine rund_fast (by decide +kernel) ?_|refine rund_slow (by decide +kernel) ?_|refine br_tt ?_|refine br_ff ?_|refine br_n ?_|refine br_and ?_|refine br_or ?_|refine br_t (by assumption) ?_|refine br_f (by assumption) ?_|refine eq_i64 (by omega) ?_|refine el_tn ?_)|((with_reducible refine br_dt ?_ ?_);focus omega)|((with_reducible refine br_df ?_ ?_);focus omega)|((with_reducible apply br_dq hQz)<;>(try intro hsp hQz))|((with_reducible refine ck_x ?_ ?_);focus (first|omega|rfl|assumption|decide|(simp only [List.length_map,List.length_cons,List.length_nil];omega)))|(with_reducible first|refine eq_tn ?_|refine eq_tn1 ?_|refine eq_tn2 ?_|refine eq_m1 ?_|refine eq_m2 ?_|refine eq_zm ?_|refine eq_z ?_|refine len_map ?_|refine len_sl ?_|refine len_nils ?_|refine len_own' ?_|refine len_isl ?_|refine eq_u8 (by omega) ?_|refine eq_u16 (by omega) ?_)|refine el_mapE (d:=dV) vw_len (by first|assumption|omega) (by with_reducible assumption) ?_|(with_reducible first|refine eq_rfl ?_|refine ChkX.mk (by kernel_rfl) ?_|refine code_q rfl ?_|refine code_d (by decide +kernel) ?_|refine end_go rfl ?_)|refine cx_new (n:=2000) (m:=64) (by decide) (by decide) (by decide) (by decide) ?_|refine cx_pureS (by assumption) ?_|refine cx_NT (by assumption) ?_|refine cx_tab (by assumption) rfl rfl rfl rfl rfl (by decide) rfl ?_|refine len_map ?_|refine len_isl ?_|refine el_of rfl rfl ?_|refine del_own ?_|refine del_own' rfl ?_|refine as_go rfl ?_|refine rd_go rfl ?_|refine rg_end rfl ?_|refine flat_ownX ?_|refine EqLX.mk ?_|((with_reducible apply br_bq hQz)<;>(try intro hsp hQz))|exact hQz.out))<;>(try (conv=>whnf))))):p:=h ⟨hq⟩
def T0:TS:=⟨2000,64,fun _=>z0,fun _=>w0,fun _=>w0,fun _=>b0,fun _=>[],S0 2000 64,fun _=>dV,[],fun _=>0⟩
theorem tok_0:TOk [] T0:=⟨rfl,rfl,good_0 (by decide) (by decide) (by decide),fun a s hs=>(by cases hs),fun a=>rfl,List.nodup_nil,fun p s=>⟨fun h=>(by cases h),fun h=>(by cases h.1)⟩,rfl,fun f=>rfl,fun v hv=>(by cases hv),List.Pairwise.nil,Nat.zero_le _⟩
theorem tab_0 {p m:Nat}:(.ptr p 0 :: .mapr m::List.replicate 1024 (.int .i64 0):List AV)=tabC p m fun _=>0:=by
 unfold tabC
 congr 2
 refine List.ext_getElem? fun i=>?_
 by_cases h:i < 1024
 ·rw [List.getElem?_replicate,if_pos h,memA_get h];rfl
 ·rw [List.getElem?_eq_none (by rw [List.length_replicate];omega),List.getElem?_eq_none (by rw [memA_len];omega)]
theorem end_newT {top:Bool} {h:Hp} {x r:AV} {t:TS} (a b c d e:Nat) {cs:List AV} (hd:nodB [a,b,c,d,e]=true)
  (hr:SubH (rn [(0,a),(1,b),(2,c),(3,d),(4,e)]) h ⟨tabS t,5⟩→WkV Tryz.prog (rn [(0,a),(1,b),(2,c),(3,d),(4,e)]) h ⟨tabS t,5⟩ x r) (hc:cs=tabC b e t.C) (h0:lk h.l a=some (.cells cs)) (h1:lk h.l b=some (.cells [.sl c 0 t.n t.n 7,.sl d 0 t.m t.m 3,.int .i64 (t.S.fr:Nat)])) (h2:lk h.l c=some (.cells (cellsB t.n t.V t.W t.V3 t.V4 t.S.L t.S.N t.S.P))) (h3:lk h.l d=some (.cells (endsB t.m t.S.A t.S.B t.S.C))) (h4:lk h.l e=some (.maps (t.E.map keyE))) :
  EndX top Tryz.prog 0 h x (fun r' h'=>r'=r∧h'=⟨tabS t,5⟩):=by
 subst hc
 have hs:SubH (rn [(0,a),(1,b),(2,c),(3,d),(4,e)]) h ⟨tabS t,5⟩:=fun i o hi=>by
  simp only [tabS,lk] at hi
  split at hi
  ·rename_i e;subst e;exact ⟨_,h0⟩
  ·split at hi
   ·rename_i e;subst e;exact ⟨_,h1⟩
   ·split at hi
    ·rename_i e;subst e;exact ⟨_,h2⟩
    ·split at hi
     ·rename_i e;subst e;exact ⟨_,h3⟩
     ·split at hi
      ·rename_i e;subst e;exact ⟨_,h4⟩
      ·cases hi
 refine end_loc [(0,a),(1,b),(2,c),(3,d),(4,e)] rfl (Nat.zero_le _) (oneOf_of ?_) (hr hs) ?_ ⟨rfl,rfl⟩
 ·exact hd
 ·exact wko_tab hs (show 0 < 5 by decide) h0 rfl (show 1 < 5 by decide) rfl (show 4 < 5 by decide)
   (wko_cells (show 1 < 5 by decide) h1 (wkl_cons (wk_sl rfl (show 2 < 5 by decide) rfl (Nat.le_refl _) (Nat.le_refl _)) (wkl_cons (wk_sl rfl (show 3 < 5 by decide) rfl (Nat.le_refl _) (Nat.le_refl _)) (wkl_cons (wk_int rfl) wkl_nil)))
   (wko_plain hs (show 2 < 5 by decide) h2 rfl cells_plain (wko_plain hs (show 3 < 5 by decide) h3 rfl ends_plain (wko_maps hs (show 4 < 5 by decide) h4 rfl key_plain wko_nil))))
structure LocNT (f:Nat) (avs:List AV) (t:TS):Prop where
 out:LocC Tryz.prog G0 f avs [] 0 fun x h=>x = .ptr 0 0∧h=⟨tabS t,5⟩
 pa:∀ x ∈ avs,Plain x
structure LocLT (f:Nat) (avs:List AV) (t:TS):Prop where
 out:LocC Tryz.prog G0 f avs [] 0 fun x h=>x = .tup [.ptr 0 0,.int .i64 0]∧h=⟨tabS t,5⟩
 pa:∀ x ∈ avs,Plain x
def tabN (t:TS) (a b c d e:Nat):List (Nat × AObj):=[(a,.cells (tabC b e t.C)),(b,.cells [.sl c 0 t.n t.n 7,.sl d 0 t.m t.m 3,.int .i64 (t.S.fr:Nat)]),(c,.cells (cellsB t.n t.V t.W t.V3 t.V4 t.S.L t.S.N t.S.P)),(d,.cells (endsB t.m t.S.A t.S.B t.S.C)),(e,.maps (t.E.map keyE))]
theorem rn_tabC {p:Nat→Nat→Prop} {i j i' j':Nat} {C:Nat→Nat} (h:p i i') (h':p j j'):RnL p (tabC i j C) (tabC i' j' C):=⟨rn_ptr h,rn_map h',rnl_plain cnt_plain⟩
theorem cx_NT {f nx:Nat} {avs:List AV} {t:TS} {l:List (Nat × AObj)} {K:AV→Hp→Prop} (hc:LocNT f avs t) (hk:K (.ptr nx 0) ⟨tabN t nx (nx+1) (nx+2) (nx+3) (nx+4)++l,nx+5⟩):CallX Tryz.prog G0 (.fn f [] []) avs ⟨l,nx⟩ K:=by
 have k0:back [] nx 0 nx:=rfl
 have k1:back [] nx 1 (nx+1):=rfl
 have k2:back [] nx 2 (nx+2):=rfl
 have k3:back [] nx 3 (nx+3):=rfl
 have k4:back [] nx 4 (nx+4):=rfl
 refine cx_loc (r':=.ptr nx 0) (l1:=tabN t nx (nx+1) (nx+2) (nx+3) (nx+4)) [] hc.out plainG rfl .nil (by simpa using rnl_plain hc.pa) (by simp) (rn_ptr k0)
  (.cons k0 (rn_tabC k1 k4) (.cons k1 ⟨rn_sl k2,rn_sl k3,rn_plain plain_int,trivial⟩ (.cons k2 rnl_cells (.cons k3 rnl_ends (.maps k4 key_plain .nil))))) (filtK_nil hk)
theorem cx_LT {f nx:Nat} {avs:List AV} {t:TS} {l:List (Nat × AObj)} {K:AV→Hp→Prop} (hc:LocLT f avs t) (hk:K (.tup [.ptr nx 0,.int .i64 0]) ⟨tabN t nx (nx+1) (nx+2) (nx+3) (nx+4)++l,nx+5⟩):CallX Tryz.prog G0 (.fn f [] []) avs ⟨l,nx⟩ K:=by
 have k0:back [] nx 0 nx:=rfl
 have k1:back [] nx 1 (nx+1):=rfl
 have k2:back [] nx 2 (nx+2):=rfl
 have k3:back [] nx 3 (nx+3):=rfl
 have k4:back [] nx 4 (nx+4):=rfl
 refine cx_loc (r':=.tup [.ptr nx 0,.int .i64 0]) (l1:=tabN t nx (nx+1) (nx+2) (nx+3) (nx+4)) [] hc.out plainG rfl .nil (by simpa using rnl_plain hc.pa) (by simp) (rn_tup ⟨rn_ptr k0,rn_plain plain_int,trivial⟩)
  (.cons k0 (rn_tabC k1 k4) (.cons k1 ⟨rn_sl k2,rn_sl k3,rn_plain plain_int,trivial⟩ (.cons k2 rnl_cells (.cons k3 rnl_ends (.maps k4 key_plain .nil))))) (filtK_nil hk)
set_option maxRecDepth 20000 in
theorem n_New:LocNT 99 [] T0:=by
 refine LocNT.mk (loc_x hmix b99 rfl ?_) fun x hx=>by cases hx
 unfold c99
 (refine wx_Da ?_;repeat' (first|with_reducible refine And.intro ?_ ?_|intro hsp))
 exact end_newT 4 0 1 2 3 rfl (fun hs=>wk_ptr rfl (by decide)) tab_0 rfl rfl rfl rfl rfl
section
variable {L:List Vw} {R:List Rw}
theorem chk_of {i:Int} (hs:srt L) (hl:L.length≤2000) (ho:∀ v ∈ L,v.1 < 64∧v.2.1 < 1024∧v.2.2.1 < 1024):ChkR (L.map rwV) 0 0:=by
 refine .ok (by rw [List.length_map];exact hl) (fun j hj=>?_) fun j hj=>?_
 ·rw [nth_get hj,List.getElem_map]
  rw [List.length_map] at hj
  have:=ho _ (List.getElem_mem hj)
  generalize L[j]=v at *
  unfold okW rwV;dsimp only;omega
 ·rw [nth_get (by omega),nth_get hj,List.getElem_map,List.getElem_map]
  rw [List.length_map] at hj
  have:=List.pairwise_iff_getElem.1 hs j (j+1) (by omega) hj (by omega)
  generalize L[j]=v at *
  generalize L[j+1]=w at *
  unfold bef at this
  unfold befW rwV;dsimp only;omega
set_option maxHeartbeats 1600000 in
theorem l_Load (hs:srt L) (hl:L.length≤2000) (ho:∀ v ∈ L,v.1 < 64∧v.2.1 < 1024∧v.2.2.1 < 1024):∃ t,TOk L t∧LocLT 46 [.agg [.isl (L.map vwC)]] t:=by
 obtain ⟨T,hT0,hT,hS⟩:=chain (n:=L.length) (P:=fun k t=>TOk (L.take k) t) (S:=fun k t t'=>LocT 117 [.agg (vwC (nth dV L k))] t (.tup []) t') T0 (by rw [List.take_zero];exact tok_0) (fun k x hk hx=>by
  have hm:=nth_mem (d:=dV) hk
  obtain ⟨t',h1,_,_,h2⟩:=t_put hx (ho _ hm) (take_ne hs hk) (by rw [List.length_take];omega)
  rw [insV_last hs hk] at h1
  exact ⟨t',h1,h2⟩)
 refine ⟨T L.length,by have:=hT _ (Nat.le_refl _);rwa [List.take_length] at this,LocLT.mk (loc_x hmix b46 rfl ?_) fun x hx=>by obtain rfl:=List.mem_singleton.1 hx;exact plain_vsA⟩
 unfold c46
 have hc:=p_check (chk_of (i:=0) hs hl ho)
 rw [rw_map] at hc
 have hnew:=n_New
 rw [← hT0] at hnew
 (refine wx_Da ?_;repeat' (first|with_reducible refine And.intro ?_ ?_|intro hsp))
 (refine loop_x [19,20] (fun (k:Nat)=>[(6,.ptr 0 0),(21,.int .i64 (k:Nat))]) (fun (k:Nat)=>⟨tabN (T k) 0 1 2 3 4,5⟩) (fun (k:Nat)=>k≤L.length) (fun (k:Nat)=>L.length - k) (0) [(0,1),(1,2),(2,3),(3,4),(4,5)] rfl (fun _=>by first|exact Nat.zero_le _|(dsimp only;omega)) ?_ (by ((try (conv=>whnf));exact wkx_Da)) ?_)
 ·exact Nat.zero_le _
 intro k hk
 by_cases hkl:k < L.length
 ·have hput:=hS k hkl
  generalize hx:nth dV L k=v at *
  (refine wx_Da ?_;repeat' (first|with_reducible refine And.intro ?_ ?_|intro hsp))
  all_goals exact next_x (k+1) [] (by (try dsimp only);omega) (by first|omega|(dsimp only;omega)) rfl (by exact wkx_Da)
 ·obtain rfl:k=L.length:=by omega
  (refine wx_Da ?_;repeat' (first|with_reducible refine And.intro ?_ ?_|intro hsp))
  exact end_tabW (fun hs=>wk_tup (wkl_cons (wk_ptr rfl (show 0 < 5 by decide)) (wkl_cons (wk_int rfl) wkl_nil))) rfl rfl rfl rfl rfl
end
end Go.Proofs.YtphggldkligldaaGreat.Sh
namespace Go.Pol
open Go.Am
structure SyOk (fs:List Nat) (s:Sy):Prop where
 good:GoodS s
 nol:s.l=[]
 nog:∀ p,s.M p=false
 kind:∀ p,p < 1024→s.K p=if p ∈ fs then 2 else 0
 byte:∀ p j,0≤s.B p j∧s.B p j < 256
theorem isR_nil {l:List Rl} {C:Nat→Int} {k:Nat} (h:l=[]):isR l C k=false:=by
 subst h;unfold isR;split
 ·rfl
 ·rfl
end Go.Pol
namespace Go.Proofs.YtphggldkligldaaGreat.Sh
open Go Go.Am Go.Pol
def natC (n:Nat):AV:=.int .i64 (n:Nat)
theorem nat_plain {l:List Nat}:∀ x ∈ l.map natC,Plain x:=fun x hx=>by
 obtain ⟨n,_,rfl⟩:=List.mem_map.1 hx;exact plain_int
structure LocSN (f:Nat) (cs:List AV) (n:Nat) (ds:List AV):Prop where
 out:LocC Tryz.prog G0 f [.sl 0 0 n n 1] [(0,.cells cs)] 1 fun x h1=>x = .ptr 1 0∧h1=⟨[(0,.cells cs),(1,.cells ds)],2⟩
 pc:∀ x ∈ cs,Plain x
 pd:∀ x ∈ ds,Plain x
end Go.Proofs.YtphggldkligldaaGreat.Sh
namespace Go.Proofs.YtphggldkligldaaGreat.Sh
open Go Go.Am Go.Pol
end Go.Proofs.YtphggldkligldaaGreat.Sh
namespace Go.Pol
open Go.Am
def frs (L:List Vw):List Nat:=L.map (·.2.2.1)
end Go.Pol
namespace Go.Proofs.YtphggldkligldaaGreat.Sh
open Go Go.Am Go.Pol
theorem nat1_plain (n:Nat):∀ x ∈ [natC n],Plain x:=fun x hx=>by obtain rfl:=List.mem_singleton.1 hx;exact plain_int
def nat1 (n:Nat):List AV:=[natC n]
theorem nat1_len (n:Nat):(nat1 n).length=1:=rfl
section
variable {L:List Vw} {R:List Rw}
def rdN (t:TS) (s:Sy) (a b c d e g:Nat):List (Nat × AObj):=[(a,.cells (tabC b e t.C)),(b,.cells [.sl c 0 t.n t.n 7,.sl d 0 t.m t.m 3,.int .i64 (t.S.fr:Nat)]),(c,.cells (cellsB t.n t.V t.W t.V3 t.V4 t.S.L t.S.N t.S.P)),(d,.cells (endsB t.m t.S.A t.S.B t.S.C)),(e,.maps (t.E.map keyE)),(g,.cells s.a)]
structure LocRd (f:Nat) (avs:List AV) (t:TS) (s:Sy):Prop where
 out:LocC Tryz.prog G0 f avs [] 0 fun x h=>x = .tup [.ptr 0 0,.ptr 5 0]∧h=⟨rdN t s 0 1 2 3 4 5,6⟩
 pa:∀ x ∈ avs,Plain x
end
end Go.Proofs.YtphggldkligldaaGreat.Sh
