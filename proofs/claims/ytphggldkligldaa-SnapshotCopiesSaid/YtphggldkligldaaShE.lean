/-
 New and Load.
 Systems in which frames are committed.
 The law's awake.
 The law's ready: a table and a system.
-/
import Derived.Test.YtphggldkligldaaBa
set_option linter.unusedSimpArgs false
set_option linter.unusedVariables false
namespace Go.Pol
open Go.Am
theorem chain {α:Type} {P:Nat→α→Prop} {S:Nat→α→α→Prop} {n:Nat} (x0:α) (h0:P 0 x0) (hs:∀ k x,k < n→P k x→∃ y,P (k+1) y∧S k x y):∃ f:Nat→α,f 0=x0∧(∀ k,k≤n→P k (f k))∧∀ k,k < n→S k (f k) (f (k+1)):=by
 classical
 refine ⟨fun k=>Nat.rec x0 (fun k x=>if h:k < n∧P k x then Classical.choose (hs k x h.1 h.2) else x) k,rfl,?_,?_⟩
 ·intro k
  induction k with
  | zero=>exact fun _=>h0
  | succ k ih =>
   intro hk
   have h1:=ih (by omega)
   show P (k+1) (dite _ _ _)
   rw [dif_pos ⟨by omega,h1⟩]
   exact (Classical.choose_spec (hs k _ (by omega) h1)).1
 ·have key:∀ k,k≤n→P k (Nat.rec x0 (fun k x=>if h:k < n∧P k x then Classical.choose (hs k x h.1 h.2) else x) k):=by
   intro k
   induction k with
   | zero=>exact fun _=>h0
   | succ k ih =>
    intro hk
    have h1:=ih (by omega)
    show P (k+1) (dite _ _ _)
    rw [dif_pos ⟨by omega,h1⟩]
    exact (Classical.choose_spec (hs k _ (by omega) h1)).1
  intro k hk
  have h1:=key k (by omega)
  show S k _ (dite _ _ _)
  rw [dif_pos ⟨hk,h1⟩]
  exact (Classical.choose_spec (hs k _ hk h1)).2
theorem take_ne {L:List Vw} (h:srt L) {k:Nat} (hk:k < L.length):∀ u ∈ L.take k,¬ atV ((nth dV L k).1,(nth dV L k).2.1) u:=fun u hu ha=>by
 obtain ⟨i,hi,rfl⟩:=List.mem_iff_getElem.1 hu
 rw [List.length_take] at hi
 have h1:=(List.pairwise_iff_getElem.1 h) i k (by omega) hk (by omega)
 rw [List.getElem_take,nth_get hk] at ha
 unfold bef at h1;unfold atV at ha;omega
end Go.Pol
namespace Go.Proofs.Ytphggldkligldaa.Sh
open Go Go.Am Go.Pol
theorem wx_Da {p q:Prop} (hq:q) (h:HidP q→p:=by (intro hQz;((repeat' ((try (conv=>whnf));first|(with_reducible first|refine run_cons ?_|refine runq_cons ?_|refine code_seq ?_|refine code_reg ?_|refine code_cond ?_|refine run_nil ?_|refine runq_nil ?_|refine rund_op rfl ?_|refine rund_nil ?_|refine code_block ?_|refine code_skip ?_|refine code_exit ?_|refine code_ret ?_|refine code_range ?_|refine rund_fast (by decide +kernel) ?_|refine rund_slow (by decide +kernel) ?_|refine br_tt ?_|refine br_ff ?_|refine br_n ?_|refine br_and ?_|refine br_or ?_|refine br_t (by assumption) ?_|refine br_f (by assumption) ?_|refine eq_i64 (by omega) ?_|refine el_tn ?_)|((with_reducible refine br_dt ?_ ?_);focus omega)|((with_reducible refine br_df ?_ ?_);focus omega)|((with_reducible apply br_dq hQz)<;>(try intro hsp hQz))|((with_reducible refine ck_x ?_ ?_);focus (first|omega|rfl|assumption|decide|(simp only [List.length_map,List.length_cons,List.length_nil];omega)))|(with_reducible first|refine eq_tn ?_|refine eq_tn1 ?_|refine eq_tn2 ?_|refine eq_m1 ?_|refine eq_m2 ?_|refine eq_zm ?_|refine eq_z ?_|refine len_map ?_|refine len_sl ?_|refine len_nils ?_|refine len_own' ?_|refine len_isl ?_|refine eq_u8 (by omega) ?_|refine eq_u16 (by omega) ?_)|(with_reducible first|refine eq_rfl ?_|refine ChkX.mk (by kernel_rfl) ?_|refine code_q rfl ?_|refine code_d (by decide +kernel) ?_|refine end_go rfl ?_)|refine cx_new (n:=2000) (m:=64) (by decide) (by decide) (by decide) (by decide) ?_|refine len_map ?_|refine len_isl ?_|refine el_of rfl rfl ?_|refine del_own ?_|refine del_own' rfl ?_|refine as_go rfl ?_|refine rd_go rfl ?_|refine rg_end rfl ?_|refine flat_ownX ?_|refine EqLX.mk ?_|((with_reducible apply br_bq hQz)<;>(try intro hsp hQz))|exact hQz.out))<;>(try (conv=>whnf))))):p:=h ⟨hq⟩
def T0:TS:=⟨2000,64,fun _=>z0,fun _=>w0,fun _=>w0,fun _=>b0,fun _=>[],S0 2000 64,fun _=>dV,[],fun _=>0⟩
theorem tok_0:TOk [] T0:=⟨rfl,rfl,good_0 (by decide) (by decide) (by decide),fun a s hs=>(by cases hs),fun a=>rfl,List.nodup_nil,fun p s=>⟨fun h=>(by cases h),fun h=>(by cases h.1)⟩,rfl,fun f=>rfl,fun v hv=>(by cases hv),List.Pairwise.nil,Nat.zero_le _⟩
theorem tab_0 {p m:Nat}:(.ptr p 0 :: .mapr m::List.replicate 1024 (.int .i64 0):List AV)=tabC p m fun _=>0:=by
 unfold tabC
 congr 2
 refine List.ext_getElem? fun i=>?_
 by_cases h:i < 1024
 ·rw [List.getElem?_replicate,if_pos h,memA_get h];rfl
 ·rw [List.getElem?_eq_none (by rw [List.length_replicate];omega),List.getElem?_eq_none (by rw [memA_len];omega)]
theorem end_newT {top:Bool} {h:Hp} {x r:AV} {t:TS} (a b c d e:Nat) {cs:List AV} (hd:nodB [a,b,c,d,e]=true)
  (hr:SubH (rn [(0,a),(1,b),(2,c),(3,d),(4,e)]) h ⟨tabS t,5⟩→WkV Try.prog (rn [(0,a),(1,b),(2,c),(3,d),(4,e)]) h ⟨tabS t,5⟩ x r) (hc:cs=tabC b e t.C) (h0:lk h.l a=some (.cells cs)) (h1:lk h.l b=some (.cells [.sl c 0 t.n t.n 7,.sl d 0 t.m t.m 3,.int .i64 (t.S.fr:Nat)])) (h2:lk h.l c=some (.cells (cellsB t.n t.V t.W t.V3 t.V4 t.S.L t.S.N t.S.P))) (h3:lk h.l d=some (.cells (endsB t.m t.S.A t.S.B t.S.C))) (h4:lk h.l e=some (.maps (t.E.map keyE))) :
  EndX top Try.prog 0 h x (fun r' h'=>r'=r∧h'=⟨tabS t,5⟩):=by
 subst hc
 have hs:SubH (rn [(0,a),(1,b),(2,c),(3,d),(4,e)]) h ⟨tabS t,5⟩:=fun i o hi=>by
  simp only [tabS,lk] at hi
  split at hi
  ·rename_i e;subst e;exact ⟨_,h0⟩
  ·split at hi
   ·rename_i e;subst e;exact ⟨_,h1⟩
   ·split at hi
    ·rename_i e;subst e;exact ⟨_,h2⟩
    ·split at hi
     ·rename_i e;subst e;exact ⟨_,h3⟩
     ·split at hi
      ·rename_i e;subst e;exact ⟨_,h4⟩
      ·cases hi
 refine end_loc [(0,a),(1,b),(2,c),(3,d),(4,e)] rfl (Nat.zero_le _) (oneOf_of ?_) (hr hs) ?_ ⟨rfl,rfl⟩
 ·exact hd
 ·exact wko_tab hs (show 0 < 5 by decide) h0 rfl (show 1 < 5 by decide) rfl (show 4 < 5 by decide)
   (wko_cells (show 1 < 5 by decide) h1 (wkl_cons (wk_sl rfl (show 2 < 5 by decide) rfl (Nat.le_refl _) (Nat.le_refl _)) (wkl_cons (wk_sl rfl (show 3 < 5 by decide) rfl (Nat.le_refl _) (Nat.le_refl _)) (wkl_cons (wk_int rfl) wkl_nil)))
   (wko_plain hs (show 2 < 5 by decide) h2 rfl cells_plain (wko_plain hs (show 3 < 5 by decide) h3 rfl ends_plain (wko_maps hs (show 4 < 5 by decide) h4 rfl key_plain wko_nil))))
structure LocNT (f:Nat) (avs:List AV) (t:TS):Prop where
 out:LocC Try.prog G0 f avs [] 0 fun x h=>x = .ptr 0 0∧h=⟨tabS t,5⟩
 pa:∀ x ∈ avs,Plain x
structure LocLT (f:Nat) (avs:List AV) (t:TS):Prop where
 out:LocC Try.prog G0 f avs [] 0 fun x h=>x = .tup [.ptr 0 0,.int .i64 0]∧h=⟨tabS t,5⟩
 pa:∀ x ∈ avs,Plain x
def tabN (t:TS) (a b c d e:Nat):List (Nat × AObj):=[(a,.cells (tabC b e t.C)),(b,.cells [.sl c 0 t.n t.n 7,.sl d 0 t.m t.m 3,.int .i64 (t.S.fr:Nat)]),(c,.cells (cellsB t.n t.V t.W t.V3 t.V4 t.S.L t.S.N t.S.P)),(d,.cells (endsB t.m t.S.A t.S.B t.S.C)),(e,.maps (t.E.map keyE))]
theorem rn_tabC {p:Nat→Nat→Prop} {i j i' j':Nat} {C:Nat→Nat} (h:p i i') (h':p j j'):RnL p (tabC i j C) (tabC i' j' C):=⟨rn_ptr h,rn_map h',rnl_plain cnt_plain⟩
theorem cx_NT {f nx:Nat} {avs:List AV} {t:TS} {l:List (Nat × AObj)} {K:AV→Hp→Prop} (hc:LocNT f avs t) (hk:K (.ptr nx 0) ⟨tabN t nx (nx+1) (nx+2) (nx+3) (nx+4)++l,nx+5⟩):CallX Try.prog G0 (.fn f [] []) avs ⟨l,nx⟩ K:=by
 have k0:back [] nx 0 nx:=rfl
 have k1:back [] nx 1 (nx+1):=rfl
 have k2:back [] nx 2 (nx+2):=rfl
 have k3:back [] nx 3 (nx+3):=rfl
 have k4:back [] nx 4 (nx+4):=rfl
 refine cx_loc (r':=.ptr nx 0) (l1:=tabN t nx (nx+1) (nx+2) (nx+3) (nx+4)) [] hc.out plainG rfl .nil (by simpa using rnl_plain hc.pa) (by simp) (rn_ptr k0)
  (.cons k0 (rn_tabC k1 k4) (.cons k1 ⟨rn_sl k2,rn_sl k3,rn_plain plain_int,trivial⟩ (.cons k2 rnl_cells (.cons k3 rnl_ends (.maps k4 key_plain .nil))))) (filtK_nil hk)
set_option maxRecDepth 20000 in
theorem n_New:LocNT 37 [] T0:=by
 refine LocNT.mk (loc_x hmix b37 rfl ?_) fun x hx=>by cases hx
 unfold c37
 (refine wx_Da ?_;repeat' (first|with_reducible refine And.intro ?_ ?_|intro hsp))
 exact end_newT 4 0 1 2 3 rfl (fun hs=>wk_ptr rfl (by decide)) tab_0 rfl rfl rfl rfl rfl
section
variable {L:List Vw} {R:List Rw}
end
end Go.Proofs.Ytphggldkligldaa.Sh
namespace Go.Pol
open Go.Am
structure SyOk (fs:List Nat) (s:Sy):Prop where
 good:GoodS s
 nol:s.l=[]
 nog:∀ p,s.M p=false
 kind:∀ p,p < 1024→s.K p=if p ∈ fs then 2 else 0
 byte:∀ p j,0≤s.B p j∧s.B p j < 256
end Go.Pol
namespace Go.Proofs.Ytphggldkligldaa.Sh
open Go Go.Am Go.Pol
def natC (n:Nat):AV:=.int .i64 (n:Nat)
theorem nat_plain {l:List Nat}:∀ x ∈ l.map natC,Plain x:=fun x hx=>by
 obtain ⟨n,_,rfl⟩:=List.mem_map.1 hx;exact plain_int
structure LocSN (f:Nat) (cs:List AV) (n:Nat) (ds:List AV):Prop where
 out:LocC Try.prog G0 f [.sl 0 0 n n 1] [(0,.cells cs)] 1 fun x h1=>x = .ptr 1 0∧h1=⟨[(0,.cells cs),(1,.cells ds)],2⟩
 pc:∀ x ∈ cs,Plain x
 pd:∀ x ∈ ds,Plain x
end Go.Proofs.Ytphggldkligldaa.Sh
namespace Go.Proofs.Ytphggldkligldaa.Sh
open Go Go.Am Go.Pol
end Go.Proofs.Ytphggldkligldaa.Sh
namespace Go.Pol
open Go.Am
def frs (L:List Vw):List Nat:=L.map (·.2.2.1)
end Go.Pol
namespace Go.Proofs.Ytphggldkligldaa.Sh
open Go Go.Am Go.Pol
theorem nat1_plain (n:Nat):∀ x ∈ [natC n],Plain x:=fun x hx=>by obtain rfl:=List.mem_singleton.1 hx;exact plain_int
def nat1 (n:Nat):List AV:=[natC n]
theorem nat1_len (n:Nat):(nat1 n).length=1:=rfl
section
variable {L:List Vw} {R:List Rw}
def rdN (t:TS) (s:Sy) (a b c d e g:Nat):List (Nat × AObj):=[(a,.cells (tabC b e t.C)),(b,.cells [.sl c 0 t.n t.n 7,.sl d 0 t.m t.m 3,.int .i64 (t.S.fr:Nat)]),(c,.cells (cellsB t.n t.V t.W t.V3 t.V4 t.S.L t.S.N t.S.P)),(d,.cells (endsB t.m t.S.A t.S.B t.S.C)),(e,.maps (t.E.map keyE)),(g,.cells s.a)]
structure LocRd (f:Nat) (avs:List AV) (t:TS) (s:Sy):Prop where
 out:LocC Try.prog G0 f avs [] 0 fun x h=>x = .tup [.ptr 0 0,.ptr 5 0]∧h=⟨rdN t s 0 1 2 3 4 5,6⟩
 pa:∀ x ∈ avs,Plain x
end
end Go.Proofs.Ytphggldkligldaa.Sh
