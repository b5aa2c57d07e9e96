/-
 The runs of the program: its iterator,collected.
 The ends of Save: growing slices become values.
 Pages' bytes as wholes: compared,written,read.
 Save of the program.
-/
import Derived.Test.YtphggldkligldaaGreatVmC
import Derived.Test.YtphggldkligldaaGreatAmWn
set_option linter.unusedSimpArgs false
set_option linter.unusedVariables false
namespace Go.Proofs.YtphggldkligldaaGreat
open Go Go.Am Go.Pol
theorem ppx_Ti {p:Prop} (h:p:=by ((first|with_reducible assumption|with_reducible apply rlA_plain _|with_reducible apply plain_flat rlA_plain|with_reducible apply plain_flat rnA_plain|with_reducible apply rnA_plain|with_reducible apply stA_plain|with_reducible apply memT_plain|with_reducible apply sys_plain stA_plain|with_reducible apply rfk_plain stA_plain|with_reducible apply b_plain|with_reducible apply a_plain|with_reducible apply sys_plain hP|with_reducible apply plain_map (fun _=>plain_int)|with_reducible apply plain_map (fun _=>plain_bool)|exact prx_Sd|fail);first|done|fail)):p:=h
theorem wkx_Ti {p:Prop} (h:p:=by (refine weak_o (by rfl) (by rfl) (fun hz=>by first|exact absurd rfl hz|(simp [lk,lk_ownE hz];done)|exact lk_ownE hz|rfl) (by rfl) (rnA_plain) (by intro hs;(repeat' ((try (conv=>whnf));first|with_reducible exact True.intro|with_reducible refine And.intro ?_ ?_|(with_reducible refine WkX.mk ?_;first|exact wvx_Sd|fail)))) (by intro hs;(repeat' (first|with_reducible exact wko_nil|refine wko_plain hs (by first|decide|omega|simp) rfl (by first|rfl) (by (first|exact ppx_Ti|fail|((refine plain_app ?_ ?_)<;>(first|exact ppx_Ti|fail)))) ?_|refine wko_cells (by first|decide|omega|simp) rfl (by repeat' (first|with_reducible exact wkl_nil|with_reducible refine wkl_cons ?_ ?_|(first|exact wvx_Sd|fail))) ?_|refine wko_loop (by first|decide|omega|simp) rfl (by ((try subst hF);(try subst hF2);exact wkl_sd (wkf_sget (by (repeat' ((try (conv=>whnf));first|with_reducible exact True.intro|with_reducible refine And.intro ?_ ?_|(with_reducible refine WkX.mk ?_;first|exact wvx_Sd|fail))))))) ?_|exact wko_nil))))):p:=h
theorem wx_Ti {p q:Prop} (hq:q) (h:HidP q→p:=by (intro hQz;((repeat' ((try (conv=>whnf));first|(with_reducible first|refine run_cons ?_|refine runq_cons ?_|refine code_seq ?_|refine code_reg ?_|refine code_cond ?_|refine run_nil ?_|refine runq_nil ?_|refine rund_op rfl ?_|refine rund_nil ?_|refine code_block ?_|refine code_skip ?_|refine code_exit ?_|refine code_ret ?_|refine code_range ?_|refine rund_fast (by decide +kernel) ?_|refine rund_slow (by decide +kernel) ?_|refine br_tt ?_|refine br_ff ?_|refine br_n ?_|refine br_and ?_|refine br_or ?_|refine br_t (by assumption) ?_|refine br_f (by assumption) ?_|refine eq_i64 (by omega) ?_|refine el_tn ?_)|((with_reducible refine br_dt ?_ ?_);focus omega)|((with_reducible refine br_df ?_ ?_);focus omega)|((with_reducible apply br_dq hQz)<;>(try intro hsp hQz))|((with_reducible refine ck_x ?_ ?_);focus (first|omega|rfl|assumption|decide|(simp only [List.length_map,List.length_cons,List.length_nil];omega)))|(with_reducible first|refine eq_tn ?_|refine eq_tn1 ?_|refine eq_tn2 ?_|refine eq_m1 ?_|refine eq_m2 ?_|refine eq_zm ?_|refine eq_z ?_|refine len_map ?_|refine len_sl ?_|refine len_nils ?_|refine len_own' ?_|refine len_isl ?_|refine eq_u8 (by omega) ?_|refine eq_u16 (by omega) ?_)|refine nthK_of (by with_reducible assumption) ?_|(with_reducible first|refine eq_rfl ?_|refine ChkX.mk (by kernel_rfl) ?_|refine code_q rfl ?_|refine code_d (by decide +kernel) ?_|refine end_go rfl ?_)|refine cx_yldE hmix rfl hF hA hB rfl ?_|refine apps_own (f:=rnA) (l2:=[⟨(p:Nat),(q:Int) - (p:Int),K p⟩]) rn_len (src_of rfl rfl) (fun hz=>by first|(simp [lk,lk_ownE hz];done)|exact lk_ownE hz) (fun hz=>by first|(simp [lk,lk_ownN hz];done)|exact lk_ownN hz) rfl (by decide) ⟨by omega,by omega⟩ rfl ?_|(refine appx_own (f:=rnA) (l2:=[⟨(p:Nat),(q:Int) - (p:Int),K p⟩]) rn_len (src_of rfl rfl) (fun hz=>by first|(simp [lk,lk_ownE hz];done)|exact lk_ownE hz) rfl (by decide) ⟨by omega,by omega⟩ ?_ ?_<;>intro hzz)|refine apps_own (f:=rnA) (l2:=[⟨(p:Nat),((1024:Nat):Int) - (p:Int),K p⟩]) rn_len (src_of rfl rfl) (fun hz=>by first|(simp [lk,lk_ownE hz];done)|exact lk_ownE hz) (fun hz=>by first|(simp [lk,lk_ownN hz];done)|exact lk_ownN hz) rfl (by decide) ⟨by omega,by omega⟩ rfl ?_|(refine appx_own (f:=rnA) (l2:=[⟨(p:Nat),((1024:Nat):Int) - (p:Int),K p⟩]) rn_len (src_of rfl rfl) (fun hz=>by first|(simp [lk,lk_ownE hz];done)|exact lk_ownE hz) rfl (by decide) ⟨by omega,by omega⟩ ?_ ?_<;>intro hzz)|(refine cx_in hmix b141 rfl ?_;unfold c141)|refine len_map ?_|refine len_isl ?_|refine el_of rfl rfl ?_|refine del_own ?_|refine del_own' rfl ?_|refine as_go rfl ?_|refine rd_go rfl ?_|refine rg_end rfl ?_|refine flat_ownX ?_|refine EqLX.mk ?_|((with_reducible apply br_bq hQz)<;>(try intro hsp hQz))|exact hQz.out))<;>(try (conv=>whnf))))):p:=h ⟨hq⟩
section
variable {K:Nat→Int} {M:Nat→Bool} {B:Nat→Nat→Int} {P:List AV}
theorem wk_frzRn {σ:Nat→Nat} {h h':Hp} {d n:Nat} {L:List Rn} (hn:L.length=n) (hi:L.length ≠ 0→lk h.l d=some (.cells (flat rnA L))) (hi':∀ j o,lk h'.l j=some o→σ j ≠ d) (hs:SubH σ h h'):WkV Tryz.prog σ h h' (ownV d 3 n) (.isl (L.map rnA)):=by
 subst hn
 by_cases hz:L.length=0
 ·rw [hz,own_z]
  cases List.eq_nil_of_length_eq_zero hz
  exact wk_nils
 ·rw [own_s hz]
  refine wk_frz (hi hz) hi' hs (by simp) (fun e he=>?_) ?_ fun e he x hx=>?_
  ·obtain ⟨s,_,rfl⟩:=List.mem_map.1 he;rfl
  ·rw [List.drop_zero,List.take_of_length_le (by rw [flat_len rn_len];exact Nat.le_refl _)];rfl
  ·obtain ⟨s,_,rfl⟩:=List.mem_map.1 he;exact rnA_plain s x hx
theorem end_col {top:Bool} {h:Hp} {x r:AV} {cs:List AV} (hr:WkV Tryz.prog (rn []) h ⟨[(0,.cells cs),(1,.cells [.ptr 0 0])],2⟩ x r) (h0:lk h.l 0=some (.cells cs)) (h1:lk h.l 1=some (.cells [.ptr 0 0])) (pd:∀ x ∈ cs,Plain x) :
  EndX top Tryz.prog 2 h x (fun r' h'=>r'=r∧h'=⟨[(0,.cells cs),(1,.cells [.ptr 0 0])],2⟩):=by
 have hs:SubH (rn []) h ⟨[(0,.cells cs),(1,.cells [.ptr 0 0])],2⟩:=fun i o hi=>by
  simp only [lk] at hi
  show ∃ o',lk h.l i=some o'
  split at hi
  ·rename_i e;subst e;exact ⟨_,h0⟩
  ·split at hi
   ·rename_i e;subst e;exact ⟨_,h1⟩
   ·cases hi
 exact end_loc [] rfl (Nat.le_refl _) (oneOf_of rfl) hr (wko_plain hs (show 0 < 2 by decide) h0 rfl pd (wko_cells (show 1 < 2 by decide) h1 (wkl_cons (wk_ptr rfl (show 0 < 2 by decide)) wkl_nil) wko_nil)) ⟨rfl,rfl⟩
theorem col_not {cs:List AV} {d:Nat} (hd:2≤d):∀ j o,lk (Hp.mk [(0,.cells cs),(1,.cells [.ptr 0 0])] 2).l j=some o→rn [] j ≠ d:=fun j o hj=>by
 simp only [lk] at hj
 show j ≠ d
 split at hj
 ·omega
 ·split at hj
  ·omega
  ·cases hj
theorem col_sub {h:Hp} {cs:List AV} (h0:∃ o,lk h.l 0=some o) (h1:∃ o,lk h.l 1=some o):SubH (rn []) h ⟨[(0,.cells cs),(1,.cells [.ptr 0 0])],2⟩:=fun i o hi=>by
 simp only [lk] at hi
 show ∃ o',lk h.l i=some o'
 split at hi
 ·rename_i e;subst e;exact h0
 ·split at hi
  ·rename_i e;subst e;exact h1
  ·cases hi
set_option maxHeartbeats 800000 in
theorem l_collect (hP:∀ x ∈ P,Plain x):LocC Tryz.prog G0 83 [.fn 142 [] [.ptr 1 0]] [(0,.cells (sysB K M B P)),(1,.cells [.ptr 0 0])] 2 fun x h1=>x = .isl ((runsTo K 1024).map rnA)∧h1=⟨[(0,.cells (sysB K M B P)),(1,.cells [.ptr 0 0])],2⟩:=by
 refine loc_x hmix b83 rfl ?_
 unfold c83
 (refine wx_Ti ?_;repeat' (first|with_reducible refine And.intro ?_ ?_|intro hsp))
 refine range_x hmix b142 rfl trivial ?_
 intro frl asl bdl hF hA hB
 unfold c142
 (refine wx_Ti ?_;repeat' (first|with_reducible refine And.intro ?_ ?_|intro hsp))
 (refine loop_x [0,1] (fun (p:Nat)=>[(3,.int .i64 (p:Nat))]) (fun (p:Nat)=>⟨[(0,.cells (sysB K M B P)),(1,.cells [.ptr 0 0]),(2,.cells [ownV 4 3 (runsTo K p).length]),(3,.loop .ready none frl [7] asl bdl)]++ownH 4 rnA (runsTo K p),5⟩) (fun (p:Nat)=>p≤1024∧(p=0∨p=1024∨K (p - 1) ≠ K p)) (fun (p:Nat)=>1024 - p) (0) [] rfl (fun _=>by first|exact Nat.zero_le _|(dsimp only;omega)) ?_ (by ((try (conv=>whnf));exact wkx_Ti)) ?_)
 ·exact ⟨Nat.zero_le _,.inl rfl⟩
 rintro p ⟨hp,hb⟩
 have hL:=runs_len (K:=K) (n:=p)
 by_cases hp4:p < 1024
 ·have hk:(sysB K M B P)[1+p * 66+0]? = some (.int .i64 (K p)):=sys_kind (by omega)
  (refine wx_Ti ?_;repeat' (first|with_reducible refine And.intro ?_ ?_|intro hsp))
  (refine loop_x [0,1,4] (fun (q:Nat)=>[(3,.int .i64 (q:Nat))]) (fun (q:Nat)=>⟨[(0,.cells (sysB K M B P)),(1,.cells [.ptr 0 0]),(2,.cells [ownV 4 3 (runsTo K p).length]),(3,.loop .ready none frl [7] asl bdl),(5,.cells [.int .i64 (p:Nat),.int .i64 ((q:Int) - (p:Int)),.int .i64 (K p)])]++ownH 4 rnA (runsTo K p),6⟩) (fun (q:Nat)=>p≤q∧q≤1024∧∀ i,i < q - p→K (p+i)=K p) (fun (q:Nat)=>1024 - q) (p) [] rfl (fun _=>by first|exact Nat.zero_le _|(dsimp only;omega)) ?_ (by ((try (conv=>whnf));(rw [Int.sub_self]);exact wkx_Ti)) ?_)
  ·exact ⟨Nat.le_refl _,by omega,fun i hi=>by omega⟩
  rintro q ⟨h1,h2,h3⟩
  by_cases hq:q < 1024
  ·have hk:(sysB K M B P)[1+q * 66+0]? = some (.int .i64 (K q)):=sys_kind (by omega)
   by_cases h4:K q=K p
   ·(refine wx_Ti ?_;repeat' (first|with_reducible refine And.intro ?_ ?_|intro hsp))
    all_goals exact next_x (q+1) [] ⟨by omega,by omega,fun i hi=>if e:p+i=q then by rw [e];exact h4 else h3 i (by omega)⟩ (by first|omega|(dsimp only;omega)) rfl (by exact wkx_Ti)
   ·have hpq:p < q:=by
     by_cases e:q=p
     ·exact absurd (by rw [e]) h4
     ·omega
    have hb2:K (q - 1) ≠ K q:=by
     have:=h3 (q - 1 - p) (by omega)
     rw [show p+(q - 1 - p)=q - 1 by omega] at this
     rw [this];exact fun e=>h4 e.symm
    (refine wx_Ti ?_;repeat' (first|with_reducible refine And.intro ?_ ?_|intro hsp))
    ·have hr:runsTo K q=runsTo K p:=by
      have:=runs_free (K:=K) (p:=p) (j:=q - p) fun i hi=>(h3 i hi).trans hsp
      rw [show p+(q - p)=q by omega] at this;exact this
     exact next_x q [] ⟨h2,.inr (.inr hb2)⟩ (by first|omega|(dsimp only;omega)) rfl (by ((try dsimp only);rw [hr]);exact wkx_Ti)
    ·have hr:runsTo K q=runsTo K p++[⟨(p:Nat),(q:Int) - (p:Int),K p⟩]:=by
      have:=runs_run (K:=K) (p:=p) (j:=q - p - 1) (hb.elim .inl fun h=>h.elim (fun h=>by omega) .inr) hsp fun i hi=>h3 i (by omega)
      rw [show p+(q - p - 1+1)=q by omega] at this;rw [this];congr 3;omega
     exact next_x q [(4,22)] ⟨h2,.inr (.inr hb2)⟩ (by first|omega|(dsimp only;omega)) rfl (by ((try dsimp only);rw [hr]);exact wkx_Ti)
  ·have hpq:p < q:=by omega
   obtain rfl:q=1024:=by omega
   (refine wx_Ti ?_;repeat' (first|with_reducible refine And.intro ?_ ?_|intro hsp))
   ·have hr:runsTo K 1024=runsTo K p:=by
     have:=runs_free (K:=K) (p:=p) (j:=1024 - p) fun i hi=>(h3 i hi).trans hsp
     rw [show p+(1024 - p)=1024 by omega] at this;exact this
    exact next_x 1024 [] ⟨h2,.inr (.inl rfl)⟩ (by first|omega|(dsimp only;omega)) rfl (by ((try dsimp only);rw [hr]);exact wkx_Ti)
   ·have hr:runsTo K 1024=runsTo K p++[⟨(p:Nat),((1024:Nat):Int) - (p:Int),K p⟩]:=by
     have:=runs_run (K:=K) (p:=p) (j:=1024 - p - 1) (hb.elim .inl fun h=>h.elim (fun h=>by omega) .inr) hsp fun i hi=>h3 i (by omega)
     rw [show p+(1024 - p - 1+1)=1024 by omega] at this;rw [this];congr 3;omega
    exact next_x 1024 [(4,22)] ⟨h2,.inr (.inl rfl)⟩ (by first|omega|(dsimp only;omega)) rfl (by ((try dsimp only);rw [hr]);exact wkx_Ti)
 ·obtain rfl:p=1024:=by omega
  (refine wx_Ti ?_;repeat' (first|with_reducible refine And.intro ?_ ?_|intro hsp))
  all_goals exact end_col (wk_frzRn rfl (fun hz=>lk_ownE hz) (col_not (by decide)) (col_sub ⟨_,rfl⟩ ⟨_,rfl⟩)) rfl rfl (sys_plain hP)
end
end Go.Proofs.YtphggldkligldaaGreat
namespace Go.Proofs.YtphggldkligldaaGreat
open Go Go.Am Go.Pol
theorem wk_frzF {α:Type} {f:α→List AV} {σ:Nat→Nat} {h h':Hp} {d n sz:Nat} {L:List α} (hf:∀ x,(f x).length=sz) (hp:∀ c,∀ x ∈ f c,Plain x) (hn:L.length=n) (hi:L.length ≠ 0→lk h.l d=some (.cells (flat f L))) (hi':∀ j o,lk h'.l j=some o→σ j ≠ d) (hs:SubH σ h h'):WkV Tryz.prog σ h h' (ownV d sz n) (.isl (L.map f)):=by
 subst hn
 by_cases hz:L.length=0
 ·rw [hz,own_z]
  cases List.eq_nil_of_length_eq_zero hz
  exact wk_nils
 ·rw [own_s hz]
  refine wk_frz (hi hz) hi' hs (by simp) (fun e he=>?_) ?_ fun e he x hx=>?_
  ·obtain ⟨s,_,rfl⟩:=List.mem_map.1 he;exact hf s
  ·rw [List.drop_zero,List.take_of_length_le (by rw [flat_len hf];exact Nat.le_refl _)];rfl
  ·obtain ⟨s,_,rfl⟩:=List.mem_map.1 he;exact hp s x hx
theorem one_not {cs:List AV} {d:Nat} (hd:1≤d):∀ j o,lk (Hp.mk [(0,.cells cs)] 1).l j=some o→rn [] j ≠ d:=fun j o hj=>by
 simp only [lk] at hj
 show j ≠ d
 split at hj
 ·omega
 ·cases hj
theorem one_sub {h:Hp} {cs:List AV} (h0:∃ o,lk h.l 0=some o):SubH (rn []) h ⟨[(0,.cells cs)],1⟩:=fun i o hi=>by
 simp only [lk] at hi
 show ∃ o',lk h.l i=some o'
 split at hi
 ·rename_i e;subst e;exact h0
 ·cases hi
theorem end_one {top:Bool} {h:Hp} {x r:AV} {cs:List AV} (hr:WkV Tryz.prog (rn []) h ⟨[(0,.cells cs)],1⟩ x r) (h0:lk h.l 0=some (.cells cs)) (pd:∀ x ∈ cs,Plain x):EndX top Tryz.prog 1 h x (fun r' h'=>r'=r∧h'=⟨[(0,.cells cs)],1⟩) :=
 end_loc [] rfl (Nat.le_refl _) (oneOf_of rfl) hr (wko_plain (one_sub ⟨_,h0⟩) (show 0 < 1 by decide) h0 rfl pd wko_nil) ⟨rfl,rfl⟩
theorem end_save {cs c1 c2:List AV} {R:List Rn} {U:List Int} {D:List Dt} {l:List Rl} {C H:Nat→Int} (pd:∀ x ∈ cs,Plain x):EndX true Tryz.prog 1 ⟨(0,.cells cs)::(1,.cells c1)::(2,.cells c2)::(ownH 3 inA U++(ownH 4 dtA D++[])),5⟩ (.agg [.isl (R.map rnA),ownV 3 1 U.length,ownV 4 65 D.length,.isl (l.map rlA),.int .i64 (C 0),.int .i64 (C 1),.int .i64 (C 2),.int .i64 (C 3),.int .i64 (C 4),.int .i64 (C 5),.int .i64 (C 6),.int .i64 (H 0),.int .i64 (H 1),.int .i64 (H 2),.int .i64 (H 3),.int .i64 (H 4),.int .i64 (H 5),.int .i64 (H 6)]) (fun x h1=>x = .agg (vsA ⟨R,U,D,l,C,H⟩)∧h1=⟨[(0,.cells cs)],1⟩):=by
 have hs:SubH (rn []) ⟨(0,.cells cs)::(1,.cells c1)::(2,.cells c2)::(ownH 3 inA U++(ownH 4 dtA D++[])),5⟩ ⟨[(0,.cells cs)],1⟩:=one_sub ⟨_,rfl⟩
 refine end_one (wk_agg (wkl_cons (wk_plain hs (plain_isls rnA_plain)) (wkl_cons (wk_frzF in_len inA_plain rfl (fun hz=>by simp [lk,lk_ownS hz]) (one_not (by decide)) hs) (wkl_cons (wk_frzF dt_len dtA_plain rfl (fun hz=>by simp [lk,lk_own,lk_ownE hz]) (one_not (by decide)) hs) (wkl_plain hs stA_plain))))) rfl pd
end Go.Proofs.YtphggldkligldaaGreat
namespace Go.Pol
open Go.Am
theorem over_all:∀ {vs cs pre:List AV},cs.length=vs.length→over (pre++cs) pre.length vs=pre++vs
 | [],cs,pre,h=>by
  have : cs=[]:=List.eq_nil_of_length_eq_zero (by simpa using h)
  subst this;rfl
 | v::vs,[],pre,h=>by simp at h
 | v::vs,c::cs,pre,h=>by
  show over ((pre++c::cs).set pre.length v) (pre.length+1) vs=_
  rw [List.set_append_right _ _ (Nat.le_refl _),Nat.sub_self,List.set_cons_zero]
  have:=over_all (vs:=vs) (cs:=cs) (pre:=pre++[v]) (by simpa using h)
  rw [List.length_append,List.append_assoc,List.append_assoc] at this
  exact this
theorem y_take {y:List AV} (h:y.length=64):y.take 64=y:=List.take_of_length_le (by omega)
theorem y_drop {y:List AV}:y.drop 0=y:=rfl
theorem over_y {y:List AV} (h:y.length=64):over (List.replicate 64 (AV.int .u8 0)) 0 y=y:=over_all (pre:=[]) (by rw [h];rfl)
theorem over_y1 {y:List AV} {x:AV} (h:y.length=64):over (x::List.replicate 64 (AV.int .u8 0)) 1 y=x::y:=over_all (pre:=[x]) (by rw [h];rfl)
theorem eqL_by (b:Nat→Int):eqL (List.replicate 64 0) (byA b) (List.replicate 64 (.int .u8 0))=some (decide (zeroB b)):=by
 have key:∀ (F:Nat→Int) (n k:Nat),∃ t,eqL (List.replicate n 0) ((List.range' k n).map fun j=>.int .u8 (F j)) (List.replicate n (.int .u8 0))=some t∧(t=true ↔ ∀ j,k≤j→j < k+n→F j=0):=by
  intro F n
  induction n with
  | zero=>intro k;exact ⟨true,rfl,⟨fun _ j h1 h2=>by omega,fun _=>rfl⟩⟩
  | succ n ih =>
   intro k
   obtain ⟨t,h1,h2⟩:=ih (k+1)
   refine ⟨(F k == 0) && t,?_,?_⟩
   ·rw [List.replicate_succ,List.replicate_succ,List.range'_succ,List.map_cons]
    simp only [eqL,eq1,if_true,Option.bind_some,h1,Option.map_some]
   ·rw [Bool.and_eq_true,beq_iff_eq,h2]
    constructor
    ·rintro ⟨h1,h2⟩ j hj1 hj2
     by_cases e:j=k
     ·rw [e];exact h1
     ·exact h2 j (by omega) (by omega)
    ·intro h;exact ⟨h k (Nat.le_refl _) (by omega),fun j h1 h2=>h j (by omega) (by omega)⟩
 obtain ⟨t,h1,h2⟩:=key b 64 0
 unfold byA
 rw [List.range_eq_range',h1]
 congr 1
 rw [Bool.eq_iff_iff,h2,decide_eq_true_eq]
 exact ⟨fun h j hj=>h j (Nat.zero_le _) (by omega),fun h j _ hj=>h j (by omega)⟩
section
variable {K:Nat→Int} {M G:Nat→Bool} {B:Nat→Nat→Int} {P:List AV} {p o:Nat}
theorem sys_bytes (hp:p < 1024):((sysB K M B P).drop (1+p * 66+2)).take 64=byA (B p):=by
 rw [sysB,memA_part (by omega)]
 unfold byA
 refine List.map_congr_left fun j hj=>?_
 have hj:=List.mem_range.1 hj
 rw [Nat.add_assoc (1+p * 66),sysF_page hp (by omega)]
 unfold pageF
 rw [if_neg (by omega),if_neg (by omega),show 2+j - 2=j by omega]
theorem sys_rules {l:List Rl} {C H:Nat→Int} (h:o=67585):(sysB K M B (stA l C H))[o+0+0]? = some (.isl (l.map rlA)):=by
 show _[o]? = _
 have e:=sys_planO (K:=K) (M:=M) (B:=B) h (stA_len (l:=l) (C:=C) (H:=H))
 have:=List.getElem?_take_of_lt (l:=(sysB K M B (stA l C H)).drop o) (i:=0) (j:=15) (by decide)
 rw [e,List.getElem?_drop,Nat.add_zero] at this
 rw [← this];rfl
end
end Go.Pol
namespace Go.Proofs.YtphggldkligldaaGreat
open Go Go.Am Go.Pol
theorem plx_Tj {p:Prop} (h:p:=by ((first|assumption|exact plain_int|exact plain_bool|exact plain_undef|exact plain_nils|exact plain_nilp|exact plain_nilf|exact plain_str|with_reducible apply plain_rl|with_reducible apply plain_rls|with_reducible apply plain_pl|with_reducible apply plain_ii|with_reducible apply plain_st|with_reducible apply plain_stE|with_reducible apply plain_zst|with_reducible apply plain_zstE|with_reducible apply plain_irl|with_reducible apply plain_mk|with_reducible apply plain_stB|with_reducible apply plain_zstB|with_reducible apply plain_isls rnA_plain|with_reducible apply plain_isls inA_plain|with_reducible apply plain_isls dtA_plain|fail);first|done|fail)):p:=h
theorem prx_Tj {p:Prop} (h:p:=by (((repeat' (first|exact plain_all0|refine plain_all2 ?_ ?_|exact plain_int|first|assumption|exact plain_int|exact plain_bool|exact plain_undef|exact plain_nils|exact plain_nilp|exact plain_nilf|exact plain_str|with_reducible apply plain_rl|with_reducible apply plain_rls|with_reducible apply plain_pl|with_reducible apply plain_ii|with_reducible apply plain_st|with_reducible apply plain_stE|with_reducible apply plain_zst|with_reducible apply plain_zstE|with_reducible apply plain_irl|with_reducible apply plain_mk|with_reducible apply plain_stB|with_reducible apply plain_zstB|with_reducible apply plain_isls rnA_plain|with_reducible apply plain_isls inA_plain|with_reducible apply plain_isls dtA_plain)));first|done|fail)):p:=h
theorem ppx_Tj {p:Prop} (h:p:=by ((first|with_reducible assumption|with_reducible apply rlA_plain _|with_reducible apply plain_flat rlA_plain|with_reducible apply plain_flat rnA_plain|with_reducible apply rnA_plain|with_reducible apply stA_plain|with_reducible apply memT_plain|with_reducible apply sys_plain stA_plain|with_reducible apply rfk_plain stA_plain|with_reducible apply b_plain|with_reducible apply a_plain|with_reducible apply plain_map (fun _=>plain_int)|with_reducible apply plain_map (fun _=>plain_bool)|exact prx_Tj|fail);first|done|fail)):p:=h
theorem wvx_Tj {p:Prop} (h:p:=by ((first|exact wk_undef|exact wk_int (by first|rfl|omega|(dsimp only;omega))|exact wk_bool rfl|exact wk_ptr rfl (by first|decide|simp|omega)|exact wk_sl rfl (by first|decide|simp|omega) (by first|rfl|omega|simp) (by first|omega|simp) (by first|omega|simp)|exact wk_own rfl (by first|decide|simp|omega)|exact wk_nil0 (by first|rfl|simp)|exact wk_slown rfl (by first|decide|omega|(simp;done)) (by first|omega|(simp;done)) (by first|rfl|omega|(simp;done)|(simp;omega))|exact wk_plain hs plx_Tj|(with_reducible refine wk_fn ?_ ?_<;>repeat' (first|with_reducible exact wkl_nil|with_reducible refine wkl_cons ?_ ?_|exact wk_ptr rfl (by first|decide|simp|omega)))|(with_reducible refine wk_agg ?_;repeat' (first|with_reducible exact wkl_nil|with_reducible refine wkl_cons ?_ ?_|exact wk_int (by first|rfl|omega|(dsimp only;omega))|exact wk_bool rfl))|exact wk_yld rfl (by first|decide|simp|omega)|fail);first|done|fail)):p:=h
theorem wkx_Tj {p:Prop} (h:p:=by (refine weak_t (by rfl) (by rfl) (tl_cons inA_plain (by rfl) (fun hz=>by first|exact absurd rfl hz|(simp [lk,rn,lk_own,lk_ownS hz,lk_ownE hz];done)|rfl) (tl_cons dtA_plain (by rfl) (fun hz=>by first|exact absurd rfl hz|(simp [lk,rn,lk_own,lk_ownS hz,lk_ownE hz];done)|rfl) tl_nil)) (by intro hs;(repeat' ((try (conv=>whnf));first|with_reducible exact True.intro|with_reducible refine And.intro ?_ ?_|(with_reducible refine WkX.mk ?_;first|exact wvx_Tj|fail)))) (by intro hs;(repeat' (first|with_reducible exact wko_nil|refine wko_plain hs (by first|decide|omega|simp) rfl (by first|rfl) (by (first|exact ppx_Tj|fail|((refine plain_app ?_ ?_)<;>(first|exact ppx_Tj|fail)))) ?_|refine wko_cells (by first|decide|omega|simp) rfl (by repeat' (first|with_reducible exact wkl_nil|with_reducible refine wkl_cons ?_ ?_|(first|exact wvx_Tj|fail))) ?_|refine wko_loop (by first|decide|omega|simp) rfl (by ((try subst hF);(try subst hF2);exact wkl_sd (wkf_sget (by (repeat' ((try (conv=>whnf));first|with_reducible exact True.intro|with_reducible refine And.intro ?_ ?_|(with_reducible refine WkX.mk ?_;first|exact wvx_Tj|fail))))))) ?_|exact wko_nil))))):p:=h
theorem l_runs:LocC Tryz.prog G0 84 [.ptr 0 0] [] 1 fun x h=>x = .fn 142 [] [.ptr 1 0]∧h=⟨[(1,.cells [.ptr 0 0])],2⟩:=by
 refine loc_x hmix b84 rfl ?_
 unfold c84
 (refine wx_Tc ?_;repeat' (first|with_reducible refine And.intro ?_ ?_|intro hsp))
 all_goals exact end_loc [] rfl (by decide) (oneOf_of rfl) (wk_fn wkl_nil (wkl_cons (wk_ptr rfl (show 1 < 2 by decide)) wkl_nil)) (wko_cells (show 1 < 2 by decide) rfl (wkl_cons (wk_ptr rfl (show 0 < 2 by decide)) wkl_nil) wko_nil) ⟨rfl,rfl⟩
theorem dcx_runs {h:Hp} {K:AV→Up→List Nat→Prop} {cs:List AV} (h0:lk h.l 0=some (.cells cs)) (hk:K (.fn 142 [] [.ptr h.next 0]) [(h.next,some (.cells [.ptr 0 0]))] [0]):DCallX Tryz.prog G0 84 [.ptr 0 0] h K:=by
 have e0:enter [0] 0 0:=rfl
 have k0:oneMore [0] h.next 0 0:=.inl rfl
 have k1:oneMore [0] h.next 1 h.next:=.inr ⟨rfl,rfl⟩
 exact dcx_new (r':=.fn 142 [] [.ptr h.next 0]) (cs':=[.ptr 0 0]) [0] l_runs plainG (fun n hn=>by obtain rfl:=List.mem_singleton.1 hn;exact ⟨_,h0⟩) ⟨rn_ptr e0,trivial⟩ (rn_fn trivial ⟨rn_ptr k1,trivial⟩) ⟨rn_ptr k0,trivial⟩ hk
section
variable {K:Nat→Int} {M:Nat→Bool} {B:Nat→Nat→Int} {P:List AV}
theorem dcx_collect {h:Hp} {Q:AV→Up→List Nat→Prop} {b:Nat} (hP:∀ x ∈ P,Plain x) (hb:Nat.beq b 0=false) (h0:lk h.l 0=some (.cells (sysB K M B P))) (h1:lk h.l b=some (.cells [.ptr 0 0])) (hk:Q (.isl ((runsTo K 1024).map rnA)) [] [0,b]):DCallX Tryz.prog G0 83 [.fn 142 [] [.ptr b 0]] h Q:=by
 have hne:b ≠ 0:=beq_ne hb
 have e0:enter [0,b] 0 0:=rfl
 have e1:enter [0,b] b 1:=rfl
 refine ⟨_,_,_,fnU_ro (p:=enter [0,b]) (g:=fun j=>[0,b].getD j 0) (l_collect (K:=K) (M:=M) (B:=B) hP) plainG ?_ ⟨rn_fn trivial ⟨rn_ptr e1,trivial⟩,trivial⟩ (rn_plain (plain_isls rnA_plain)),hk⟩
 refine ⟨fun i j hij=>?_,fun i j j' h1 h2=>?_,fun j o hj=>?_,fun i hi=>?_⟩
 ·have hij:[0,b][j]? = some i:=hij
  match j,hij with
  | 0,hij=>cases hij;exact ⟨by decide,rfl,List.mem_cons_self ..⟩
  | 1,hij=>cases hij;exact ⟨by decide,rfl,List.mem_cons_of_mem _ (List.mem_cons_self ..)⟩
 ·have h1:[0,b][j]? = some i:=h1
  have h2:[0,b][j']? = some i:=h2
  match j,j',h1,h2 with
  | 0,0,_,_=>rfl
  | 1,1,_,_=>rfl
  | 0,1,h1,h2=>cases h1;cases h2;exact absurd rfl hne
  | 1,0,h1,h2=>cases h1;cases h2;exact absurd rfl hne
 ·simp only [lk] at hj
  split at hj
  ·rename_i e;subst e;cases hj;exact ⟨0,_,_,e0,h0,rfl,rnl_plain (sys_plain hP),rnl_plain (sys_plain hP)⟩
  ·split at hj
   ·rename_i e;subst e;cases hj;exact ⟨b,_,_,e1,h1,rfl,⟨rn_ptr e0,trivial⟩,⟨rn_ptr (p:=fun j i=>enter [0,b] i j) (i:=0) (j:=0) e0,trivial⟩⟩
   ·cases hj
 ·rcases List.mem_cons.1 hi with rfl|hi
  ·exact ⟨0,_,e0,rfl⟩
  ·obtain rfl:=List.mem_singleton.1 hi;exact ⟨1,_,e1,rfl⟩
end
theorem wtj {p q:Prop} (hq:q) (h:HidP q→p:=by (intro hQz;((repeat' ((try (conv=>whnf));first|(with_reducible first|refine run_cons ?_|refine runq_cons ?_|refine code_seq ?_|refine code_reg ?_|refine code_cond ?_|refine run_nil ?_|refine runq_nil ?_|refine rund_op rfl ?_|refine rund_nil ?_|refine code_block ?_|refine code_skip ?_|refine code_exit ?_|refine code_ret ?_|refine code_range ?_|refine rund_fast (by decide +kernel) ?_|refine rund_slow (by decide +kernel) ?_|refine br_tt ?_|refine br_ff ?_|refine br_n ?_|refine br_and ?_|refine br_or ?_|refine br_t (by assumption) ?_|refine br_f (by assumption) ?_|refine eq_i64 (by omega) ?_|refine el_tn ?_)|((with_reducible refine br_dt ?_ ?_);focus omega)|((with_reducible refine br_df ?_ ?_);focus omega)|((with_reducible apply br_dq hQz)<;>(try intro hsp hQz))|((with_reducible refine ck_x ?_ ?_);focus (first|omega|rfl|assumption|decide|(simp only [List.length_map,List.length_cons,List.length_nil];omega)|(simp only [List.length_cons];omega)))|(with_reducible first|refine eq_tn ?_|refine eq_tn1 ?_|refine eq_tn2 ?_|refine eq_m1 ?_|refine eq_m2 ?_|refine eq_zm ?_|refine eq_z ?_|refine len_map ?_|refine len_sl ?_|refine len_nils ?_|refine len_own' ?_|refine len_isl ?_|refine eq_u8 (by omega) ?_|refine eq_u16 (by omega) ?_)|refine nthK_of (by with_reducible assumption) ?_|refine nthK_of sys_made ?_|refine eq_of (by with_reducible assumption) ?_|refine dropK_of (by rw [sys_len];omega) rfl ?_|refine takeK_of (by rw [List.length_drop,sys_len];omega) (by with_reducible assumption) ?_|refine takeK_of (by omega) (y_take (by with_reducible assumption)) ?_|refine dropK_of (Nat.zero_le _) y_drop ?_|refine overK_of (by first|(simp only [List.length_replicate];omega)|fail) (over_y (by with_reducible assumption)) ?_|refine overK_of (by first|(simp only [List.length_cons,List.length_nil];omega)|fail) (over_y1 (by with_reducible assumption)) ?_|refine eqlx_of (by with_reducible assumption) ?_|refine del_tS ?_|refine del_tO rfl ?_|refine del_n ?_|(with_reducible first|refine eq_rfl ?_|refine ChkX.mk (by kernel_rfl) ?_|refine code_q rfl ?_|refine code_d (by decide +kernel) ?_|refine end_go rfl ?_)|refine dcx_collect stA_plain rfl rfl rfl ?_|refine dcx_runs rfl ?_|refine cx_pureS (by assumption) ?_|refine dcx_pureS (by assumption) ?_|refine qcx_pureS (by assumption) ?_|(refine cx_in hmix b82 rfl ?_;unfold c82)|refine apps_own (f:=inA) (l2:=[((p:Nat):Int)]) in_len (src_of rfl (by first|rfl|(simp;done)|(simp [*];done))) (fun hz=>by first|(simp [lk,lk_own,lk_ownS hz,lk_ownE hz];done)|rfl) (fun hz=>by first|(simp [lk,lk_own,lk_ownO,lk_tN hz,lk_ownN hz];done)|rfl) (by first|rfl|(simp [flat,inA];done)|(simp [flat,inA, *];done)) (by decide) ⟨by omega,by omega⟩ rfl ?_|((with_reducible apply appx_q hQz);intro hQa hQb;refine appx_own (f:=inA) (l2:=[((p:Nat):Int)]) in_len (src_of rfl (by first|rfl|(simp;done)|(simp [*];done))) (fun hz=>by first|(simp [lk,lk_own,lk_ownS hz,lk_ownE hz];done)|rfl) (by first|rfl|(simp [flat,inA];done)|(simp [flat,inA, *];done)) (by decide) ⟨by omega,by omega⟩ ?_ ?_<;>intro hzz<;>first|(have hQz:=HidP.mk (hQa.out hzz))|(have hQz:=HidP.mk (hQb.out hzz)))|refine apps_own (f:=dtA) (l2:=[⟨((p:Nat):Int),s.B p⟩]) dt_len (src_of rfl (by first|rfl|(simp;done)|(simp [*];done))) (fun hz=>by first|(simp [lk,lk_own,lk_ownS hz,lk_ownE hz];done)|rfl) (fun hz=>by first|(simp [lk,lk_own,lk_ownO,lk_tN hz,lk_ownN hz];done)|rfl) (by first|rfl|(simp [flat,dtA];done)|(simp [flat,dtA, *];done)) (by decide) ⟨by omega,by omega⟩ rfl ?_|((with_reducible apply appx_q hQz);intro hQa hQb;refine appx_own (f:=dtA) (l2:=[⟨((p:Nat):Int),s.B p⟩]) dt_len (src_of rfl (by first|rfl|(simp;done)|(simp [*];done))) (fun hz=>by first|(simp [lk,lk_own,lk_ownS hz,lk_ownE hz];done)|rfl) (by first|rfl|(simp [flat,dtA];done)|(simp [flat,dtA, *];done)) (by decide) ⟨by omega,by omega⟩ ?_ ?_<;>intro hzz<;>first|(have hQz:=HidP.mk (hQa.out hzz))|(have hQz:=HidP.mk (hQb.out hzz)))|refine len_map ?_|refine len_isl ?_|refine el_of rfl rfl ?_|refine del_own ?_|refine del_own' rfl ?_|refine as_go rfl ?_|refine rd_go rfl ?_|refine rg_end rfl ?_|refine flat_ownX ?_|refine EqLX.mk ?_|((with_reducible apply br_bq hQz)<;>(try intro hsp hQz))|exact hQz.out))<;>(try (conv=>whnf))))):p:=h ⟨hq⟩
section
variable {s:Sy}
set_option maxHeartbeats 800000 in
theorem p_save (hg:GoodS s):LocS 28 [] s.a (.agg (vsA s.save)) s.a:=by
 refine LocS.mk (loc_x hmix b28 rfl ?_) a_plain a_plain (fun x hx=>by cases hx) plain_vs
 unfold c28
 unfold Sy.a
 obtain ⟨o,ho⟩:∃ o,o=67585:=⟨_,rfl⟩
 rw [← ho]
 have hst:=sys_planO (K:=s.K) (M:=s.M) (B:=s.B) ho (stA_len (l:=s.l) (C:=s.C) (H:=s.H))
 have hru:=sys_rules (K:=s.K) (M:=s.M) (B:=s.B) (l:=s.l) (C:=s.C) (H:=s.H) ho
 have z:=k_clone (l:=s.l) (by have:=(chkS_ok hg.hv).2.1;omega)
 (refine wtj ?_;repeat' (first|with_reducible refine And.intro ?_ ?_|intro hsp))
 (refine loop_x [0,2] (fun (p:Nat)=>[(3,.ptr 2 0),(28,.int .i64 (p:Nat))]) (fun (p:Nat)=>⟨[(0,.cells (sysB s.K s.M s.B (stA s.l s.C s.H))),(1,.cells [.nils,.nils,.nils,.nils,.int .i64 0,.int .i64 0,.int .i64 0,.int .i64 0,.int .i64 0,.int .i64 0,.int .i64 0,.int .i64 0,.int .i64 0,.int .i64 0,.int .i64 0,.int .i64 0,.int .i64 0,.int .i64 0]),(2,.cells [.isl ((runsTo s.K 1024).map rnA),ownV 3 1 (hugeTo s.G p).length,ownV 4 65 (dataTo s.B p).length,.isl (s.l.map rlA),.int .i64 (s.C 0),.int .i64 (s.C 1),.int .i64 (s.C 2),.int .i64 (s.C 3),.int .i64 (s.C 4),.int .i64 (s.C 5),.int .i64 (s.C 6),.int .i64 (s.H 0),.int .i64 (s.H 1),.int .i64 (s.H 2),.int .i64 (s.H 3),.int .i64 (s.H 4),.int .i64 (s.H 5),.int .i64 (s.H 6)])]++(ownH 3 inA (hugeTo s.G p)++(ownH 4 dtA (dataTo s.B p)++[])),5⟩) (fun (p:Nat)=>p≤1024) (fun (p:Nat)=>1024 - p) (0) [(2,10)] rfl (fun _=>by first|exact Nat.zero_le _|(dsimp only;omega)) ?_ (by ((try (conv=>whnf));exact wkx_Tj)) ?_)
 ·exact Nat.zero_le _
 rintro p hp
 have hL1:=huge_len (G:=s.G) (n:=p)
 have hL2:=data_len (B:=s.B) (n:=p)
 by_cases hp4:p < 1024
 ·have z1:=k_first (p:Nat)
  have hh:(sysB s.K s.M s.B (stA s.l s.C s.H))[1+p * 66+1]? = some (.bool (s.M p)):=sys_huge hp4
  have hby:=sys_bytes (K:=s.K) (M:=s.M) (B:=s.B) (P:=stA s.l s.C s.H) hp4
  have hyl:=by_len (s.B p)
  have hyz:=eqL_by (s.B p)
  generalize hy:byA (s.B p)=y at hby hyl hyz
  by_cases hz:zeroB (s.B p)
  ·have e2:dataTo s.B (p+1)=dataTo s.B p:=if_pos hz
   by_cases hu:p % 16=0∧s.G (p / 16)=true
   ·have e1:hugeTo s.G (p+1)=hugeTo s.G p++[((p:Nat):Int)]:=if_pos hu
    have hf:fst (p:Nat):=⟨by omega,by omega,by rw [Int.tmod_eq_emod_of_nonneg (by omega)];omega⟩
    rw [decide_eq_true hf] at z1
    rw [show s.M p=true from hu.2] at hh
    (refine wtj ?_;repeat' (first|with_reducible refine And.intro ?_ ?_|intro hsp))
    all_goals exact next_x (p+1) [(3,6)] (by (try dsimp only);omega) (by first|omega|(dsimp only;omega)) rfl (by ((try dsimp only);rw [e1,e2]);exact wkx_Tj)
   ·have e1:hugeTo s.G (p+1)=hugeTo s.G p:=if_neg hu
    by_cases hf:fst (p:Nat)
    ·obtain ⟨g,e,_⟩:=fst_nat hf
     rw [decide_eq_true hf] at z1
     have hm:s.M p=false:=by
      cases h:s.G (p / 16) with
      | false=>exact h
      | true=>exact absurd ⟨by omega,h⟩ hu
     rw [hm] at hh
     (refine wtj ?_;repeat' (first|with_reducible refine And.intro ?_ ?_|intro hsp))
     all_goals exact next_x (p+1) [] (by (try dsimp only);omega) (by first|omega|(dsimp only;omega)) rfl (by ((try dsimp only);rw [e1,e2]);exact wkx_Tj)
    ·rw [decide_eq_false hf] at z1
     (refine wtj ?_;repeat' (first|with_reducible refine And.intro ?_ ?_|intro hsp))
     all_goals exact next_x (p+1) [] (by (try dsimp only);omega) (by first|omega|(dsimp only;omega)) rfl (by ((try dsimp only);rw [e1,e2]);exact wkx_Tj)
  ·have e2:dataTo s.B (p+1)=dataTo s.B p++[⟨((p:Nat):Int),s.B p⟩]:=if_neg hz
   by_cases hu:p % 16=0∧s.G (p / 16)=true
   ·have e1:hugeTo s.G (p+1)=hugeTo s.G p++[((p:Nat):Int)]:=if_pos hu
    have hf:fst (p:Nat):=⟨by omega,by omega,by rw [Int.tmod_eq_emod_of_nonneg (by omega)];omega⟩
    rw [decide_eq_true hf] at z1
    rw [show s.M p=true from hu.2] at hh
    (refine wtj ?_;repeat' (first|with_reducible refine And.intro ?_ ?_|intro hsp))
    all_goals exact next_x (p+1) [(3,6),(4,9)] (by (try dsimp only);omega) (by first|omega|(dsimp only;omega)) rfl (by ((try dsimp only);rw [e1,e2]);exact wkx_Tj)
   ·have e1:hugeTo s.G (p+1)=hugeTo s.G p:=if_neg hu
    by_cases hf:fst (p:Nat)
    ·obtain ⟨g,e,_⟩:=fst_nat hf
     rw [decide_eq_true hf] at z1
     have hm:s.M p=false:=by
      cases h:s.G (p / 16) with
      | false=>exact h
      | true=>exact absurd ⟨by omega,h⟩ hu
     rw [hm] at hh
     (refine wtj ?_;repeat' (first|with_reducible refine And.intro ?_ ?_|intro hsp))
     all_goals exact next_x (p+1) [(4,7)] (by (try dsimp only);omega) (by first|omega|(dsimp only;omega)) rfl (by ((try dsimp only);rw [e1,e2]);exact wkx_Tj)
    ·rw [decide_eq_false hf] at z1
     (refine wtj ?_;repeat' (first|with_reducible refine And.intro ?_ ?_|intro hsp))
     all_goals exact next_x (p+1) [(4,7)] (by (try dsimp only);omega) (by first|omega|(dsimp only;omega)) rfl (by ((try dsimp only);rw [e1,e2]);exact wkx_Tj)
 ·obtain rfl:p=1024:=by omega
  (refine wtj ?_;repeat' (first|with_reducible refine And.intro ?_ ?_|intro hsp))
  all_goals exact end_save (sys_plain stA_plain)
end
end Go.Proofs.YtphggldkligldaaGreat
