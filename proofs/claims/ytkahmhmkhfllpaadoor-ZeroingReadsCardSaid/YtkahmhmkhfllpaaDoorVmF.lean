/-
 Save of the document.
 Save of the document: its end,and free pages.
 Save of the document: a new run.
 Save of the document: a new run.
-/
import Derived.Test.YtkahmhmkhfllpaaDoorVmE
set_option linter.unusedSimpArgs false
set_option linter.unusedVariables false
namespace Go.Pol
open Go.Am
def Sy.B2 (s:Sy) (p:Nat):Nat→Int:=if s.K p=2 then s.B p else fun _=>0
theorem saveR_B2 {s:Sy}:s.saveR=⟨runsTo s.K 1024,hugeTo s.G 1024,dataTo s.B2 1024,s.l,s.C,s.H⟩:=rfl
end Go.Pol
namespace Go.Am
theorem lk_own_in {α:Type} {f:α→List AV} {L:List α} {i:Nat} {r:List (Nat × AObj)} {ks:List Nat} (h:∀ j o,lk r j=some o→j ∈ ks):∀ j o,lk (ownH i f L++r) j=some o→j ∈ i::ks:=fun j o hj=>by
 rcases lk_app hj with hj|hj
 ·obtain ⟨rfl,_⟩:=lk_own_key hj;exact List.mem_cons_self ..
 ·exact List.mem_cons_of_mem _ (h j o hj)
theorem lk_nil_in:∀ j o,lk [] j=some o→j ∈ ([]:List Nat):=fun j o hj=>by cases hj
theorem tl_not {ren:List (Nat × Nat)} {l0 tl:List (Nat × AObj)} {ks:List Nat} {d:Nat} (hk:∀ j o,lk tl j=some o→j ∈ ks) (hn:((l0.map (·.1))++ks).all (fun j=>!(Nat.beq (rn ren j) d))=true):∀ j o,lk (l0++tl) j=some o→rn ren j ≠ d:=fun j o hj e=>by
 rw [List.all_eq_true] at hn
 have hm:j ∈ (l0.map (·.1))++ks:=by
  rcases lk_app hj with hj|hj
  ·obtain ⟨q,hq,rfl⟩:=lk_mem hj;exact List.mem_append_left _ (List.mem_map.2 ⟨q,hq,rfl⟩)
  ·exact List.mem_append_right _ (hk j o hj)
 have:=hn j hm
 rw [e] at this;simp at this
end Go.Am
namespace Go.Proofs.YtkahmhmkhfllpaaDoor
open Go Go.Am Go.Pol
theorem wvx_Tk {p:Prop} (h:p:=by ((first|exact wk_undef|exact wk_int (by first|rfl|omega|(dsimp only;omega))|exact wk_bool rfl|exact wk_ptr rfl (by first|decide|simp|omega)|exact wk_sl rfl (by first|decide|simp|omega) (by first|rfl|omega|simp) (by first|omega|simp) (by first|omega|simp)|exact wk_frzR (by omega) rfl rfl (tl_not (lk_own_in (lk_own_in (lk_own_in lk_nil_in))) rfl) hs|exact wk_sl0|exact wk_own rfl (by first|decide|simp|omega)|exact wk_nil0 (by first|rfl|simp)|exact wk_slown rfl (by first|decide|omega|(simp;done)) (by first|omega|(simp;done)) (by first|rfl|omega|(simp;done)|(simp;omega))|exact wk_plain hs plx_Tj|(with_reducible refine wk_fn ?_ ?_<;>repeat' (first|with_reducible exact wkl_nil|with_reducible refine wkl_cons ?_ ?_|exact wk_ptr rfl (by first|decide|simp|omega)))|(with_reducible refine wk_agg ?_;repeat' (first|with_reducible exact wkl_nil|with_reducible refine wkl_cons ?_ ?_|exact wk_int (by first|rfl|omega|(dsimp only;omega))|exact wk_bool rfl))|exact wk_yld rfl (by first|decide|simp|omega)|fail);first|done|fail)):p:=h
theorem wkx_Tk {p:Prop} (h:p:=by (refine weak_t (by rfl) (by rfl) (tl_cons rnA_plain (by rfl) (fun hz=>by first|exact absurd rfl hz|(simp [lk,rn,lk_own,lk_ownS hz,lk_ownE hz];done)|rfl) (tl_cons inA_plain (by rfl) (fun hz=>by first|exact absurd rfl hz|(simp [lk,rn,lk_own,lk_ownS hz,lk_ownE hz];done)|rfl) (tl_cons dtA_plain (by rfl) (fun hz=>by first|exact absurd rfl hz|(simp [lk,rn,lk_own,lk_ownS hz,lk_ownE hz];done)|rfl) tl_nil))) (by intro hs;(repeat' ((try (conv=>whnf));first|with_reducible exact True.intro|with_reducible refine And.intro ?_ ?_|(with_reducible refine WkX.mk ?_;first|exact wvx_Tk|fail)))) (by intro hs;(repeat' (first|with_reducible exact wko_nil|refine wko_plain hs (by first|decide|omega|simp) rfl (by first|rfl) (by (first|exact ppx_Tj|fail|((refine plain_app ?_ ?_)<;>(first|exact ppx_Tj|fail)))) ?_|refine wko_cells (by first|decide|omega|simp) rfl (by repeat' (first|with_reducible exact wkl_nil|with_reducible refine wkl_cons ?_ ?_|(first|exact wvx_Tk|fail))) ?_|refine wko_loop (by first|decide|omega|simp) rfl (by ((try subst hF);(try subst hF2);exact wkl_sd (wkf_sget (by (repeat' ((try (conv=>whnf));first|with_reducible exact True.intro|with_reducible refine And.intro ?_ ?_|(with_reducible refine WkX.mk ?_;first|exact wvx_Tk|fail))))))) ?_|exact wko_nil))))):p:=h
theorem wtk {p q:Prop} (hq:q) (h:HidP q→p:=by (intro hQz;((repeat' ((try (conv=>whnf));first|(with_reducible first|refine run_cons ?_|refine runq_cons ?_|refine code_seq ?_|refine code_reg ?_|refine code_cond ?_|refine run_nil ?_|refine runq_nil ?_|refine rund_op rfl ?_|refine rund_nil ?_|refine code_block ?_|refine code_skip ?_|refine code_exit ?_|refine code_ret ?_|refine code_range ?_|refine rund_fast (by decide +kernel) ?_|refine rund_slow (by decide +kernel) ?_|refine br_tt ?_|refine br_ff ?_|refine br_n ?_|refine br_and ?_|refine br_or ?_|refine br_t (by assumption) ?_|refine br_f (by assumption) ?_|refine eq_i64 (by omega) ?_|refine el_tn ?_)|((with_reducible refine br_dt ?_ ?_);focus omega)|((with_reducible refine br_df ?_ ?_);focus omega)|((with_reducible apply br_dq hQz)<;>(try intro hsp hQz))|((with_reducible refine ck_x ?_ ?_);focus (first|omega|rfl|assumption|decide|(simp only [List.length_map,List.length_cons,List.length_nil];omega)|(simp only [List.length_cons];omega)))|(with_reducible first|refine eq_tn ?_|refine eq_tn1 ?_|refine eq_tn2 ?_|refine eq_m1 ?_|refine eq_m2 ?_|refine eq_zm ?_|refine eq_z ?_|refine len_map ?_|refine len_sl ?_|refine len_nils ?_|refine len_own' ?_|refine len_isl ?_|refine eq_u8 (by omega) ?_|refine eq_u16 (by omega) ?_)|refine nthK_of (by with_reducible assumption) ?_|refine eq_of (by with_reducible assumption) ?_|refine set1K_of (by omega) (by with_reducible assumption) ?_|refine dropK_of (by rw [ref_len];omega) rfl ?_|refine takeK_of (by rw [List.length_drop,ref_len];omega) (by with_reducible assumption) ?_|refine takeK_of (by omega) (y_take (by with_reducible assumption)) ?_|refine dropK_of (Nat.zero_le _) y_drop ?_|refine overK_of (by first|(simp only [List.length_cons,List.length_nil];omega)|fail) (over_y1 (by with_reducible assumption)) ?_|refine eqlx_of (by with_reducible assumption) ?_|refine del_tS ?_|refine del_tO rfl ?_|refine del_n ?_|(with_reducible first|refine eq_rfl ?_|refine ChkX.mk (by kernel_rfl) ?_|refine code_q rfl ?_|refine code_d (by decide +kernel) ?_|refine end_go rfl ?_)|refine apps_own (f:=rnA) (l2:=[⟨((p:Nat):Int),1,s.K p⟩]) rn_len (src_of rfl (by first|rfl|(simp;done)|(simp [*];done))) (fun hz=>by first|(simp [lk,lk_own,lk_ownS hz,lk_ownE hz];done)|rfl) (fun hz=>by first|(simp [lk,lk_own,lk_ownO,lk_tN hz,lk_ownN hz];done)|rfl) (by first|rfl|(simp [flat,rnA];done)|(simp [flat,rnA, *];done)) (by decide) ⟨by omega,by omega⟩ rfl ?_|((with_reducible apply appx_q hQz);intro hQa hQb;refine appx_own (f:=rnA) (l2:=[⟨((p:Nat):Int),1,s.K p⟩]) rn_len (src_of rfl (by first|rfl|(simp;done)|(simp [*];done))) (fun hz=>by first|(simp [lk,lk_own,lk_ownS hz,lk_ownE hz];done)|rfl) (by first|rfl|(simp [flat,rnA];done)|(simp [flat,rnA, *];done)) (by decide) ⟨by omega,by omega⟩ ?_ ?_<;>intro hzz<;>first|(have hQz:=HidP.mk (hQa.out hzz))|(have hQz:=HidP.mk (hQb.out hzz)))|refine apps_own (f:=inA) (l2:=[((p:Nat):Int)]) in_len (src_of rfl (by first|rfl|(simp;done)|(simp [*];done))) (fun hz=>by first|(simp [lk,lk_own,lk_ownS hz,lk_ownE hz];done)|rfl) (fun hz=>by first|(simp [lk,lk_own,lk_ownO,lk_tN hz,lk_ownN hz];done)|rfl) (by first|rfl|(simp [flat,inA];done)|(simp [flat,inA, *];done)) (by decide) ⟨by omega,by omega⟩ rfl ?_|((with_reducible apply appx_q hQz);intro hQa hQb;refine appx_own (f:=inA) (l2:=[((p:Nat):Int)]) in_len (src_of rfl (by first|rfl|(simp;done)|(simp [*];done))) (fun hz=>by first|(simp [lk,lk_own,lk_ownS hz,lk_ownE hz];done)|rfl) (by first|rfl|(simp [flat,inA];done)|(simp [flat,inA, *];done)) (by decide) ⟨by omega,by omega⟩ ?_ ?_<;>intro hzz<;>first|(have hQz:=HidP.mk (hQa.out hzz))|(have hQz:=HidP.mk (hQb.out hzz)))|refine apps_own (f:=dtA) (l2:=[⟨((p:Nat):Int),s.B p⟩]) dt_len (src_of rfl (by first|rfl|(simp;done)|(simp [*];done))) (fun hz=>by first|(simp [lk,lk_own,lk_ownS hz,lk_ownE hz];done)|rfl) (fun hz=>by first|(simp [lk,lk_own,lk_ownO,lk_tN hz,lk_ownN hz];done)|rfl) (by first|rfl|(simp [flat,dtA];done)|(simp [flat,dtA, *];done)) (by decide) ⟨by omega,by omega⟩ rfl ?_|((with_reducible apply appx_q hQz);intro hQa hQb;refine appx_own (f:=dtA) (l2:=[⟨((p:Nat):Int),s.B p⟩]) dt_len (src_of rfl (by first|rfl|(simp;done)|(simp [*];done))) (fun hz=>by first|(simp [lk,lk_own,lk_ownS hz,lk_ownE hz];done)|rfl) (by first|rfl|(simp [flat,dtA];done)|(simp [flat,dtA, *];done)) (by decide) ⟨by omega,by omega⟩ ?_ ?_<;>intro hzz<;>first|(have hQz:=HidP.mk (hQa.out hzz))|(have hQz:=HidP.mk (hQb.out hzz)))|refine apps_some (appV_none (by omega) rfl (Nat.zero_le _)) ?_|refine apps_some (appV_sl src_rl rfl rfl (by omega) (by omega)) ?_|refine len_map ?_|refine len_isl ?_|refine el_of rfl rfl ?_|refine del_own ?_|refine del_own' rfl ?_|refine as_go rfl ?_|refine rd_go rfl ?_|refine rg_end rfl ?_|refine flat_ownX ?_|refine EqLX.mk ?_|((with_reducible apply br_bq hQz)<;>(try intro hsp hQz))|exact hQz.out))<;>(try (conv=>whnf))))):p:=h ⟨hq⟩
theorem wk_sl0 {σ:Nat→Nat} {h h':Hp} {d off cp:Nat} {L:List Rl} (h0:L.length=0:=by assumption):WkV Tryd.prog σ h h' (.sl d off 0 cp 4) (.isl (L.map rlA)):=fun c v hR hm hr=>by
 cases List.eq_nil_of_length_eq_zero h0
 obtain ⟨_,_,cap,rfl,_,h5,h6,_⟩:=RR_sl.1 hr
 exact RR_isl.2 ⟨_,cap,rfl,Nat.zero_le _,h6,fun hne=>absurd rfl hne⟩
section
variable {s:Sy}
set_option maxHeartbeats 1600000 in
noncomputable def skel (s:Sy) (o:Nat) (ho:o=66624) (hlen:s.l.length≤100000):{ T:Nat→Prop // (∀ p,p≤1024→T p)→LocS 15 [] s.b (.agg (vsA s.saveR)) s.b }:=by
 refine ⟨?T,fun step=>?h⟩
 case h =>
  have step:=HidP.mk step
  refine LocS.mk (loc_x hmix b15 rfl ?_) b_plain b_plain (fun x hx=>by cases hx) plain_vs
  unfold c15
  unfold Sy.b
  rw [saveR_B2]
  rw [← ho]
  have hst:=rfk_planO (K:=s.K) (G:=s.G) (B:=s.B) ho (stA_len (l:=s.l) (C:=s.C) (H:=s.H))
  have hru:=rfk_rules (K:=s.K) (G:=s.G) (B:=s.B) (l:=s.l) (C:=s.C) (H:=s.H) ho
  by_cases hl0:s.l.length=0
  ·(refine wtk ?_;repeat' (first|with_reducible refine And.intro ?_ ?_|intro hsp))
   (refine loop_x [0,2] (fun (p:Nat)=>[(3,.ptr 2 0),(4,.int .i64 (p:Nat))]) (fun (p:Nat)=>⟨[(0,.cells (refK s.K s.G s.B (stA s.l s.C s.H))),(1,.cells [.nils,.nils,.nils,.nils,.int .i64 0,.int .i64 0,.int .i64 0,.int .i64 0,.int .i64 0,.int .i64 0,.int .i64 0,.int .i64 0,.int .i64 0,.int .i64 0,.int .i64 0,.int .i64 0,.int .i64 0,.int .i64 0]),(2,.cells [ownV 10 3 (runsTo s.K p).length,ownV 11 1 (hugeTo s.G p).length,ownV 12 65 (dataTo s.B2 p).length,.isl (s.l.map rlA),.int .i64 (s.C 0),.int .i64 (s.C 1),.int .i64 (s.C 2),.int .i64 (s.C 3),.int .i64 (s.C 4),.int .i64 (s.C 5),.int .i64 (s.C 6),.int .i64 (s.H 0),.int .i64 (s.H 1),.int .i64 (s.H 2),.int .i64 (s.H 3),.int .i64 (s.H 4),.int .i64 (s.H 5),.int .i64 (s.H 6)])]++(ownH 10 rnA (runsTo s.K p)++(ownH 11 inA (hugeTo s.G p)++(ownH 12 dtA (dataTo s.B2 p)++[]))),13⟩) (fun (p:Nat)=>p≤1024) (fun (p:Nat)=>1024 - p) (0) [] rfl (fun _=>by first|exact Nat.zero_le _|(dsimp only;omega)) ?_ (by ((try (conv=>whnf));exact wkx_Tk)) ?_)
   ·exact Nat.zero_le _
   exact step.out
  ·(refine wtk ?_;repeat' (first|with_reducible refine And.intro ?_ ?_|intro hsp))
   (refine loop_x [0,2] (fun (p:Nat)=>[(3,.ptr 2 0),(4,.int .i64 (p:Nat))]) (fun (p:Nat)=>⟨[(0,.cells (refK s.K s.G s.B (stA s.l s.C s.H))),(1,.cells [.nils,.nils,.nils,.nils,.int .i64 0,.int .i64 0,.int .i64 0,.int .i64 0,.int .i64 0,.int .i64 0,.int .i64 0,.int .i64 0,.int .i64 0,.int .i64 0,.int .i64 0,.int .i64 0,.int .i64 0,.int .i64 0]),(2,.cells [ownV 10 3 (runsTo s.K p).length,ownV 11 1 (hugeTo s.G p).length,ownV 12 65 (dataTo s.B2 p).length,.isl (s.l.map rlA),.int .i64 (s.C 0),.int .i64 (s.C 1),.int .i64 (s.C 2),.int .i64 (s.C 3),.int .i64 (s.C 4),.int .i64 (s.C 5),.int .i64 (s.C 6),.int .i64 (s.H 0),.int .i64 (s.H 1),.int .i64 (s.H 2),.int .i64 (s.H 3),.int .i64 (s.H 4),.int .i64 (s.H 5),.int .i64 (s.H 6)])]++(ownH 10 rnA (runsTo s.K p)++(ownH 11 inA (hugeTo s.G p)++(ownH 12 dtA (dataTo s.B2 p)++[]))),13⟩) (fun (p:Nat)=>p≤1024) (fun (p:Nat)=>1024 - p) (0) [] rfl (fun _=>by first|exact Nat.zero_le _|(dsimp only;omega)) ?_ (by ((try (conv=>whnf));exact wkx_Tk)) ?_)
   ·exact Nat.zero_le _
   exact step.out
end
end Go.Proofs.YtkahmhmkhfllpaaDoor
namespace Go.Proofs.YtkahmhmkhfllpaaDoor
open Go Go.Am Go.Pol
section
variable {s:Sy} {o:Nat} {ho:o=66624} {hlen:s.l.length≤100000} {p:Nat}
end
end Go.Proofs.YtkahmhmkhfllpaaDoor
namespace Go.Proofs.YtkahmhmkhfllpaaDoor
open Go Go.Am Go.Pol
section
variable {s:Sy} {o:Nat} {ho:o=66624} {hlen:s.l.length≤100000} {p:Nat}
end
end Go.Proofs.YtkahmhmkhfllpaaDoor
namespace Go.Proofs.YtkahmhmkhfllpaaDoor
open Go Go.Am Go.Pol
section
variable {s:Sy} {o:Nat} {ho:o=66624} {hlen:s.l.length≤100000} {p:Nat}
end
end Go.Proofs.YtkahmhmkhfllpaaDoor
