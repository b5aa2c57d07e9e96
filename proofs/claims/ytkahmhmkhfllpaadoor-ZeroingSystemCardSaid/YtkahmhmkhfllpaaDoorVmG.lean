/-
 Save of the document: a new run.
 Save of the document: a new run.
 Save of the document: a run at page 0.
 Save of the document: a run at page 0.
 Save of the document: a run at page 0.
 Save of the document: a run at page 0.
-/
import Derived.Test.YtkahmhmkhfllpaaDoorVmF
set_option linter.unusedSimpArgs false
set_option linter.unusedVariables false
namespace Go.Proofs.YtkahmhmkhfllpaaDoor
open Go Go.Am Go.Pol
section
variable {s:Sy} {o:Nat} {ho:o=66624} {hlen:s.l.length≤100000} {p:Nat}
set_option maxHeartbeats 1600000 in
theorem rd_new_10 (hp4:p < 1024) (hp0:0 < p) (h0:¬ s.K p=0) (hb:¬ (0 < p∧s.K (p - 1)=s.K p)) (hu:p % 16=0∧s.G (p / 16)=true) (hd:¬ (s.K p=2∧¬ zeroB (s.B p))):(skel s o ho hlen).1 p:=by
 have hL0:=runs_len (K:=s.K) (n:=p)
 have hL1:=huge_len (G:=s.G) (n:=p)
 have hL2:=data_len (B:=s.B2) (n:=p)
 have hst:=rfk_planO (K:=s.K) (G:=s.G) (B:=s.B) ho (stA_len (l:=s.l) (C:=s.C) (H:=s.H))
 have hru:=rfk_rules (K:=s.K) (G:=s.G) (B:=s.B) (l:=s.l) (C:=s.C) (H:=s.H) ho
 have hk:(refK s.K s.G s.B (stA s.l s.C s.H))[p]? = some (.int .i64 (s.K p)):=rfk_kind hp4
 have hh:(refK s.K s.G s.B (stA s.l s.C s.H))[1024+p / 16]? = some (.bool (s.G (p / 16))):=rfk_huge (by omega)
 have hw16:=quo16 (q:=p) (by omega)
 have ht16:((p:Nat):Int).tmod 16=((p % 16:Nat):Int):=by rw [Int.tmod_eq_emod_of_nonneg (by omega)];omega
 have hby:=rfk_bytes (K:=s.K) (G:=s.G) (B:=s.B) (P:=stA s.l s.C s.H) hp4
 have hyl:=by_len (s.B p)
 have hyz:=eqL_by (s.B p)
 generalize hy:byA (s.B p)=y at hby hyl hyz
 have e0:runsTo s.K (p+1)=runsTo s.K p++[⟨((p:Nat):Int),1,s.K p⟩]:=by
  show (if s.K p=0 then _ else if 0 < p∧s.K (p - 1)=s.K p then bumpV (runsTo s.K p) else _)=_
  rw [if_neg h0,if_neg hb]
 have hk1:(refK s.K s.G s.B (stA s.l s.C s.H))[(((p:Nat):Int) - 1).toNat]? = some (.int .i64 (s.K (p - 1))):=by rw [show (((p:Nat):Int) - 1).toNat=p - 1 by omega];exact rfk_kind (by omega)
 have hp1:IntKind.i64.wrap (((p:Nat):Int) - 1)=((p - 1:Nat):Int):=by rw [IntWalk.i64_in _ ⟨by omega,by omega⟩];omega
 have hne:¬ s.K (p - 1)=s.K p:=fun h=>hb ⟨hp0,h⟩
 have e1:hugeTo s.G (p+1)=hugeTo s.G p++[((p:Nat):Int)]:=if_pos hu
 rw [hu.2] at hh
 have e2:=data_no hd
 unfold skel
 dsimp only
 (refine wtk ?_;repeat' (first|with_reducible refine And.intro ?_ ?_|intro hsp))
 all_goals first|(exfalso;exact hd ⟨(by first|assumption|fail),(by first|assumption|fail)⟩)|skip
 all_goals first|(exfalso;exact hne (by first|assumption|fail))|(exfalso;omega)|skip
 all_goals exact next_x (p+1) [(10,42),(11,46)] (by (try dsimp only);omega) (by first|omega|(dsimp only;omega)) rfl (by ((try dsimp only);rw [e0,e1,e2]);exact wkx_Tk)
end
end Go.Proofs.YtkahmhmkhfllpaaDoor
namespace Go.Proofs.YtkahmhmkhfllpaaDoor
open Go Go.Am Go.Pol
section
variable {s:Sy} {o:Nat} {ho:o=66624} {hlen:s.l.length≤100000} {p:Nat}
set_option maxHeartbeats 1600000 in
theorem rd_new_11 (hp4:p < 1024) (hp0:0 < p) (h0:¬ s.K p=0) (hb:¬ (0 < p∧s.K (p - 1)=s.K p)) (hu:p % 16=0∧s.G (p / 16)=true) (hd:s.K p=2∧¬ zeroB (s.B p)):(skel s o ho hlen).1 p:=by
 have hL0:=runs_len (K:=s.K) (n:=p)
 have hL1:=huge_len (G:=s.G) (n:=p)
 have hL2:=data_len (B:=s.B2) (n:=p)
 have hst:=rfk_planO (K:=s.K) (G:=s.G) (B:=s.B) ho (stA_len (l:=s.l) (C:=s.C) (H:=s.H))
 have hru:=rfk_rules (K:=s.K) (G:=s.G) (B:=s.B) (l:=s.l) (C:=s.C) (H:=s.H) ho
 have hk:(refK s.K s.G s.B (stA s.l s.C s.H))[p]? = some (.int .i64 (s.K p)):=rfk_kind hp4
 have hh:(refK s.K s.G s.B (stA s.l s.C s.H))[1024+p / 16]? = some (.bool (s.G (p / 16))):=rfk_huge (by omega)
 have hw16:=quo16 (q:=p) (by omega)
 have ht16:((p:Nat):Int).tmod 16=((p % 16:Nat):Int):=by rw [Int.tmod_eq_emod_of_nonneg (by omega)];omega
 have hby:=rfk_bytes (K:=s.K) (G:=s.G) (B:=s.B) (P:=stA s.l s.C s.H) hp4
 have hyl:=by_len (s.B p)
 have hyz:=eqL_by (s.B p)
 generalize hy:byA (s.B p)=y at hby hyl hyz
 have e0:runsTo s.K (p+1)=runsTo s.K p++[⟨((p:Nat):Int),1,s.K p⟩]:=by
  show (if s.K p=0 then _ else if 0 < p∧s.K (p - 1)=s.K p then bumpV (runsTo s.K p) else _)=_
  rw [if_neg h0,if_neg hb]
 have hk1:(refK s.K s.G s.B (stA s.l s.C s.H))[(((p:Nat):Int) - 1).toNat]? = some (.int .i64 (s.K (p - 1))):=by rw [show (((p:Nat):Int) - 1).toNat=p - 1 by omega];exact rfk_kind (by omega)
 have hp1:IntKind.i64.wrap (((p:Nat):Int) - 1)=((p - 1:Nat):Int):=by rw [IntWalk.i64_in _ ⟨by omega,by omega⟩];omega
 have hne:¬ s.K (p - 1)=s.K p:=fun h=>hb ⟨hp0,h⟩
 have e1:hugeTo s.G (p+1)=hugeTo s.G p++[((p:Nat):Int)]:=if_pos hu
 rw [hu.2] at hh
 have e2:=data_yes hd
 obtain ⟨hd1,hd2⟩:=hd
 unfold skel
 dsimp only
 (refine wtk ?_;repeat' (first|with_reducible refine And.intro ?_ ?_|intro hsp))
 all_goals first|(exfalso;exact hne (by first|assumption|fail))|(exfalso;omega)|skip
 all_goals exact next_x (p+1) [(10,42),(11,46),(12,58)] (by (try dsimp only);omega) (by first|omega|(dsimp only;omega)) rfl (by ((try dsimp only);rw [e0,e1,e2]);exact wkx_Tk)
end
end Go.Proofs.YtkahmhmkhfllpaaDoor
namespace Go.Proofs.YtkahmhmkhfllpaaDoor
open Go Go.Am Go.Pol
section
variable {s:Sy} {o:Nat} {ho:o=66624} {hlen:s.l.length≤100000} {p:Nat}
set_option maxHeartbeats 1600000 in
theorem rd_nul_00 (hp4:p < 1024) (hp0:¬ 0 < p) (h0:¬ s.K p=0) (hb:¬ (0 < p∧s.K (p - 1)=s.K p)) (hu:¬ (p % 16=0∧s.G (p / 16)=true)) (hd:¬ (s.K p=2∧¬ zeroB (s.B p))):(skel s o ho hlen).1 p:=by
 have hL0:=runs_len (K:=s.K) (n:=p)
 have hL1:=huge_len (G:=s.G) (n:=p)
 have hL2:=data_len (B:=s.B2) (n:=p)
 have hst:=rfk_planO (K:=s.K) (G:=s.G) (B:=s.B) ho (stA_len (l:=s.l) (C:=s.C) (H:=s.H))
 have hru:=rfk_rules (K:=s.K) (G:=s.G) (B:=s.B) (l:=s.l) (C:=s.C) (H:=s.H) ho
 have hk:(refK s.K s.G s.B (stA s.l s.C s.H))[p]? = some (.int .i64 (s.K p)):=rfk_kind hp4
 have hh:(refK s.K s.G s.B (stA s.l s.C s.H))[1024+p / 16]? = some (.bool (s.G (p / 16))):=rfk_huge (by omega)
 have hw16:=quo16 (q:=p) (by omega)
 have ht16:((p:Nat):Int).tmod 16=((p % 16:Nat):Int):=by rw [Int.tmod_eq_emod_of_nonneg (by omega)];omega
 have hby:=rfk_bytes (K:=s.K) (G:=s.G) (B:=s.B) (P:=stA s.l s.C s.H) hp4
 have hyl:=by_len (s.B p)
 have hyz:=eqL_by (s.B p)
 generalize hy:byA (s.B p)=y at hby hyl hyz
 have e0:runsTo s.K (p+1)=runsTo s.K p++[⟨((p:Nat):Int),1,s.K p⟩]:=by
  show (if s.K p=0 then _ else if 0 < p∧s.K (p - 1)=s.K p then bumpV (runsTo s.K p) else _)=_
  rw [if_neg h0,if_neg hb]
 have e1:hugeTo s.G (p+1)=hugeTo s.G p:=if_neg hu
 have e2:=data_no hd
 unfold skel
 dsimp only
 (refine wtk ?_;repeat' (first|with_reducible refine And.intro ?_ ?_|intro hsp))
 all_goals first|(exfalso;exact hu ⟨(by first|omega|fail),(by first|assumption|fail)⟩)|skip
 all_goals first|(exfalso;exact hd ⟨(by first|assumption|fail),(by first|assumption|fail)⟩)|skip
 all_goals first|(exfalso;omega)|skip
 all_goals exact next_x (p+1) [(10,42)] (by (try dsimp only);omega) (by first|omega|(dsimp only;omega)) rfl (by ((try dsimp only);rw [e0,e1,e2]);exact wkx_Tk)
end
end Go.Proofs.YtkahmhmkhfllpaaDoor
namespace Go.Proofs.YtkahmhmkhfllpaaDoor
open Go Go.Am Go.Pol
section
variable {s:Sy} {o:Nat} {ho:o=66624} {hlen:s.l.length≤100000} {p:Nat}
set_option maxHeartbeats 1600000 in
theorem rd_nul_01 (hp4:p < 1024) (hp0:¬ 0 < p) (h0:¬ s.K p=0) (hb:¬ (0 < p∧s.K (p - 1)=s.K p)) (hu:¬ (p % 16=0∧s.G (p / 16)=true)) (hd:s.K p=2∧¬ zeroB (s.B p)):(skel s o ho hlen).1 p:=by
 have hL0:=runs_len (K:=s.K) (n:=p)
 have hL1:=huge_len (G:=s.G) (n:=p)
 have hL2:=data_len (B:=s.B2) (n:=p)
 have hst:=rfk_planO (K:=s.K) (G:=s.G) (B:=s.B) ho (stA_len (l:=s.l) (C:=s.C) (H:=s.H))
 have hru:=rfk_rules (K:=s.K) (G:=s.G) (B:=s.B) (l:=s.l) (C:=s.C) (H:=s.H) ho
 have hk:(refK s.K s.G s.B (stA s.l s.C s.H))[p]? = some (.int .i64 (s.K p)):=rfk_kind hp4
 have hh:(refK s.K s.G s.B (stA s.l s.C s.H))[1024+p / 16]? = some (.bool (s.G (p / 16))):=rfk_huge (by omega)
 have hw16:=quo16 (q:=p) (by omega)
 have ht16:((p:Nat):Int).tmod 16=((p % 16:Nat):Int):=by rw [Int.tmod_eq_emod_of_nonneg (by omega)];omega
 have hby:=rfk_bytes (K:=s.K) (G:=s.G) (B:=s.B) (P:=stA s.l s.C s.H) hp4
 have hyl:=by_len (s.B p)
 have hyz:=eqL_by (s.B p)
 generalize hy:byA (s.B p)=y at hby hyl hyz
 have e0:runsTo s.K (p+1)=runsTo s.K p++[⟨((p:Nat):Int),1,s.K p⟩]:=by
  show (if s.K p=0 then _ else if 0 < p∧s.K (p - 1)=s.K p then bumpV (runsTo s.K p) else _)=_
  rw [if_neg h0,if_neg hb]
 have e1:hugeTo s.G (p+1)=hugeTo s.G p:=if_neg hu
 have e2:=data_yes hd
 obtain ⟨hd1,hd2⟩:=hd
 unfold skel
 dsimp only
 (refine wtk ?_;repeat' (first|with_reducible refine And.intro ?_ ?_|intro hsp))
 all_goals first|(exfalso;exact hu ⟨(by first|omega|fail),(by first|assumption|fail)⟩)|skip
 all_goals first|(exfalso;omega)|skip
 all_goals exact next_x (p+1) [(10,42),(12,56)] (by (try dsimp only);omega) (by first|omega|(dsimp only;omega)) rfl (by ((try dsimp only);rw [e0,e1,e2]);exact wkx_Tk)
end
end Go.Proofs.YtkahmhmkhfllpaaDoor
namespace Go.Proofs.YtkahmhmkhfllpaaDoor
open Go Go.Am Go.Pol
section
variable {s:Sy} {o:Nat} {ho:o=66624} {hlen:s.l.length≤100000} {p:Nat}
set_option maxHeartbeats 1600000 in
theorem rd_nul_10 (hp4:p < 1024) (hp0:¬ 0 < p) (h0:¬ s.K p=0) (hb:¬ (0 < p∧s.K (p - 1)=s.K p)) (hu:p % 16=0∧s.G (p / 16)=true) (hd:¬ (s.K p=2∧¬ zeroB (s.B p))):(skel s o ho hlen).1 p:=by
 have hL0:=runs_len (K:=s.K) (n:=p)
 have hL1:=huge_len (G:=s.G) (n:=p)
 have hL2:=data_len (B:=s.B2) (n:=p)
 have hst:=rfk_planO (K:=s.K) (G:=s.G) (B:=s.B) ho (stA_len (l:=s.l) (C:=s.C) (H:=s.H))
 have hru:=rfk_rules (K:=s.K) (G:=s.G) (B:=s.B) (l:=s.l) (C:=s.C) (H:=s.H) ho
 have hk:(refK s.K s.G s.B (stA s.l s.C s.H))[p]? = some (.int .i64 (s.K p)):=rfk_kind hp4
 have hh:(refK s.K s.G s.B (stA s.l s.C s.H))[1024+p / 16]? = some (.bool (s.G (p / 16))):=rfk_huge (by omega)
 have hw16:=quo16 (q:=p) (by omega)
 have ht16:((p:Nat):Int).tmod 16=((p % 16:Nat):Int):=by rw [Int.tmod_eq_emod_of_nonneg (by omega)];omega
 have hby:=rfk_bytes (K:=s.K) (G:=s.G) (B:=s.B) (P:=stA s.l s.C s.H) hp4
 have hyl:=by_len (s.B p)
 have hyz:=eqL_by (s.B p)
 generalize hy:byA (s.B p)=y at hby hyl hyz
 have e0:runsTo s.K (p+1)=runsTo s.K p++[⟨((p:Nat):Int),1,s.K p⟩]:=by
  show (if s.K p=0 then _ else if 0 < p∧s.K (p - 1)=s.K p then bumpV (runsTo s.K p) else _)=_
  rw [if_neg h0,if_neg hb]
 have e1:hugeTo s.G (p+1)=hugeTo s.G p++[((p:Nat):Int)]:=if_pos hu
 rw [hu.2] at hh
 have e2:=data_no hd
 unfold skel
 dsimp only
 (refine wtk ?_;repeat' (first|with_reducible refine And.intro ?_ ?_|intro hsp))
 all_goals first|(exfalso;exact hd ⟨(by first|assumption|fail),(by first|assumption|fail)⟩)|skip
 all_goals first|(exfalso;omega)|skip
 all_goals exact next_x (p+1) [(10,42),(11,46)] (by (try dsimp only);omega) (by first|omega|(dsimp only;omega)) rfl (by ((try dsimp only);rw [e0,e1,e2]);exact wkx_Tk)
end
end Go.Proofs.YtkahmhmkhfllpaaDoor
namespace Go.Proofs.YtkahmhmkhfllpaaDoor
open Go Go.Am Go.Pol
section
variable {s:Sy} {o:Nat} {ho:o=66624} {hlen:s.l.length≤100000} {p:Nat}
set_option maxHeartbeats 1600000 in
theorem rd_nul_11 (hp4:p < 1024) (hp0:¬ 0 < p) (h0:¬ s.K p=0) (hb:¬ (0 < p∧s.K (p - 1)=s.K p)) (hu:p % 16=0∧s.G (p / 16)=true) (hd:s.K p=2∧¬ zeroB (s.B p)):(skel s o ho hlen).1 p:=by
 have hL0:=runs_len (K:=s.K) (n:=p)
 have hL1:=huge_len (G:=s.G) (n:=p)
 have hL2:=data_len (B:=s.B2) (n:=p)
 have hst:=rfk_planO (K:=s.K) (G:=s.G) (B:=s.B) ho (stA_len (l:=s.l) (C:=s.C) (H:=s.H))
 have hru:=rfk_rules (K:=s.K) (G:=s.G) (B:=s.B) (l:=s.l) (C:=s.C) (H:=s.H) ho
 have hk:(refK s.K s.G s.B (stA s.l s.C s.H))[p]? = some (.int .i64 (s.K p)):=rfk_kind hp4
 have hh:(refK s.K s.G s.B (stA s.l s.C s.H))[1024+p / 16]? = some (.bool (s.G (p / 16))):=rfk_huge (by omega)
 have hw16:=quo16 (q:=p) (by omega)
 have ht16:((p:Nat):Int).tmod 16=((p % 16:Nat):Int):=by rw [Int.tmod_eq_emod_of_nonneg (by omega)];omega
 have hby:=rfk_bytes (K:=s.K) (G:=s.G) (B:=s.B) (P:=stA s.l s.C s.H) hp4
 have hyl:=by_len (s.B p)
 have hyz:=eqL_by (s.B p)
 generalize hy:byA (s.B p)=y at hby hyl hyz
 have e0:runsTo s.K (p+1)=runsTo s.K p++[⟨((p:Nat):Int),1,s.K p⟩]:=by
  show (if s.K p=0 then _ else if 0 < p∧s.K (p - 1)=s.K p then bumpV (runsTo s.K p) else _)=_
  rw [if_neg h0,if_neg hb]
 have e1:hugeTo s.G (p+1)=hugeTo s.G p++[((p:Nat):Int)]:=if_pos hu
 rw [hu.2] at hh
 have e2:=data_yes hd
 obtain ⟨hd1,hd2⟩:=hd
 unfold skel
 dsimp only
 (refine wtk ?_;repeat' (first|with_reducible refine And.intro ?_ ?_|intro hsp))
 all_goals first|(exfalso;omega)|skip
 all_goals exact next_x (p+1) [(10,42),(11,46),(12,58)] (by (try dsimp only);omega) (by first|omega|(dsimp only;omega)) rfl (by ((try dsimp only);rw [e0,e1,e2]);exact wkx_Tk)
end
end Go.Proofs.YtkahmhmkhfllpaaDoor
