/-
 Save of the document: a new run.
 Save of the document: a new run.
 Save of the document: a new run.
 Save of the document: a new run.
 Save of the document: a run at page 0.
 Save of the document: a run at page 0.
 Save of the document: a run at page 0.
 Save of the document: a run at page 0.
 Save of the document: a run goes on.
 Save of the document: a run goes on.
 Save of the document: a run goes on.
 Save of the document: a run goes on.
 Save of the document.
 Load of the program: its closures,and what it lays out.
-/
import Derived.Test.YtbhgfoikbkaohaaGreatQau
set_option linter.unusedSimpArgs false
set_option linter.unusedVariables false
set_option maxHeartbeats 1600000
namespace Go.Proofs.YtbhgfoikbkaohaaGreat
open Go Go.Am Go.Pol
open Go.Proofs.YtbhgfoikbkaohaaGreat renaming plx_Tj → plx
open Go.Proofs.YtbhgfoikbkaohaaGreat renaming ppx_Tj → ppx
section
variable {s:Sy} {o:Nat} {ho:o=66624} {hlen:s.l.length≤100000} {p:Nat}
theorem rd_new_00 (hp4:p < 1024) (hp0:0 < p) (h0:¬ s.K p=0) (hb:¬ (0 < p∧s.K (p - 1)=s.K p)) (hu:¬ (p % 16=0∧s.G (p / 16)=true)) (hd:¬ (s.K p=2∧¬ l5 (s.B p))):(skel s o ho hlen).1 p:=by
 have hL0:=X3 (K:=s.K) (n:=p)
 have hL1:=X6 (G:=s.G) (n:=p)
 have hL2:=X8 (B:=s.B2) (n:=p)
 have hst:=R8 (K:=s.K) (G:=s.G) (B:=s.B) ho (Z6 (l:=s.l) (C:=s.C) (H:=s.H))
 have hru:=U7 (K:=s.K) (G:=s.G) (B:=s.B) (l:=s.l) (C:=s.C) (H:=s.H) ho
 have hk:(refK s.K s.G s.B (stA s.l s.C s.H))[p]? = some (.int .i64 (s.K p)):=M7 hp4
 have hh:(refK s.K s.G s.B (stA s.l s.C s.H))[1024+p / 16]? = some (.bool (s.G (p / 16))):=Y6 (by omega)
 have hw16:=AU2 (q:=p) (by omega)
 have ht16:((p:Nat):Int).tmod 16=((p % 16:Nat):Int):=by rw [Int.tmod_eq_emod_of_nonneg (by omega)];omega
 have hby:=X4 (K:=s.K) (G:=s.G) (B:=s.B) (P:=stA s.l s.C s.H) hp4
 have hyl:=by_len (s.B p)
 have hyz:=AK3 (s.B p)
 generalize hy:byA (s.B p)=y at hby hyl hyz
 have e0:G8 s.K (p+1)=G8 s.K p++[⟨((p:Nat):Int),1,s.K p⟩]:=by
  show (if s.K p=0 then _ else if 0 < p∧s.K (p - 1)=s.K p then bump (G8 s.K p) else _)=_
  rw [if_neg h0,if_neg hb]
 have hk1:(refK s.K s.G s.B (stA s.l s.C s.H))[(((p:Nat):Int) - 1).toNat]? = some (.int .i64 (s.K (p - 1))):=by rw [show (((p:Nat):Int) - 1).toNat=p - 1 by omega];exact M7 (by omega)
 have hp1:IntKind.i64.wrap (((p:Nat):Int) - 1)=((p - 1:Nat):Int):=by rw [IntWalk.i64_in _ ⟨by omega,by omega⟩];omega
 have hne:¬ s.K (p - 1)=s.K p:=fun h=>hb ⟨hp0,h⟩
 have e1:Q6 s.G (p+1)=Q6 s.G p:=if_neg hu
 have e2:=AS2 hd
 unfold skel
 dsimp only
 (refine wtk ?_;repeat' (first|with_reducible refine And.intro ?_ ?_|intro hsp))
 all_goals first|(exfalso;exact hu ⟨(by first|omega|fail),(by first|assumption|fail)⟩)|skip
 all_goals first|(exfalso;exact hd ⟨(by first|assumption|fail),(by first|assumption|fail)⟩)|skip
 all_goals first|(exfalso;exact hne (by first|assumption|fail))|(exfalso;omega)|skip
 all_goals exact D6 (p+1) [(10,42)] (by (try dsimp only);omega) (by first|omega|(dsimp only;omega)) rfl (by ((try dsimp only);rw [e0,e1,e2]);exact AF7)
end
end Go.Proofs.YtbhgfoikbkaohaaGreat
namespace Go.Proofs.YtbhgfoikbkaohaaGreat
open Go Go.Am Go.Pol
open Go.Proofs.YtbhgfoikbkaohaaGreat renaming plx_Tj → plx
open Go.Proofs.YtbhgfoikbkaohaaGreat renaming ppx_Tj → ppx
section
variable {s:Sy} {o:Nat} {ho:o=66624} {hlen:s.l.length≤100000} {p:Nat}
theorem rd_new_01 (hp4:p < 1024) (hp0:0 < p) (h0:¬ s.K p=0) (hb:¬ (0 < p∧s.K (p - 1)=s.K p)) (hu:¬ (p % 16=0∧s.G (p / 16)=true)) (hd:s.K p=2∧¬ l5 (s.B p)):(skel s o ho hlen).1 p:=by
 have hL0:=X3 (K:=s.K) (n:=p)
 have hL1:=X6 (G:=s.G) (n:=p)
 have hL2:=X8 (B:=s.B2) (n:=p)
 have hst:=R8 (K:=s.K) (G:=s.G) (B:=s.B) ho (Z6 (l:=s.l) (C:=s.C) (H:=s.H))
 have hru:=U7 (K:=s.K) (G:=s.G) (B:=s.B) (l:=s.l) (C:=s.C) (H:=s.H) ho
 have hk:(refK s.K s.G s.B (stA s.l s.C s.H))[p]? = some (.int .i64 (s.K p)):=M7 hp4
 have hh:(refK s.K s.G s.B (stA s.l s.C s.H))[1024+p / 16]? = some (.bool (s.G (p / 16))):=Y6 (by omega)
 have hw16:=AU2 (q:=p) (by omega)
 have ht16:((p:Nat):Int).tmod 16=((p % 16:Nat):Int):=by rw [Int.tmod_eq_emod_of_nonneg (by omega)];omega
 have hby:=X4 (K:=s.K) (G:=s.G) (B:=s.B) (P:=stA s.l s.C s.H) hp4
 have hyl:=by_len (s.B p)
 have hyz:=AK3 (s.B p)
 generalize hy:byA (s.B p)=y at hby hyl hyz
 have e0:G8 s.K (p+1)=G8 s.K p++[⟨((p:Nat):Int),1,s.K p⟩]:=by
  show (if s.K p=0 then _ else if 0 < p∧s.K (p - 1)=s.K p then bump (G8 s.K p) else _)=_
  rw [if_neg h0,if_neg hb]
 have hk1:(refK s.K s.G s.B (stA s.l s.C s.H))[(((p:Nat):Int) - 1).toNat]? = some (.int .i64 (s.K (p - 1))):=by rw [show (((p:Nat):Int) - 1).toNat=p - 1 by omega];exact M7 (by omega)
 have hp1:IntKind.i64.wrap (((p:Nat):Int) - 1)=((p - 1:Nat):Int):=by rw [IntWalk.i64_in _ ⟨by omega,by omega⟩];omega
 have hne:¬ s.K (p - 1)=s.K p:=fun h=>hb ⟨hp0,h⟩
 have e1:Q6 s.G (p+1)=Q6 s.G p:=if_neg hu
 have e2:=AT8 hd
 obtain ⟨hd1,hd2⟩:=hd
 unfold skel
 dsimp only
 (refine wtk ?_;repeat' (first|with_reducible refine And.intro ?_ ?_|intro hsp))
 all_goals first|(exfalso;exact hu ⟨(by first|omega|fail),(by first|assumption|fail)⟩)|skip
 all_goals first|(exfalso;exact hne (by first|assumption|fail))|(exfalso;omega)|skip
 all_goals exact D6 (p+1) [(10,42),(12,56)] (by (try dsimp only);omega) (by first|omega|(dsimp only;omega)) rfl (by ((try dsimp only);rw [e0,e1,e2]);exact AF7)
end
end Go.Proofs.YtbhgfoikbkaohaaGreat
namespace Go.Proofs.YtbhgfoikbkaohaaGreat
open Go Go.Am Go.Pol
open Go.Proofs.YtbhgfoikbkaohaaGreat renaming plx_Tj → plx
open Go.Proofs.YtbhgfoikbkaohaaGreat renaming ppx_Tj → ppx
section
variable {s:Sy} {o:Nat} {ho:o=66624} {hlen:s.l.length≤100000} {p:Nat}
theorem rd_new_10 (hp4:p < 1024) (hp0:0 < p) (h0:¬ s.K p=0) (hb:¬ (0 < p∧s.K (p - 1)=s.K p)) (hu:p % 16=0∧s.G (p / 16)=true) (hd:¬ (s.K p=2∧¬ l5 (s.B p))):(skel s o ho hlen).1 p:=by
 have hL0:=X3 (K:=s.K) (n:=p)
 have hL1:=X6 (G:=s.G) (n:=p)
 have hL2:=X8 (B:=s.B2) (n:=p)
 have hst:=R8 (K:=s.K) (G:=s.G) (B:=s.B) ho (Z6 (l:=s.l) (C:=s.C) (H:=s.H))
 have hru:=U7 (K:=s.K) (G:=s.G) (B:=s.B) (l:=s.l) (C:=s.C) (H:=s.H) ho
 have hk:(refK s.K s.G s.B (stA s.l s.C s.H))[p]? = some (.int .i64 (s.K p)):=M7 hp4
 have hh:(refK s.K s.G s.B (stA s.l s.C s.H))[1024+p / 16]? = some (.bool (s.G (p / 16))):=Y6 (by omega)
 have hw16:=AU2 (q:=p) (by omega)
 have ht16:((p:Nat):Int).tmod 16=((p % 16:Nat):Int):=by rw [Int.tmod_eq_emod_of_nonneg (by omega)];omega
 have hby:=X4 (K:=s.K) (G:=s.G) (B:=s.B) (P:=stA s.l s.C s.H) hp4
 have hyl:=by_len (s.B p)
 have hyz:=AK3 (s.B p)
 generalize hy:byA (s.B p)=y at hby hyl hyz
 have e0:G8 s.K (p+1)=G8 s.K p++[⟨((p:Nat):Int),1,s.K p⟩]:=by
  show (if s.K p=0 then _ else if 0 < p∧s.K (p - 1)=s.K p then bump (G8 s.K p) else _)=_
  rw [if_neg h0,if_neg hb]
 have hk1:(refK s.K s.G s.B (stA s.l s.C s.H))[(((p:Nat):Int) - 1).toNat]? = some (.int .i64 (s.K (p - 1))):=by rw [show (((p:Nat):Int) - 1).toNat=p - 1 by omega];exact M7 (by omega)
 have hp1:IntKind.i64.wrap (((p:Nat):Int) - 1)=((p - 1:Nat):Int):=by rw [IntWalk.i64_in _ ⟨by omega,by omega⟩];omega
 have hne:¬ s.K (p - 1)=s.K p:=fun h=>hb ⟨hp0,h⟩
 have e1:Q6 s.G (p+1)=Q6 s.G p++[((p:Nat):Int)]:=if_pos hu
 rw [hu.2] at hh
 have e2:=AS2 hd
 unfold skel
 dsimp only
 (refine wtk ?_;repeat' (first|with_reducible refine And.intro ?_ ?_|intro hsp))
 all_goals first|(exfalso;exact hd ⟨(by first|assumption|fail),(by first|assumption|fail)⟩)|skip
 all_goals first|(exfalso;exact hne (by first|assumption|fail))|(exfalso;omega)|skip
 all_goals exact D6 (p+1) [(10,42),(11,46)] (by (try dsimp only);omega) (by first|omega|(dsimp only;omega)) rfl (by ((try dsimp only);rw [e0,e1,e2]);exact AF7)
end
end Go.Proofs.YtbhgfoikbkaohaaGreat
namespace Go.Proofs.YtbhgfoikbkaohaaGreat
open Go Go.Am Go.Pol
open Go.Proofs.YtbhgfoikbkaohaaGreat renaming plx_Tj → plx
open Go.Proofs.YtbhgfoikbkaohaaGreat renaming ppx_Tj → ppx
section
variable {s:Sy} {o:Nat} {ho:o=66624} {hlen:s.l.length≤100000} {p:Nat}
theorem rd_new_11 (hp4:p < 1024) (hp0:0 < p) (h0:¬ s.K p=0) (hb:¬ (0 < p∧s.K (p - 1)=s.K p)) (hu:p % 16=0∧s.G (p / 16)=true) (hd:s.K p=2∧¬ l5 (s.B p)):(skel s o ho hlen).1 p:=by
 have hL0:=X3 (K:=s.K) (n:=p)
 have hL1:=X6 (G:=s.G) (n:=p)
 have hL2:=X8 (B:=s.B2) (n:=p)
 have hst:=R8 (K:=s.K) (G:=s.G) (B:=s.B) ho (Z6 (l:=s.l) (C:=s.C) (H:=s.H))
 have hru:=U7 (K:=s.K) (G:=s.G) (B:=s.B) (l:=s.l) (C:=s.C) (H:=s.H) ho
 have hk:(refK s.K s.G s.B (stA s.l s.C s.H))[p]? = some (.int .i64 (s.K p)):=M7 hp4
 have hh:(refK s.K s.G s.B (stA s.l s.C s.H))[1024+p / 16]? = some (.bool (s.G (p / 16))):=Y6 (by omega)
 have hw16:=AU2 (q:=p) (by omega)
 have ht16:((p:Nat):Int).tmod 16=((p % 16:Nat):Int):=by rw [Int.tmod_eq_emod_of_nonneg (by omega)];omega
 have hby:=X4 (K:=s.K) (G:=s.G) (B:=s.B) (P:=stA s.l s.C s.H) hp4
 have hyl:=by_len (s.B p)
 have hyz:=AK3 (s.B p)
 generalize hy:byA (s.B p)=y at hby hyl hyz
 have e0:G8 s.K (p+1)=G8 s.K p++[⟨((p:Nat):Int),1,s.K p⟩]:=by
  show (if s.K p=0 then _ else if 0 < p∧s.K (p - 1)=s.K p then bump (G8 s.K p) else _)=_
  rw [if_neg h0,if_neg hb]
 have hk1:(refK s.K s.G s.B (stA s.l s.C s.H))[(((p:Nat):Int) - 1).toNat]? = some (.int .i64 (s.K (p - 1))):=by rw [show (((p:Nat):Int) - 1).toNat=p - 1 by omega];exact M7 (by omega)
 have hp1:IntKind.i64.wrap (((p:Nat):Int) - 1)=((p - 1:Nat):Int):=by rw [IntWalk.i64_in _ ⟨by omega,by omega⟩];omega
 have hne:¬ s.K (p - 1)=s.K p:=fun h=>hb ⟨hp0,h⟩
 have e1:Q6 s.G (p+1)=Q6 s.G p++[((p:Nat):Int)]:=if_pos hu
 rw [hu.2] at hh
 have e2:=AT8 hd
 obtain ⟨hd1,hd2⟩:=hd
 unfold skel
 dsimp only
 (refine wtk ?_;repeat' (first|with_reducible refine And.intro ?_ ?_|intro hsp))
 all_goals first|(exfalso;exact hne (by first|assumption|fail))|(exfalso;omega)|skip
 all_goals exact D6 (p+1) [(10,42),(11,46),(12,58)] (by (try dsimp only);omega) (by first|omega|(dsimp only;omega)) rfl (by ((try dsimp only);rw [e0,e1,e2]);exact AF7)
end
end Go.Proofs.YtbhgfoikbkaohaaGreat
namespace Go.Proofs.YtbhgfoikbkaohaaGreat
open Go Go.Am Go.Pol
open Go.Proofs.YtbhgfoikbkaohaaGreat renaming plx_Tj → plx
open Go.Proofs.YtbhgfoikbkaohaaGreat renaming ppx_Tj → ppx
section
variable {s:Sy} {o:Nat} {ho:o=66624} {hlen:s.l.length≤100000} {p:Nat}
theorem rd_nul_00 (hp4:p < 1024) (hp0:¬ 0 < p) (h0:¬ s.K p=0) (hb:¬ (0 < p∧s.K (p - 1)=s.K p)) (hu:¬ (p % 16=0∧s.G (p / 16)=true)) (hd:¬ (s.K p=2∧¬ l5 (s.B p))):(skel s o ho hlen).1 p:=by
 have hL0:=X3 (K:=s.K) (n:=p)
 have hL1:=X6 (G:=s.G) (n:=p)
 have hL2:=X8 (B:=s.B2) (n:=p)
 have hst:=R8 (K:=s.K) (G:=s.G) (B:=s.B) ho (Z6 (l:=s.l) (C:=s.C) (H:=s.H))
 have hru:=U7 (K:=s.K) (G:=s.G) (B:=s.B) (l:=s.l) (C:=s.C) (H:=s.H) ho
 have hk:(refK s.K s.G s.B (stA s.l s.C s.H))[p]? = some (.int .i64 (s.K p)):=M7 hp4
 have hh:(refK s.K s.G s.B (stA s.l s.C s.H))[1024+p / 16]? = some (.bool (s.G (p / 16))):=Y6 (by omega)
 have hw16:=AU2 (q:=p) (by omega)
 have ht16:((p:Nat):Int).tmod 16=((p % 16:Nat):Int):=by rw [Int.tmod_eq_emod_of_nonneg (by omega)];omega
 have hby:=X4 (K:=s.K) (G:=s.G) (B:=s.B) (P:=stA s.l s.C s.H) hp4
 have hyl:=by_len (s.B p)
 have hyz:=AK3 (s.B p)
 generalize hy:byA (s.B p)=y at hby hyl hyz
 have e0:G8 s.K (p+1)=G8 s.K p++[⟨((p:Nat):Int),1,s.K p⟩]:=by
  show (if s.K p=0 then _ else if 0 < p∧s.K (p - 1)=s.K p then bump (G8 s.K p) else _)=_
  rw [if_neg h0,if_neg hb]
 have e1:Q6 s.G (p+1)=Q6 s.G p:=if_neg hu
 have e2:=AS2 hd
 unfold skel
 dsimp only
 (refine wtk ?_;repeat' (first|with_reducible refine And.intro ?_ ?_|intro hsp))
 all_goals first|(exfalso;exact hu ⟨(by first|omega|fail),(by first|assumption|fail)⟩)|skip
 all_goals first|(exfalso;exact hd ⟨(by first|assumption|fail),(by first|assumption|fail)⟩)|skip
 all_goals first|(exfalso;omega)|skip
 all_goals exact D6 (p+1) [(10,42)] (by (try dsimp only);omega) (by first|omega|(dsimp only;omega)) rfl (by ((try dsimp only);rw [e0,e1,e2]);exact AF7)
end
end Go.Proofs.YtbhgfoikbkaohaaGreat
namespace Go.Proofs.YtbhgfoikbkaohaaGreat
open Go Go.Am Go.Pol
open Go.Proofs.YtbhgfoikbkaohaaGreat renaming plx_Tj → plx
open Go.Proofs.YtbhgfoikbkaohaaGreat renaming ppx_Tj → ppx
section
variable {s:Sy} {o:Nat} {ho:o=66624} {hlen:s.l.length≤100000} {p:Nat}
theorem rd_nul_01 (hp4:p < 1024) (hp0:¬ 0 < p) (h0:¬ s.K p=0) (hb:¬ (0 < p∧s.K (p - 1)=s.K p)) (hu:¬ (p % 16=0∧s.G (p / 16)=true)) (hd:s.K p=2∧¬ l5 (s.B p)):(skel s o ho hlen).1 p:=by
 have hL0:=X3 (K:=s.K) (n:=p)
 have hL1:=X6 (G:=s.G) (n:=p)
 have hL2:=X8 (B:=s.B2) (n:=p)
 have hst:=R8 (K:=s.K) (G:=s.G) (B:=s.B) ho (Z6 (l:=s.l) (C:=s.C) (H:=s.H))
 have hru:=U7 (K:=s.K) (G:=s.G) (B:=s.B) (l:=s.l) (C:=s.C) (H:=s.H) ho
 have hk:(refK s.K s.G s.B (stA s.l s.C s.H))[p]? = some (.int .i64 (s.K p)):=M7 hp4
 have hh:(refK s.K s.G s.B (stA s.l s.C s.H))[1024+p / 16]? = some (.bool (s.G (p / 16))):=Y6 (by omega)
 have hw16:=AU2 (q:=p) (by omega)
 have ht16:((p:Nat):Int).tmod 16=((p % 16:Nat):Int):=by rw [Int.tmod_eq_emod_of_nonneg (by omega)];omega
 have hby:=X4 (K:=s.K) (G:=s.G) (B:=s.B) (P:=stA s.l s.C s.H) hp4
 have hyl:=by_len (s.B p)
 have hyz:=AK3 (s.B p)
 generalize hy:byA (s.B p)=y at hby hyl hyz
 have e0:G8 s.K (p+1)=G8 s.K p++[⟨((p:Nat):Int),1,s.K p⟩]:=by
  show (if s.K p=0 then _ else if 0 < p∧s.K (p - 1)=s.K p then bump (G8 s.K p) else _)=_
  rw [if_neg h0,if_neg hb]
 have e1:Q6 s.G (p+1)=Q6 s.G p:=if_neg hu
 have e2:=AT8 hd
 obtain ⟨hd1,hd2⟩:=hd
 unfold skel
 dsimp only
 (refine wtk ?_;repeat' (first|with_reducible refine And.intro ?_ ?_|intro hsp))
 all_goals first|(exfalso;exact hu ⟨(by first|omega|fail),(by first|assumption|fail)⟩)|skip
 all_goals first|(exfalso;omega)|skip
 all_goals exact D6 (p+1) [(10,42),(12,56)] (by (try dsimp only);omega) (by first|omega|(dsimp only;omega)) rfl (by ((try dsimp only);rw [e0,e1,e2]);exact AF7)
end
end Go.Proofs.YtbhgfoikbkaohaaGreat
namespace Go.Proofs.YtbhgfoikbkaohaaGreat
open Go Go.Am Go.Pol
open Go.Proofs.YtbhgfoikbkaohaaGreat renaming plx_Tj → plx
open Go.Proofs.YtbhgfoikbkaohaaGreat renaming ppx_Tj → ppx
section
variable {s:Sy} {o:Nat} {ho:o=66624} {hlen:s.l.length≤100000} {p:Nat}
theorem rd_nul_10 (hp4:p < 1024) (hp0:¬ 0 < p) (h0:¬ s.K p=0) (hb:¬ (0 < p∧s.K (p - 1)=s.K p)) (hu:p % 16=0∧s.G (p / 16)=true) (hd:¬ (s.K p=2∧¬ l5 (s.B p))):(skel s o ho hlen).1 p:=by
 have hL0:=X3 (K:=s.K) (n:=p)
 have hL1:=X6 (G:=s.G) (n:=p)
 have hL2:=X8 (B:=s.B2) (n:=p)
 have hst:=R8 (K:=s.K) (G:=s.G) (B:=s.B) ho (Z6 (l:=s.l) (C:=s.C) (H:=s.H))
 have hru:=U7 (K:=s.K) (G:=s.G) (B:=s.B) (l:=s.l) (C:=s.C) (H:=s.H) ho
 have hk:(refK s.K s.G s.B (stA s.l s.C s.H))[p]? = some (.int .i64 (s.K p)):=M7 hp4
 have hh:(refK s.K s.G s.B (stA s.l s.C s.H))[1024+p / 16]? = some (.bool (s.G (p / 16))):=Y6 (by omega)
 have hw16:=AU2 (q:=p) (by omega)
 have ht16:((p:Nat):Int).tmod 16=((p % 16:Nat):Int):=by rw [Int.tmod_eq_emod_of_nonneg (by omega)];omega
 have hby:=X4 (K:=s.K) (G:=s.G) (B:=s.B) (P:=stA s.l s.C s.H) hp4
 have hyl:=by_len (s.B p)
 have hyz:=AK3 (s.B p)
 generalize hy:byA (s.B p)=y at hby hyl hyz
 have e0:G8 s.K (p+1)=G8 s.K p++[⟨((p:Nat):Int),1,s.K p⟩]:=by
  show (if s.K p=0 then _ else if 0 < p∧s.K (p - 1)=s.K p then bump (G8 s.K p) else _)=_
  rw [if_neg h0,if_neg hb]
 have e1:Q6 s.G (p+1)=Q6 s.G p++[((p:Nat):Int)]:=if_pos hu
 rw [hu.2] at hh
 have e2:=AS2 hd
 unfold skel
 dsimp only
 (refine wtk ?_;repeat' (first|with_reducible refine And.intro ?_ ?_|intro hsp))
 all_goals first|(exfalso;exact hd ⟨(by first|assumption|fail),(by first|assumption|fail)⟩)|skip
 all_goals first|(exfalso;omega)|skip
 all_goals exact D6 (p+1) [(10,42),(11,46)] (by (try dsimp only);omega) (by first|omega|(dsimp only;omega)) rfl (by ((try dsimp only);rw [e0,e1,e2]);exact AF7)
end
end Go.Proofs.YtbhgfoikbkaohaaGreat
namespace Go.Proofs.YtbhgfoikbkaohaaGreat
open Go Go.Am Go.Pol
open Go.Proofs.YtbhgfoikbkaohaaGreat renaming plx_Tj → plx
open Go.Proofs.YtbhgfoikbkaohaaGreat renaming ppx_Tj → ppx
section
variable {s:Sy} {o:Nat} {ho:o=66624} {hlen:s.l.length≤100000} {p:Nat}
theorem rd_nul_11 (hp4:p < 1024) (hp0:¬ 0 < p) (h0:¬ s.K p=0) (hb:¬ (0 < p∧s.K (p - 1)=s.K p)) (hu:p % 16=0∧s.G (p / 16)=true) (hd:s.K p=2∧¬ l5 (s.B p)):(skel s o ho hlen).1 p:=by
 have hL0:=X3 (K:=s.K) (n:=p)
 have hL1:=X6 (G:=s.G) (n:=p)
 have hL2:=X8 (B:=s.B2) (n:=p)
 have hst:=R8 (K:=s.K) (G:=s.G) (B:=s.B) ho (Z6 (l:=s.l) (C:=s.C) (H:=s.H))
 have hru:=U7 (K:=s.K) (G:=s.G) (B:=s.B) (l:=s.l) (C:=s.C) (H:=s.H) ho
 have hk:(refK s.K s.G s.B (stA s.l s.C s.H))[p]? = some (.int .i64 (s.K p)):=M7 hp4
 have hh:(refK s.K s.G s.B (stA s.l s.C s.H))[1024+p / 16]? = some (.bool (s.G (p / 16))):=Y6 (by omega)
 have hw16:=AU2 (q:=p) (by omega)
 have ht16:((p:Nat):Int).tmod 16=((p % 16:Nat):Int):=by rw [Int.tmod_eq_emod_of_nonneg (by omega)];omega
 have hby:=X4 (K:=s.K) (G:=s.G) (B:=s.B) (P:=stA s.l s.C s.H) hp4
 have hyl:=by_len (s.B p)
 have hyz:=AK3 (s.B p)
 generalize hy:byA (s.B p)=y at hby hyl hyz
 have e0:G8 s.K (p+1)=G8 s.K p++[⟨((p:Nat):Int),1,s.K p⟩]:=by
  show (if s.K p=0 then _ else if 0 < p∧s.K (p - 1)=s.K p then bump (G8 s.K p) else _)=_
  rw [if_neg h0,if_neg hb]
 have e1:Q6 s.G (p+1)=Q6 s.G p++[((p:Nat):Int)]:=if_pos hu
 rw [hu.2] at hh
 have e2:=AT8 hd
 obtain ⟨hd1,hd2⟩:=hd
 unfold skel
 dsimp only
 (refine wtk ?_;repeat' (first|with_reducible refine And.intro ?_ ?_|intro hsp))
 all_goals first|(exfalso;omega)|skip
 all_goals exact D6 (p+1) [(10,42),(11,46),(12,58)] (by (try dsimp only);omega) (by first|omega|(dsimp only;omega)) rfl (by ((try dsimp only);rw [e0,e1,e2]);exact AF7)
end
end Go.Proofs.YtbhgfoikbkaohaaGreat
namespace Go.Proofs.YtbhgfoikbkaohaaGreat
open Go Go.Am Go.Pol
open Go.Proofs.YtbhgfoikbkaohaaGreat renaming plx_Tj → plx
open Go.Proofs.YtbhgfoikbkaohaaGreat renaming ppx_Tj → ppx
section
variable {s:Sy} {o:Nat} {ho:o=66624} {hlen:s.l.length≤100000} {p:Nat}
theorem rd_bmp_00 (hp4:p < 1024) (h0:¬ s.K p=0) (hb:0 < p∧s.K (p - 1)=s.K p) (hu:¬ (p % 16=0∧s.G (p / 16)=true)) (hd:¬ (s.K p=2∧¬ l5 (s.B p))):(skel s o ho hlen).1 p:=by
 have hL0:=X3 (K:=s.K) (n:=p)
 have hL1:=X6 (G:=s.G) (n:=p)
 have hL2:=X8 (B:=s.B2) (n:=p)
 have hst:=R8 (K:=s.K) (G:=s.G) (B:=s.B) ho (Z6 (l:=s.l) (C:=s.C) (H:=s.H))
 have hru:=U7 (K:=s.K) (G:=s.G) (B:=s.B) (l:=s.l) (C:=s.C) (H:=s.H) ho
 have hk:(refK s.K s.G s.B (stA s.l s.C s.H))[p]? = some (.int .i64 (s.K p)):=M7 hp4
 have hh:(refK s.K s.G s.B (stA s.l s.C s.H))[1024+p / 16]? = some (.bool (s.G (p / 16))):=Y6 (by omega)
 have hw16:=AU2 (q:=p) (by omega)
 have ht16:((p:Nat):Int).tmod 16=((p % 16:Nat):Int):=by rw [Int.tmod_eq_emod_of_nonneg (by omega)];omega
 have hby:=X4 (K:=s.K) (G:=s.G) (B:=s.B) (P:=stA s.l s.C s.H) hp4
 have hyl:=by_len (s.B p)
 have hyz:=AK3 (s.B p)
 generalize hy:byA (s.B p)=y at hby hyl hyz
 obtain ⟨L,r,hR,er⟩:∃ (L:List Rn) (r:Rn),G8 s.K p=L++[r]∧r.n≤(p:Nat)∧1≤r.n:=by
  obtain ⟨L,m,e,m1,m2⟩:=AF8 (K:=s.K) hb.1 (by rw [hb.2];exact h0)
  exact ⟨L,_,e,by dsimp only;omega,by dsimp only;omega⟩
 have e0:G8 s.K (p+1)=L++[⟨r.p,r.n+1,r.k⟩]:=by
  show (if s.K p=0 then _ else if 0 < p∧s.K (p - 1)=s.K p then bump (G8 s.K p) else _)=_
  rw [if_neg h0,if_pos hb,hR,AI3]
 have hk1:(refK s.K s.G s.B (stA s.l s.C s.H))[(((p:Nat):Int) - 1).toNat]? = some (.int .i64 (s.K (p - 1))):=by rw [show (((p:Nat):Int) - 1).toNat=p - 1 by omega];exact M7 (by omega)
 have hp1:IntKind.i64.wrap (((p:Nat):Int) - 1)=((p - 1:Nat):Int):=by rw [IntWalk.i64_in _ ⟨by omega,by omega⟩];omega
 have hlL:(L++[r]).length=L.length+1:=by simp
 rw [hR,hlL] at hL0
 have hn0:L.length+1 ≠ 0:=by omega
 have hn1:(L++[r]).length ≠ 0:=by omega
 have hix:(((L.length+1:Nat):Int) - 1).toNat=L.length:=by omega
 have hg:(flat rnA (L++[r]))[(((L.length+1:Nat):Int) - 1).toNat * 3+1]? = some (.int .i64 r.n):=by rw [hix];exact Ai5 rfl
 have hs:(flat rnA (L++[r])).set ((((L.length+1:Nat):Int) - 1).toNat * 3+1) (.int .i64 (r.n+1))=flat rnA (L++[⟨r.p,r.n+1,r.k⟩]):=by rw [hix];exact Ai4 rfl
 have hfl:(flat rnA (L++[r])).length=(L.length+1) * 3:=by rw [AG0,hlL]
 rw [hb.2] at hk1
 have e1:Q6 s.G (p+1)=Q6 s.G p:=if_neg hu
 have e2:=AS2 hd
 unfold skel
 dsimp only
 rw [hR,hlL,Al7 hn0,AJ9 hn1]
 (refine wtk ?_;repeat' (first|with_reducible refine And.intro ?_ ?_|intro hsp))
 all_goals first|(exfalso;exact hu ⟨(by first|omega|fail),(by first|assumption|fail)⟩)|skip
 all_goals first|(exfalso;exact hd ⟨(by first|assumption|fail),(by first|assumption|fail)⟩)|skip
 all_goals first|(exfalso;omega)|skip
 all_goals exact D6 (p+1) [] (by (try dsimp only);omega) (by first|omega|(dsimp only;omega)) rfl (by ((try dsimp only);rw [e0,e1,e2]);exact AF7)
end
end Go.Proofs.YtbhgfoikbkaohaaGreat
namespace Go.Proofs.YtbhgfoikbkaohaaGreat
open Go Go.Am Go.Pol
open Go.Proofs.YtbhgfoikbkaohaaGreat renaming plx_Tj → plx
open Go.Proofs.YtbhgfoikbkaohaaGreat renaming ppx_Tj → ppx
section
variable {s:Sy} {o:Nat} {ho:o=66624} {hlen:s.l.length≤100000} {p:Nat}
theorem rd_bmp_01 (hp4:p < 1024) (h0:¬ s.K p=0) (hb:0 < p∧s.K (p - 1)=s.K p) (hu:¬ (p % 16=0∧s.G (p / 16)=true)) (hd:s.K p=2∧¬ l5 (s.B p)):(skel s o ho hlen).1 p:=by
 have hL0:=X3 (K:=s.K) (n:=p)
 have hL1:=X6 (G:=s.G) (n:=p)
 have hL2:=X8 (B:=s.B2) (n:=p)
 have hst:=R8 (K:=s.K) (G:=s.G) (B:=s.B) ho (Z6 (l:=s.l) (C:=s.C) (H:=s.H))
 have hru:=U7 (K:=s.K) (G:=s.G) (B:=s.B) (l:=s.l) (C:=s.C) (H:=s.H) ho
 have hk:(refK s.K s.G s.B (stA s.l s.C s.H))[p]? = some (.int .i64 (s.K p)):=M7 hp4
 have hh:(refK s.K s.G s.B (stA s.l s.C s.H))[1024+p / 16]? = some (.bool (s.G (p / 16))):=Y6 (by omega)
 have hw16:=AU2 (q:=p) (by omega)
 have ht16:((p:Nat):Int).tmod 16=((p % 16:Nat):Int):=by rw [Int.tmod_eq_emod_of_nonneg (by omega)];omega
 have hby:=X4 (K:=s.K) (G:=s.G) (B:=s.B) (P:=stA s.l s.C s.H) hp4
 have hyl:=by_len (s.B p)
 have hyz:=AK3 (s.B p)
 generalize hy:byA (s.B p)=y at hby hyl hyz
 obtain ⟨L,r,hR,er⟩:∃ (L:List Rn) (r:Rn),G8 s.K p=L++[r]∧r.n≤(p:Nat)∧1≤r.n:=by
  obtain ⟨L,m,e,m1,m2⟩:=AF8 (K:=s.K) hb.1 (by rw [hb.2];exact h0)
  exact ⟨L,_,e,by dsimp only;omega,by dsimp only;omega⟩
 have e0:G8 s.K (p+1)=L++[⟨r.p,r.n+1,r.k⟩]:=by
  show (if s.K p=0 then _ else if 0 < p∧s.K (p - 1)=s.K p then bump (G8 s.K p) else _)=_
  rw [if_neg h0,if_pos hb,hR,AI3]
 have hk1:(refK s.K s.G s.B (stA s.l s.C s.H))[(((p:Nat):Int) - 1).toNat]? = some (.int .i64 (s.K (p - 1))):=by rw [show (((p:Nat):Int) - 1).toNat=p - 1 by omega];exact M7 (by omega)
 have hp1:IntKind.i64.wrap (((p:Nat):Int) - 1)=((p - 1:Nat):Int):=by rw [IntWalk.i64_in _ ⟨by omega,by omega⟩];omega
 have hlL:(L++[r]).length=L.length+1:=by simp
 rw [hR,hlL] at hL0
 have hn0:L.length+1 ≠ 0:=by omega
 have hn1:(L++[r]).length ≠ 0:=by omega
 have hix:(((L.length+1:Nat):Int) - 1).toNat=L.length:=by omega
 have hg:(flat rnA (L++[r]))[(((L.length+1:Nat):Int) - 1).toNat * 3+1]? = some (.int .i64 r.n):=by rw [hix];exact Ai5 rfl
 have hs:(flat rnA (L++[r])).set ((((L.length+1:Nat):Int) - 1).toNat * 3+1) (.int .i64 (r.n+1))=flat rnA (L++[⟨r.p,r.n+1,r.k⟩]):=by rw [hix];exact Ai4 rfl
 have hfl:(flat rnA (L++[r])).length=(L.length+1) * 3:=by rw [AG0,hlL]
 rw [hb.2] at hk1
 have e1:Q6 s.G (p+1)=Q6 s.G p:=if_neg hu
 have e2:=AT8 hd
 obtain ⟨hd1,hd2⟩:=hd
 unfold skel
 dsimp only
 rw [hR,hlL,Al7 hn0,AJ9 hn1]
 (refine wtk ?_;repeat' (first|with_reducible refine And.intro ?_ ?_|intro hsp))
 all_goals first|(exfalso;exact hu ⟨(by first|omega|fail),(by first|assumption|fail)⟩)|skip
 all_goals first|(exfalso;omega)|skip
 all_goals exact D6 (p+1) [(12,42)] (by (try dsimp only);omega) (by first|omega|(dsimp only;omega)) rfl (by ((try dsimp only);rw [e0,e1,e2]);exact AF7)
end
end Go.Proofs.YtbhgfoikbkaohaaGreat
namespace Go.Proofs.YtbhgfoikbkaohaaGreat
open Go Go.Am Go.Pol
open Go.Proofs.YtbhgfoikbkaohaaGreat renaming plx_Tj → plx
open Go.Proofs.YtbhgfoikbkaohaaGreat renaming ppx_Tj → ppx
section
variable {s:Sy} {o:Nat} {ho:o=66624} {hlen:s.l.length≤100000} {p:Nat}
theorem rd_bmp_10 (hp4:p < 1024) (h0:¬ s.K p=0) (hb:0 < p∧s.K (p - 1)=s.K p) (hu:p % 16=0∧s.G (p / 16)=true) (hd:¬ (s.K p=2∧¬ l5 (s.B p))):(skel s o ho hlen).1 p:=by
 have hL0:=X3 (K:=s.K) (n:=p)
 have hL1:=X6 (G:=s.G) (n:=p)
 have hL2:=X8 (B:=s.B2) (n:=p)
 have hst:=R8 (K:=s.K) (G:=s.G) (B:=s.B) ho (Z6 (l:=s.l) (C:=s.C) (H:=s.H))
 have hru:=U7 (K:=s.K) (G:=s.G) (B:=s.B) (l:=s.l) (C:=s.C) (H:=s.H) ho
 have hk:(refK s.K s.G s.B (stA s.l s.C s.H))[p]? = some (.int .i64 (s.K p)):=M7 hp4
 have hh:(refK s.K s.G s.B (stA s.l s.C s.H))[1024+p / 16]? = some (.bool (s.G (p / 16))):=Y6 (by omega)
 have hw16:=AU2 (q:=p) (by omega)
 have ht16:((p:Nat):Int).tmod 16=((p % 16:Nat):Int):=by rw [Int.tmod_eq_emod_of_nonneg (by omega)];omega
 have hby:=X4 (K:=s.K) (G:=s.G) (B:=s.B) (P:=stA s.l s.C s.H) hp4
 have hyl:=by_len (s.B p)
 have hyz:=AK3 (s.B p)
 generalize hy:byA (s.B p)=y at hby hyl hyz
 obtain ⟨L,r,hR,er⟩:∃ (L:List Rn) (r:Rn),G8 s.K p=L++[r]∧r.n≤(p:Nat)∧1≤r.n:=by
  obtain ⟨L,m,e,m1,m2⟩:=AF8 (K:=s.K) hb.1 (by rw [hb.2];exact h0)
  exact ⟨L,_,e,by dsimp only;omega,by dsimp only;omega⟩
 have e0:G8 s.K (p+1)=L++[⟨r.p,r.n+1,r.k⟩]:=by
  show (if s.K p=0 then _ else if 0 < p∧s.K (p - 1)=s.K p then bump (G8 s.K p) else _)=_
  rw [if_neg h0,if_pos hb,hR,AI3]
 have hk1:(refK s.K s.G s.B (stA s.l s.C s.H))[(((p:Nat):Int) - 1).toNat]? = some (.int .i64 (s.K (p - 1))):=by rw [show (((p:Nat):Int) - 1).toNat=p - 1 by omega];exact M7 (by omega)
 have hp1:IntKind.i64.wrap (((p:Nat):Int) - 1)=((p - 1:Nat):Int):=by rw [IntWalk.i64_in _ ⟨by omega,by omega⟩];omega
 have hlL:(L++[r]).length=L.length+1:=by simp
 rw [hR,hlL] at hL0
 have hn0:L.length+1 ≠ 0:=by omega
 have hn1:(L++[r]).length ≠ 0:=by omega
 have hix:(((L.length+1:Nat):Int) - 1).toNat=L.length:=by omega
 have hg:(flat rnA (L++[r]))[(((L.length+1:Nat):Int) - 1).toNat * 3+1]? = some (.int .i64 r.n):=by rw [hix];exact Ai5 rfl
 have hs:(flat rnA (L++[r])).set ((((L.length+1:Nat):Int) - 1).toNat * 3+1) (.int .i64 (r.n+1))=flat rnA (L++[⟨r.p,r.n+1,r.k⟩]):=by rw [hix];exact Ai4 rfl
 have hfl:(flat rnA (L++[r])).length=(L.length+1) * 3:=by rw [AG0,hlL]
 rw [hb.2] at hk1
 have e1:Q6 s.G (p+1)=Q6 s.G p++[((p:Nat):Int)]:=if_pos hu
 rw [hu.2] at hh
 have e2:=AS2 hd
 unfold skel
 dsimp only
 rw [hR,hlL,Al7 hn0,AJ9 hn1]
 (refine wtk ?_;repeat' (first|with_reducible refine And.intro ?_ ?_|intro hsp))
 all_goals first|(exfalso;exact hd ⟨(by first|assumption|fail),(by first|assumption|fail)⟩)|skip
 all_goals first|(exfalso;omega)|skip
 all_goals exact D6 (p+1) [(11,32)] (by (try dsimp only);omega) (by first|omega|(dsimp only;omega)) rfl (by ((try dsimp only);rw [e0,e1,e2]);exact AF7)
end
end Go.Proofs.YtbhgfoikbkaohaaGreat
namespace Go.Proofs.YtbhgfoikbkaohaaGreat
open Go Go.Am Go.Pol
open Go.Proofs.YtbhgfoikbkaohaaGreat renaming plx_Tj → plx
open Go.Proofs.YtbhgfoikbkaohaaGreat renaming ppx_Tj → ppx
section
variable {s:Sy} {o:Nat} {ho:o=66624} {hlen:s.l.length≤100000} {p:Nat}
theorem rd_bmp_11 (hp4:p < 1024) (h0:¬ s.K p=0) (hb:0 < p∧s.K (p - 1)=s.K p) (hu:p % 16=0∧s.G (p / 16)=true) (hd:s.K p=2∧¬ l5 (s.B p)):(skel s o ho hlen).1 p:=by
 have hL0:=X3 (K:=s.K) (n:=p)
 have hL1:=X6 (G:=s.G) (n:=p)
 have hL2:=X8 (B:=s.B2) (n:=p)
 have hst:=R8 (K:=s.K) (G:=s.G) (B:=s.B) ho (Z6 (l:=s.l) (C:=s.C) (H:=s.H))
 have hru:=U7 (K:=s.K) (G:=s.G) (B:=s.B) (l:=s.l) (C:=s.C) (H:=s.H) ho
 have hk:(refK s.K s.G s.B (stA s.l s.C s.H))[p]? = some (.int .i64 (s.K p)):=M7 hp4
 have hh:(refK s.K s.G s.B (stA s.l s.C s.H))[1024+p / 16]? = some (.bool (s.G (p / 16))):=Y6 (by omega)
 have hw16:=AU2 (q:=p) (by omega)
 have ht16:((p:Nat):Int).tmod 16=((p % 16:Nat):Int):=by rw [Int.tmod_eq_emod_of_nonneg (by omega)];omega
 have hby:=X4 (K:=s.K) (G:=s.G) (B:=s.B) (P:=stA s.l s.C s.H) hp4
 have hyl:=by_len (s.B p)
 have hyz:=AK3 (s.B p)
 generalize hy:byA (s.B p)=y at hby hyl hyz
 obtain ⟨L,r,hR,er⟩:∃ (L:List Rn) (r:Rn),G8 s.K p=L++[r]∧r.n≤(p:Nat)∧1≤r.n:=by
  obtain ⟨L,m,e,m1,m2⟩:=AF8 (K:=s.K) hb.1 (by rw [hb.2];exact h0)
  exact ⟨L,_,e,by dsimp only;omega,by dsimp only;omega⟩
 have e0:G8 s.K (p+1)=L++[⟨r.p,r.n+1,r.k⟩]:=by
  show (if s.K p=0 then _ else if 0 < p∧s.K (p - 1)=s.K p then bump (G8 s.K p) else _)=_
  rw [if_neg h0,if_pos hb,hR,AI3]
 have hk1:(refK s.K s.G s.B (stA s.l s.C s.H))[(((p:Nat):Int) - 1).toNat]? = some (.int .i64 (s.K (p - 1))):=by rw [show (((p:Nat):Int) - 1).toNat=p - 1 by omega];exact M7 (by omega)
 have hp1:IntKind.i64.wrap (((p:Nat):Int) - 1)=((p - 1:Nat):Int):=by rw [IntWalk.i64_in _ ⟨by omega,by omega⟩];omega
 have hlL:(L++[r]).length=L.length+1:=by simp
 rw [hR,hlL] at hL0
 have hn0:L.length+1 ≠ 0:=by omega
 have hn1:(L++[r]).length ≠ 0:=by omega
 have hix:(((L.length+1:Nat):Int) - 1).toNat=L.length:=by omega
 have hg:(flat rnA (L++[r]))[(((L.length+1:Nat):Int) - 1).toNat * 3+1]? = some (.int .i64 r.n):=by rw [hix];exact Ai5 rfl
 have hs:(flat rnA (L++[r])).set ((((L.length+1:Nat):Int) - 1).toNat * 3+1) (.int .i64 (r.n+1))=flat rnA (L++[⟨r.p,r.n+1,r.k⟩]):=by rw [hix];exact Ai4 rfl
 have hfl:(flat rnA (L++[r])).length=(L.length+1) * 3:=by rw [AG0,hlL]
 rw [hb.2] at hk1
 have e1:Q6 s.G (p+1)=Q6 s.G p++[((p:Nat):Int)]:=if_pos hu
 rw [hu.2] at hh
 have e2:=AT8 hd
 obtain ⟨hd1,hd2⟩:=hd
 unfold skel
 dsimp only
 rw [hR,hlL,Al7 hn0,AJ9 hn1]
 (refine wtk ?_;repeat' (first|with_reducible refine And.intro ?_ ?_|intro hsp))
 all_goals first|(exfalso;omega)|skip
 all_goals exact D6 (p+1) [(11,32),(12,44)] (by (try dsimp only);omega) (by first|omega|(dsimp only;omega)) rfl (by ((try dsimp only);rw [e0,e1,e2]);exact AF7)
end
end Go.Proofs.YtbhgfoikbkaohaaGreat
namespace Go.Proofs.YtbhgfoikbkaohaaGreat
open Go Go.Am Go.Pol
section
variable {s:Sy} {o:Nat} {ho:o=66624} {hlen:s.l.length≤100000} {p:Nat}
theorem q_saveR (hlen:s.l.length≤100000):j6 11 [] s.b (.agg (vsA s.saveR)) s.b:=(skel s 66624 rfl hlen).2 fun p hp =>
 if hp4:p < 1024 then
  if h0:s.K p=0 then
   if hu:p % 16=0∧s.G (p / 16)=true then rd_free_h hp4 h0 hu else rd_free hp4 h0 hu
  else if hb:0 < p∧s.K (p - 1)=s.K p then
   if hu:p % 16=0∧s.G (p / 16)=true then
    if hd:s.K p=2∧¬ l5 (s.B p) then rd_bmp_11 hp4 h0 hb hu hd else rd_bmp_10 hp4 h0 hb hu hd
   else
    if hd:s.K p=2∧¬ l5 (s.B p) then rd_bmp_01 hp4 h0 hb hu hd else rd_bmp_00 hp4 h0 hb hu hd
  else if hp0:0 < p then
   if hu:p % 16=0∧s.G (p / 16)=true then
    if hd:s.K p=2∧¬ l5 (s.B p) then rd_new_11 hp4 hp0 h0 hb hu hd else rd_new_10 hp4 hp0 h0 hb hu hd
   else
    if hd:s.K p=2∧¬ l5 (s.B p) then rd_new_01 hp4 hp0 h0 hb hu hd else rd_new_00 hp4 hp0 h0 hb hu hd
  else
   if hu:p % 16=0∧s.G (p / 16)=true then
    if hd:s.K p=2∧¬ l5 (s.B p) then rd_nul_11 hp4 hp0 h0 hb hu hd else rd_nul_10 hp4 hp0 h0 hb hu hd
   else
    if hd:s.K p=2∧¬ l5 (s.B p) then rd_nul_01 hp4 hp0 h0 hb hu hd else rd_nul_00 hp4 hp0 h0 hb hu hd
 else rd_end (by omega)
theorem q_save (hg:GoodS s):j6 11 [] s.b (.agg (vsA s.save)) s.b:=by
 have e:s.saveR=s.save:=saveR_eq ⟨hg.kind,hg.huge,hg.zero,hg.cK,hg.cB⟩
 rw [← e]
 exact q_saveR (by have:=(AX6 hg.hv).2.1;omega)
end
end Go.Proofs.YtbhgfoikbkaohaaGreat
namespace Go.Pol
open Go.Am
theorem set_same {xs:List AV} {i:Nat} {v:AV} (h:xs[i]? = some v):xs.set i v=xs:=by
 refine List.ext_getElem? fun j=>?_
 by_cases e:i=j
 ·subst e;rw [List.getElem?_set_self (List.getElem?_eq_some_iff.1 h).1,h]
 ·rw [List.getElem?_set_ne e]
theorem new_aS {l:List Rl} {C H:Nat→Int} {o:Nat} {z:List AV} (hz:z=sysZ) (h:o=67585):over (z.set 0 (.bool true)) o (stA l C H)=sysB (fun _=>0) (fun _=>false) (fun _ _=>0) (stA l C H):=by
 rw [hz,sysZ_0,AP9 h rfl]
section
variable {K:Nat→Int} {M G:Nat→Bool} {B:Nat→Nat→Int} {P:List AV} {p:Nat} {b:Nat→Int}
theorem byA_get {t:Nat} (h:t < 64):(byA b)[t]? = some (.int .u8 (b t)):=by unfold byA;simp [h]
theorem BB5 (hp:p < 1024):over (sysB K M B P) (1+p * 66+2) (byA b)=sysB K M (AA7 B p b) P:=by
 rw [sysB,AN0]
 simp only [by_len]
 refine Ac3 (by rw [if_neg (by omega)];rfl) (fun q hq j hj=>?_) fun i hi=>by rw [if_neg (by omega),AM0]
 unfold Ad4 AA7
 by_cases h2:q=p
 ·subst h2
  rw [if_pos rfl]
  by_cases h0:j=0
  ·subst h0;rw [if_neg (by omega),if_pos rfl,Z8 hq hj];rfl
  ·by_cases h1:j=1
   ·subst h1;rw [if_neg (by omega),if_neg h0,if_pos rfl,Z8 hq hj];rfl
   ·rw [if_pos (by omega),if_neg h0,if_neg h1,show 1+q * 66+j - (1+q * 66+2)=j - 2 by omega,byA_get (by omega)];rfl
 ·rw [if_neg (by omega),Z8 hq hj,if_neg h2];rfl
theorem setM_g {g:Nat}:Aq1 (fun p=>G (p / 16)) (g * 16) 16 true=fun p=>Ak6 G g true (p / 16):=by
 funext p
 unfold Aq1 Ak6
 by_cases h:p / 16=g
 ·rw [if_pos (by omega),if_pos h]
 ·rw [if_neg (by omega),if_neg h]
end
def ldPost (o:Option Sy):AV→Hp→Prop:=match o with
 | none=>fun v h=>v = .tup [.nilp,.int .i64 6]∧h=⟨[],0⟩
 | some s=>fun v h=>v = .tup [.ptr 0 0,.int .i64 0]∧h=⟨[(0,.cells s.a)],1⟩
def W64 (n:Int):Prop:=-9223372036854775808≤n∧n≤9223372036854775807
def Vs.wf (x:Vs):Prop:=(∀ r,r ∈ x.R→W64 r.p∧W64 r.n∧W64 r.k)
end Go.Pol
namespace Go.Proofs.YtbhgfoikbkaohaaGreat
open Go Go.Am Go.Pol
theorem AE9 {top:Bool} {h:Hp} {x:AV} {o:Option Sy} (ho:o=none) (hx:x = .tup [.nilp,.int .i64 6]):AV3 top Tryz.prog 0 h x (ldPost o):=by
 subst ho;subst hx
 exact AE8 [] rfl (Nat.zero_le _) (R7 rfl) (X0 (fun i o hi=>by cases hi) (F6 (AG5 U3 A8))) J5 ⟨rfl,rfl⟩
theorem end_ldS {top:Bool} {h:Hp} {x:AV} {o:Option Sy} {i:Nat} {cs:List AV} {s:Sy} (ho:o=some s) (hx:x = .tup [.ptr i 0,.int .i64 0]) (hc:cs=s.a) (h0:lk h.l i=some (.cells cs)):AV3 top Tryz.prog 0 h x (ldPost o):=by
 subst ho
 exact BO5 hx hc h0 F7
open Go.Proofs.YtbhgfoikbkaohaaGreat renaming plx_Sd → plx
open Go.Proofs.YtbhgfoikbkaohaaGreat renaming ppx_Sd → ppx
theorem wwa {p q:Prop} (hq:q) (h:Y3 q→p:=by (intro hQz;((repeat' ((try (conv=>whnf));first|(with_reducible first|refine P6 ?_|refine K4 ?_|refine P9 ?_|refine Q5 ?_|refine K9 ?_|refine U9 ?_|refine O9 ?_|refine U8 rfl ?_|refine P5 ?_|refine I5 ?_|refine K7 ?_|refine K8 ?_|refine Q0 ?_|refine I4 ?_|refine K5 (by decide +kernel) ?_|refine J6 (by decide +kernel) ?_|refine AG2 ?_|refine AG3 ?_|refine Aj5 ?_|refine r9 ?_|refine AI4 ?_|refine Ag9 (by assumption) ?_|refine Ah0 (by assumption) ?_|refine p9 (by omega) ?_|refine AI2 ?_)|((with_reducible refine AI5 ?_ ?_);focus omega)|((with_reducible refine AI6 ?_ ?_);focus omega)|((with_reducible apply U1 hQz)<;>(try intro hsp hQz))|((with_reducible refine Aj3 ?_ ?_);focus (first|omega|rfl|assumption|decide|(simp only [List.length_map,List.length_cons,List.length_nil];omega)))|(with_reducible first|refine AH9 ?_|refine p8 ?_|refine o9 ?_|refine AI1 ?_|refine AI0 ?_|refine AH7 ?_|refine Aj0 ?_|refine I6 ?_|refine l9 ?_|refine P8 ?_|refine P7 ?_|refine I7 ?_|refine AH8 (by omega) ?_|refine o8 (by omega) ?_)|refine C8 AN8 ?_|refine C8 (by with_reducible assumption) ?_|refine AE7 (by with_reducible assumption) ?_|refine H8 (by rw [AN9];omega) (by with_reducible assumption) ?_|(with_reducible first|refine AC6 ?_|refine Aq9.mk (by kernel_rfl) ?_|refine AD6 rfl ?_|refine AC8 (by decide +kernel) ?_|refine AC7 rfl ?_)|refine K3 (by assumption) rfl (by omega) ?_|(refine AF1 G9 b61 rfl ?_;unfold c61)|(refine AF1 G9 b35 rfl ?_;unfold c35)|(refine AF1 G9 b37 rfl ?_;unfold c37)|(refine AF1 G9 b39 rfl ?_;unfold c39)|refine I6 ?_|refine I7 ?_|refine AP6 rfl rfl ?_|refine l6 ?_|refine V8 rfl ?_|refine AP7 rfl ?_|refine AP3 rfl ?_|refine AD5 rfl ?_|refine S9 ?_|refine Au3.mk ?_|((with_reducible apply U2 hQz)<;>(try intro hsp hQz))|exact hQz.out))<;>(try (conv=>whnf))))):p:=h ⟨hq⟩
section
variable {K:Nat→Int} {M G:Nat→Bool} {B:Nat→Nat→Int} {l:List Rl} {C H:Nat→Int}
theorem k_allL (P:List AV) (hP:∀ x ∈ P,Plain x) (a n:Nat) (hn:a+n≤1024):j6 36 [.int .i64 (a:Nat),.int .i64 (n:Nat),.fn 37 [] []] (sysB K M B P) (.bool (decide (okC K a n))) (sysB K M B P):=by
 refine j6.mk (I8 G9 b36 rfl ?_) (F3 hP) (F3 hP) BS0 D5
 unfold c36
 (refine wwa ?_;repeat' (first|with_reducible refine And.intro ?_ ?_|intro hsp))
 (refine F9 [0,1,2,3,10] (fun (i:Nat)=>[(11,.int .i64 (i:Nat))]) (fun (i:Nat)=>⟨[(0,.cells (sysB K M B P))],1⟩) (fun (i:Nat)=>i≤n∧∀ j,j < i→K (a+j)=2) (fun (i:Nat)=>n - i) (0) [] rfl (fun _=>by first|exact Nat.zero_le _|(dsimp only;omega)) ?_ (by ((try (conv=>whnf));exact O4)) ?_)
 ·exact ⟨Nat.zero_le _,fun j hj=>by omega⟩
 rintro i ⟨hi,h0⟩
 by_cases hin:i < n
 ·have ht:((a:Int)+(i:Int)).toNat=a+i:=by omega
  have hk:(sysB K M B P)[1+((a:Int)+(i:Int)).toNat * 66+0]? = some (.int .i64 (K (a+i))):=by rw [ht];exact AL1 (by omega)
  by_cases h1:K (a+i)=2
  ·(refine wwa ?_;repeat' (first|with_reducible refine And.intro ?_ ?_|intro hsp))
   all_goals first|(exfalso;exact absurd h1 (by assumption))|skip
   all_goals exact D6 (i+1) [] ⟨by omega,fun j hj=>if e:j=i then by rw [e];exact h1 else h0 j (by omega)⟩ (by first|omega|(dsimp only;omega)) rfl (by exact O4)
  ·rw [decide_eq_false fun h=>h1 (h i hin)]
   (refine wwa ?_;repeat' (first|with_reducible refine And.intro ?_ ?_|intro hsp))
   all_goals exact O6 rfl D5 rfl (F3 hP)
 ·have hok:okC K a n:=fun j hj=>h0 j (by omega)
  rw [decide_eq_true hok]
  (refine wwa ?_;repeat' (first|with_reducible refine And.intro ?_ ?_|intro hsp))
  all_goals exact O6 rfl D5 rfl (F3 hP)
theorem k_eachL (P:List AV) (hP:∀ x ∈ P,Plain x) (a n:Nat) (hn:a+n≤1024):j6 38 [.int .i64 (a:Nat),.int .i64 (n:Nat),.fn 39 [] []] (sysB K M B P) (.tup []) (sysB K (Aq1 M a n true) B P):=by
 refine j6.mk (I8 G9 b38 rfl ?_) (F3 hP) (F3 hP) BS0 (F6 fun x hx=>by cases hx)
 unfold c38
 have e0:sysB K M B P=sysB K (Aq1 M a 0 true) B P:=by rw [setM_0]
 rw [e0]
 (refine wwa ?_;repeat' (first|with_reducible refine And.intro ?_ ?_|intro hsp))
 (refine F9 [0,1,2,3,9] (fun (i:Nat)=>[(10,.int .i64 (i:Nat))]) (fun (i:Nat)=>⟨[(0,.cells (sysB K (Aq1 M a i true) B P))],1⟩) (fun (i:Nat)=>i≤n) (fun (i:Nat)=>n - i) (0) [] rfl (fun _=>by first|exact Nat.zero_le _|(dsimp only;omega)) ?_ (by ((try (conv=>whnf));exact O4)) ?_)
 ·exact Nat.zero_le _
 rintro i hi
 by_cases hin:i < n
 ·have ht:((a:Int)+(i:Int)).toNat=a+i:=by omega
  have hl:1+((a:Int)+(i:Int)).toNat * 66+66≤67600:=by omega
  have hs:(sysB K (Aq1 M a i true) B P).set (1+((a:Int)+(i:Int)).toNat * 66+1) (.bool true)=sysB K (Aq1 M a (i+1) true) B P:=by rw [ht,BJ2 (by omega),setM_s]
  (refine wwa ?_;repeat' (first|with_reducible refine And.intro ?_ ?_|intro hsp))
  all_goals exact D6 (i+1) [] (by (try dsimp only);omega) (by first|omega|(dsimp only;omega)) rfl (by exact O4)
 ·obtain rfl:i=n:=by omega
  (refine wwa ?_;repeat' (first|with_reducible refine And.intro ?_ ?_|intro hsp))
  all_goals exact O6 rfl (F6 fun x hx=>by cases hx) rfl (F3 hP)
end
end Go.Proofs.YtbhgfoikbkaohaaGreat
