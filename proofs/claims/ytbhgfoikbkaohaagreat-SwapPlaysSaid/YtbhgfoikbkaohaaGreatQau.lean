/-
 Save of the document: a new run.
 Save of the document: a new run.
 Save of the document: a run at page 0.
 Save of the document: a run at page 0.
 Save of the document: a run at page 0.
 Save of the document: a run at page 0.
 Save of the document: a run goes on.
 Save of the document: a run goes on.
 Save of the document: a run goes on.
 Save of the document: a run goes on.
 Save of the document.
 SwapPlays.
 What a row's reading of an argument is,as abstract values,by the shape of its type. No program in sight.
 The arguments of the rows: calls and plays.
-/
import Derived.Test.YtbhgfoikbkaohaaGreatQat
import Derived.Carry
import Derived.OpenShut
import Derived.Test.YtbhgfoikbkaohaaGreatRows
import Derived.KernelRfl
set_option linter.unusedSimpArgs false
set_option linter.unusedVariables false
set_option maxHeartbeats 12800000
namespace Go.Proofs.YtbhgfoikbkaohaaGreat
open Go Go.Am Go.Pol
open Go.Proofs.YtbhgfoikbkaohaaGreat renaming plx_Tj → plx
open Go.Proofs.YtbhgfoikbkaohaaGreat renaming ppx_Tj → ppx
section
variable {s:Sy} {o:Nat} {ho:o=66624} {hlen:s.l.length≤100000} {p:Nat}
theorem rd_new_10 (hp4:p < 1024) (hp0:0 < p) (h0:¬ s.K p=0) (hb:¬ (0 < p∧s.K (p - 1)=s.K p)) (hu:p % 16=0∧s.G (p / 16)=true) (hd:¬ (s.K p=2∧¬ AD3 (s.B p))):(skel s o ho hlen).1 p:=by
 have hL0:=V4 (K:=s.K) (n:=p)
 have hL1:=V5 (G:=s.G) (n:=p)
 have hL2:=V7 (B:=s.B2) (n:=p)
 have hst:=Q0 (K:=s.K) (G:=s.G) (B:=s.B) ho (Y4 (l:=s.l) (C:=s.C) (H:=s.H))
 have hru:=R8 (K:=s.K) (G:=s.G) (B:=s.B) (l:=s.l) (C:=s.C) (H:=s.H) ho
 have hk:(refK s.K s.G s.B (stA s.l s.C s.H))[p]? = some (.int .i64 (s.K p)):=M6 hp4
 have hh:(refK s.K s.G s.B (stA s.l s.C s.H))[1024+p / 16]? = some (.bool (s.G (p / 16))):=Y3 (by omega)
 have hw16:=AU1 (q:=p) (by omega)
 have ht16:((p:Nat):Int).tmod 16=((p % 16:Nat):Int):=by rw [Int.tmod_eq_emod_of_nonneg (by omega)];omega
 have hby:=X5 (K:=s.K) (G:=s.G) (B:=s.B) (P:=stA s.l s.C s.H) hp4
 have hyl:=by_len (s.B p)
 have hyz:=AJ2 (s.B p)
 generalize hy:byA (s.B p)=y at hby hyl hyz
 have e0:F4 s.K (p+1)=F4 s.K p++[⟨((p:Nat):Int),1,s.K p⟩]:=by
  show (if s.K p=0 then _ else if 0 < p∧s.K (p - 1)=s.K p then bump (F4 s.K p) else _)=_
  rw [if_neg h0,if_neg hb]
 have hk1:(refK s.K s.G s.B (stA s.l s.C s.H))[(((p:Nat):Int) - 1).toNat]? = some (.int .i64 (s.K (p - 1))):=by rw [show (((p:Nat):Int) - 1).toNat=p - 1 by omega];exact M6 (by omega)
 have hp1:IntKind.i64.wrap (((p:Nat):Int) - 1)=((p - 1:Nat):Int):=by rw [IntWalk.i64_in _ ⟨by omega,by omega⟩];omega
 have hne:¬ s.K (p - 1)=s.K p:=fun h=>hb ⟨hp0,h⟩
 have e1:K4 s.G (p+1)=K4 s.G p++[((p:Nat):Int)]:=if_pos hu
 rw [hu.2] at hh
 have e2:=AS0 hd
 unfold skel
 dsimp only
 (refine wtk ?_;repeat' (first|with_reducible refine And.intro ?_ ?_|intro hsp))
 all_goals first|(exfalso;exact hd ⟨(by first|assumption|fail),(by first|assumption|fail)⟩)|skip
 all_goals first|(exfalso;exact hne (by first|assumption|fail))|(exfalso;omega)|skip
 all_goals exact D7 (p+1) [(10,42),(11,46)] (by (try dsimp only);omega) (by first|omega|(dsimp only;omega)) rfl (by ((try dsimp only);rw [e0,e1,e2]);exact AE8)
end
end Go.Proofs.YtbhgfoikbkaohaaGreat
namespace Go.Proofs.YtbhgfoikbkaohaaGreat
open Go Go.Am Go.Pol
open Go.Proofs.YtbhgfoikbkaohaaGreat renaming plx_Tj → plx
open Go.Proofs.YtbhgfoikbkaohaaGreat renaming ppx_Tj → ppx
section
variable {s:Sy} {o:Nat} {ho:o=66624} {hlen:s.l.length≤100000} {p:Nat}
theorem rd_new_11 (hp4:p < 1024) (hp0:0 < p) (h0:¬ s.K p=0) (hb:¬ (0 < p∧s.K (p - 1)=s.K p)) (hu:p % 16=0∧s.G (p / 16)=true) (hd:s.K p=2∧¬ AD3 (s.B p)):(skel s o ho hlen).1 p:=by
 have hL0:=V4 (K:=s.K) (n:=p)
 have hL1:=V5 (G:=s.G) (n:=p)
 have hL2:=V7 (B:=s.B2) (n:=p)
 have hst:=Q0 (K:=s.K) (G:=s.G) (B:=s.B) ho (Y4 (l:=s.l) (C:=s.C) (H:=s.H))
 have hru:=R8 (K:=s.K) (G:=s.G) (B:=s.B) (l:=s.l) (C:=s.C) (H:=s.H) ho
 have hk:(refK s.K s.G s.B (stA s.l s.C s.H))[p]? = some (.int .i64 (s.K p)):=M6 hp4
 have hh:(refK s.K s.G s.B (stA s.l s.C s.H))[1024+p / 16]? = some (.bool (s.G (p / 16))):=Y3 (by omega)
 have hw16:=AU1 (q:=p) (by omega)
 have ht16:((p:Nat):Int).tmod 16=((p % 16:Nat):Int):=by rw [Int.tmod_eq_emod_of_nonneg (by omega)];omega
 have hby:=X5 (K:=s.K) (G:=s.G) (B:=s.B) (P:=stA s.l s.C s.H) hp4
 have hyl:=by_len (s.B p)
 have hyz:=AJ2 (s.B p)
 generalize hy:byA (s.B p)=y at hby hyl hyz
 have e0:F4 s.K (p+1)=F4 s.K p++[⟨((p:Nat):Int),1,s.K p⟩]:=by
  show (if s.K p=0 then _ else if 0 < p∧s.K (p - 1)=s.K p then bump (F4 s.K p) else _)=_
  rw [if_neg h0,if_neg hb]
 have hk1:(refK s.K s.G s.B (stA s.l s.C s.H))[(((p:Nat):Int) - 1).toNat]? = some (.int .i64 (s.K (p - 1))):=by rw [show (((p:Nat):Int) - 1).toNat=p - 1 by omega];exact M6 (by omega)
 have hp1:IntKind.i64.wrap (((p:Nat):Int) - 1)=((p - 1:Nat):Int):=by rw [IntWalk.i64_in _ ⟨by omega,by omega⟩];omega
 have hne:¬ s.K (p - 1)=s.K p:=fun h=>hb ⟨hp0,h⟩
 have e1:K4 s.G (p+1)=K4 s.G p++[((p:Nat):Int)]:=if_pos hu
 rw [hu.2] at hh
 have e2:=AT5 hd
 obtain ⟨hd1,hd2⟩:=hd
 unfold skel
 dsimp only
 (refine wtk ?_;repeat' (first|with_reducible refine And.intro ?_ ?_|intro hsp))
 all_goals first|(exfalso;exact hne (by first|assumption|fail))|(exfalso;omega)|skip
 all_goals exact D7 (p+1) [(10,42),(11,46),(12,58)] (by (try dsimp only);omega) (by first|omega|(dsimp only;omega)) rfl (by ((try dsimp only);rw [e0,e1,e2]);exact AE8)
end
end Go.Proofs.YtbhgfoikbkaohaaGreat
namespace Go.Proofs.YtbhgfoikbkaohaaGreat
open Go Go.Am Go.Pol
open Go.Proofs.YtbhgfoikbkaohaaGreat renaming plx_Tj → plx
open Go.Proofs.YtbhgfoikbkaohaaGreat renaming ppx_Tj → ppx
section
variable {s:Sy} {o:Nat} {ho:o=66624} {hlen:s.l.length≤100000} {p:Nat}
theorem rd_nul_00 (hp4:p < 1024) (hp0:¬ 0 < p) (h0:¬ s.K p=0) (hb:¬ (0 < p∧s.K (p - 1)=s.K p)) (hu:¬ (p % 16=0∧s.G (p / 16)=true)) (hd:¬ (s.K p=2∧¬ AD3 (s.B p))):(skel s o ho hlen).1 p:=by
 have hL0:=V4 (K:=s.K) (n:=p)
 have hL1:=V5 (G:=s.G) (n:=p)
 have hL2:=V7 (B:=s.B2) (n:=p)
 have hst:=Q0 (K:=s.K) (G:=s.G) (B:=s.B) ho (Y4 (l:=s.l) (C:=s.C) (H:=s.H))
 have hru:=R8 (K:=s.K) (G:=s.G) (B:=s.B) (l:=s.l) (C:=s.C) (H:=s.H) ho
 have hk:(refK s.K s.G s.B (stA s.l s.C s.H))[p]? = some (.int .i64 (s.K p)):=M6 hp4
 have hh:(refK s.K s.G s.B (stA s.l s.C s.H))[1024+p / 16]? = some (.bool (s.G (p / 16))):=Y3 (by omega)
 have hw16:=AU1 (q:=p) (by omega)
 have ht16:((p:Nat):Int).tmod 16=((p % 16:Nat):Int):=by rw [Int.tmod_eq_emod_of_nonneg (by omega)];omega
 have hby:=X5 (K:=s.K) (G:=s.G) (B:=s.B) (P:=stA s.l s.C s.H) hp4
 have hyl:=by_len (s.B p)
 have hyz:=AJ2 (s.B p)
 generalize hy:byA (s.B p)=y at hby hyl hyz
 have e0:F4 s.K (p+1)=F4 s.K p++[⟨((p:Nat):Int),1,s.K p⟩]:=by
  show (if s.K p=0 then _ else if 0 < p∧s.K (p - 1)=s.K p then bump (F4 s.K p) else _)=_
  rw [if_neg h0,if_neg hb]
 have e1:K4 s.G (p+1)=K4 s.G p:=if_neg hu
 have e2:=AS0 hd
 unfold skel
 dsimp only
 (refine wtk ?_;repeat' (first|with_reducible refine And.intro ?_ ?_|intro hsp))
 all_goals first|(exfalso;exact hu ⟨(by first|omega|fail),(by first|assumption|fail)⟩)|skip
 all_goals first|(exfalso;exact hd ⟨(by first|assumption|fail),(by first|assumption|fail)⟩)|skip
 all_goals first|(exfalso;omega)|skip
 all_goals exact D7 (p+1) [(10,42)] (by (try dsimp only);omega) (by first|omega|(dsimp only;omega)) rfl (by ((try dsimp only);rw [e0,e1,e2]);exact AE8)
end
end Go.Proofs.YtbhgfoikbkaohaaGreat
namespace Go.Proofs.YtbhgfoikbkaohaaGreat
open Go Go.Am Go.Pol
open Go.Proofs.YtbhgfoikbkaohaaGreat renaming plx_Tj → plx
open Go.Proofs.YtbhgfoikbkaohaaGreat renaming ppx_Tj → ppx
section
variable {s:Sy} {o:Nat} {ho:o=66624} {hlen:s.l.length≤100000} {p:Nat}
theorem rd_nul_01 (hp4:p < 1024) (hp0:¬ 0 < p) (h0:¬ s.K p=0) (hb:¬ (0 < p∧s.K (p - 1)=s.K p)) (hu:¬ (p % 16=0∧s.G (p / 16)=true)) (hd:s.K p=2∧¬ AD3 (s.B p)):(skel s o ho hlen).1 p:=by
 have hL0:=V4 (K:=s.K) (n:=p)
 have hL1:=V5 (G:=s.G) (n:=p)
 have hL2:=V7 (B:=s.B2) (n:=p)
 have hst:=Q0 (K:=s.K) (G:=s.G) (B:=s.B) ho (Y4 (l:=s.l) (C:=s.C) (H:=s.H))
 have hru:=R8 (K:=s.K) (G:=s.G) (B:=s.B) (l:=s.l) (C:=s.C) (H:=s.H) ho
 have hk:(refK s.K s.G s.B (stA s.l s.C s.H))[p]? = some (.int .i64 (s.K p)):=M6 hp4
 have hh:(refK s.K s.G s.B (stA s.l s.C s.H))[1024+p / 16]? = some (.bool (s.G (p / 16))):=Y3 (by omega)
 have hw16:=AU1 (q:=p) (by omega)
 have ht16:((p:Nat):Int).tmod 16=((p % 16:Nat):Int):=by rw [Int.tmod_eq_emod_of_nonneg (by omega)];omega
 have hby:=X5 (K:=s.K) (G:=s.G) (B:=s.B) (P:=stA s.l s.C s.H) hp4
 have hyl:=by_len (s.B p)
 have hyz:=AJ2 (s.B p)
 generalize hy:byA (s.B p)=y at hby hyl hyz
 have e0:F4 s.K (p+1)=F4 s.K p++[⟨((p:Nat):Int),1,s.K p⟩]:=by
  show (if s.K p=0 then _ else if 0 < p∧s.K (p - 1)=s.K p then bump (F4 s.K p) else _)=_
  rw [if_neg h0,if_neg hb]
 have e1:K4 s.G (p+1)=K4 s.G p:=if_neg hu
 have e2:=AT5 hd
 obtain ⟨hd1,hd2⟩:=hd
 unfold skel
 dsimp only
 (refine wtk ?_;repeat' (first|with_reducible refine And.intro ?_ ?_|intro hsp))
 all_goals first|(exfalso;exact hu ⟨(by first|omega|fail),(by first|assumption|fail)⟩)|skip
 all_goals first|(exfalso;omega)|skip
 all_goals exact D7 (p+1) [(10,42),(12,56)] (by (try dsimp only);omega) (by first|omega|(dsimp only;omega)) rfl (by ((try dsimp only);rw [e0,e1,e2]);exact AE8)
end
end Go.Proofs.YtbhgfoikbkaohaaGreat
namespace Go.Proofs.YtbhgfoikbkaohaaGreat
open Go Go.Am Go.Pol
open Go.Proofs.YtbhgfoikbkaohaaGreat renaming plx_Tj → plx
open Go.Proofs.YtbhgfoikbkaohaaGreat renaming ppx_Tj → ppx
section
variable {s:Sy} {o:Nat} {ho:o=66624} {hlen:s.l.length≤100000} {p:Nat}
theorem rd_nul_10 (hp4:p < 1024) (hp0:¬ 0 < p) (h0:¬ s.K p=0) (hb:¬ (0 < p∧s.K (p - 1)=s.K p)) (hu:p % 16=0∧s.G (p / 16)=true) (hd:¬ (s.K p=2∧¬ AD3 (s.B p))):(skel s o ho hlen).1 p:=by
 have hL0:=V4 (K:=s.K) (n:=p)
 have hL1:=V5 (G:=s.G) (n:=p)
 have hL2:=V7 (B:=s.B2) (n:=p)
 have hst:=Q0 (K:=s.K) (G:=s.G) (B:=s.B) ho (Y4 (l:=s.l) (C:=s.C) (H:=s.H))
 have hru:=R8 (K:=s.K) (G:=s.G) (B:=s.B) (l:=s.l) (C:=s.C) (H:=s.H) ho
 have hk:(refK s.K s.G s.B (stA s.l s.C s.H))[p]? = some (.int .i64 (s.K p)):=M6 hp4
 have hh:(refK s.K s.G s.B (stA s.l s.C s.H))[1024+p / 16]? = some (.bool (s.G (p / 16))):=Y3 (by omega)
 have hw16:=AU1 (q:=p) (by omega)
 have ht16:((p:Nat):Int).tmod 16=((p % 16:Nat):Int):=by rw [Int.tmod_eq_emod_of_nonneg (by omega)];omega
 have hby:=X5 (K:=s.K) (G:=s.G) (B:=s.B) (P:=stA s.l s.C s.H) hp4
 have hyl:=by_len (s.B p)
 have hyz:=AJ2 (s.B p)
 generalize hy:byA (s.B p)=y at hby hyl hyz
 have e0:F4 s.K (p+1)=F4 s.K p++[⟨((p:Nat):Int),1,s.K p⟩]:=by
  show (if s.K p=0 then _ else if 0 < p∧s.K (p - 1)=s.K p then bump (F4 s.K p) else _)=_
  rw [if_neg h0,if_neg hb]
 have e1:K4 s.G (p+1)=K4 s.G p++[((p:Nat):Int)]:=if_pos hu
 rw [hu.2] at hh
 have e2:=AS0 hd
 unfold skel
 dsimp only
 (refine wtk ?_;repeat' (first|with_reducible refine And.intro ?_ ?_|intro hsp))
 all_goals first|(exfalso;exact hd ⟨(by first|assumption|fail),(by first|assumption|fail)⟩)|skip
 all_goals first|(exfalso;omega)|skip
 all_goals exact D7 (p+1) [(10,42),(11,46)] (by (try dsimp only);omega) (by first|omega|(dsimp only;omega)) rfl (by ((try dsimp only);rw [e0,e1,e2]);exact AE8)
end
end Go.Proofs.YtbhgfoikbkaohaaGreat
namespace Go.Proofs.YtbhgfoikbkaohaaGreat
open Go Go.Am Go.Pol
open Go.Proofs.YtbhgfoikbkaohaaGreat renaming plx_Tj → plx
open Go.Proofs.YtbhgfoikbkaohaaGreat renaming ppx_Tj → ppx
section
variable {s:Sy} {o:Nat} {ho:o=66624} {hlen:s.l.length≤100000} {p:Nat}
theorem rd_nul_11 (hp4:p < 1024) (hp0:¬ 0 < p) (h0:¬ s.K p=0) (hb:¬ (0 < p∧s.K (p - 1)=s.K p)) (hu:p % 16=0∧s.G (p / 16)=true) (hd:s.K p=2∧¬ AD3 (s.B p)):(skel s o ho hlen).1 p:=by
 have hL0:=V4 (K:=s.K) (n:=p)
 have hL1:=V5 (G:=s.G) (n:=p)
 have hL2:=V7 (B:=s.B2) (n:=p)
 have hst:=Q0 (K:=s.K) (G:=s.G) (B:=s.B) ho (Y4 (l:=s.l) (C:=s.C) (H:=s.H))
 have hru:=R8 (K:=s.K) (G:=s.G) (B:=s.B) (l:=s.l) (C:=s.C) (H:=s.H) ho
 have hk:(refK s.K s.G s.B (stA s.l s.C s.H))[p]? = some (.int .i64 (s.K p)):=M6 hp4
 have hh:(refK s.K s.G s.B (stA s.l s.C s.H))[1024+p / 16]? = some (.bool (s.G (p / 16))):=Y3 (by omega)
 have hw16:=AU1 (q:=p) (by omega)
 have ht16:((p:Nat):Int).tmod 16=((p % 16:Nat):Int):=by rw [Int.tmod_eq_emod_of_nonneg (by omega)];omega
 have hby:=X5 (K:=s.K) (G:=s.G) (B:=s.B) (P:=stA s.l s.C s.H) hp4
 have hyl:=by_len (s.B p)
 have hyz:=AJ2 (s.B p)
 generalize hy:byA (s.B p)=y at hby hyl hyz
 have e0:F4 s.K (p+1)=F4 s.K p++[⟨((p:Nat):Int),1,s.K p⟩]:=by
  show (if s.K p=0 then _ else if 0 < p∧s.K (p - 1)=s.K p then bump (F4 s.K p) else _)=_
  rw [if_neg h0,if_neg hb]
 have e1:K4 s.G (p+1)=K4 s.G p++[((p:Nat):Int)]:=if_pos hu
 rw [hu.2] at hh
 have e2:=AT5 hd
 obtain ⟨hd1,hd2⟩:=hd
 unfold skel
 dsimp only
 (refine wtk ?_;repeat' (first|with_reducible refine And.intro ?_ ?_|intro hsp))
 all_goals first|(exfalso;omega)|skip
 all_goals exact D7 (p+1) [(10,42),(11,46),(12,58)] (by (try dsimp only);omega) (by first|omega|(dsimp only;omega)) rfl (by ((try dsimp only);rw [e0,e1,e2]);exact AE8)
end
end Go.Proofs.YtbhgfoikbkaohaaGreat
namespace Go.Proofs.YtbhgfoikbkaohaaGreat
open Go Go.Am Go.Pol
open Go.Proofs.YtbhgfoikbkaohaaGreat renaming plx_Tj → plx
open Go.Proofs.YtbhgfoikbkaohaaGreat renaming ppx_Tj → ppx
section
variable {s:Sy} {o:Nat} {ho:o=66624} {hlen:s.l.length≤100000} {p:Nat}
theorem rd_bmp_00 (hp4:p < 1024) (h0:¬ s.K p=0) (hb:0 < p∧s.K (p - 1)=s.K p) (hu:¬ (p % 16=0∧s.G (p / 16)=true)) (hd:¬ (s.K p=2∧¬ AD3 (s.B p))):(skel s o ho hlen).1 p:=by
 have hL0:=V4 (K:=s.K) (n:=p)
 have hL1:=V5 (G:=s.G) (n:=p)
 have hL2:=V7 (B:=s.B2) (n:=p)
 have hst:=Q0 (K:=s.K) (G:=s.G) (B:=s.B) ho (Y4 (l:=s.l) (C:=s.C) (H:=s.H))
 have hru:=R8 (K:=s.K) (G:=s.G) (B:=s.B) (l:=s.l) (C:=s.C) (H:=s.H) ho
 have hk:(refK s.K s.G s.B (stA s.l s.C s.H))[p]? = some (.int .i64 (s.K p)):=M6 hp4
 have hh:(refK s.K s.G s.B (stA s.l s.C s.H))[1024+p / 16]? = some (.bool (s.G (p / 16))):=Y3 (by omega)
 have hw16:=AU1 (q:=p) (by omega)
 have ht16:((p:Nat):Int).tmod 16=((p % 16:Nat):Int):=by rw [Int.tmod_eq_emod_of_nonneg (by omega)];omega
 have hby:=X5 (K:=s.K) (G:=s.G) (B:=s.B) (P:=stA s.l s.C s.H) hp4
 have hyl:=by_len (s.B p)
 have hyz:=AJ2 (s.B p)
 generalize hy:byA (s.B p)=y at hby hyl hyz
 obtain ⟨L,r,hR,er⟩:∃ (L:List Rn) (r:Rn),F4 s.K p=L++[r]∧r.n≤(p:Nat)∧1≤r.n:=by
  obtain ⟨L,m,e,m1,m2⟩:=AL7 (K:=s.K) hb.1 (by rw [hb.2];exact h0)
  exact ⟨L,_,e,by dsimp only;omega,by dsimp only;omega⟩
 have e0:F4 s.K (p+1)=L++[⟨r.p,r.n+1,r.k⟩]:=by
  show (if s.K p=0 then _ else if 0 < p∧s.K (p - 1)=s.K p then bump (F4 s.K p) else _)=_
  rw [if_neg h0,if_pos hb,hR,AK8]
 have hk1:(refK s.K s.G s.B (stA s.l s.C s.H))[(((p:Nat):Int) - 1).toNat]? = some (.int .i64 (s.K (p - 1))):=by rw [show (((p:Nat):Int) - 1).toNat=p - 1 by omega];exact M6 (by omega)
 have hp1:IntKind.i64.wrap (((p:Nat):Int) - 1)=((p - 1:Nat):Int):=by rw [IntWalk.i64_in _ ⟨by omega,by omega⟩];omega
 have hlL:(L++[r]).length=L.length+1:=by simp
 rw [hR,hlL] at hL0
 have hn0:L.length+1 ≠ 0:=by omega
 have hn1:(L++[r]).length ≠ 0:=by omega
 have hix:(((L.length+1:Nat):Int) - 1).toNat=L.length:=by omega
 have hg:(flat rnA (L++[r]))[(((L.length+1:Nat):Int) - 1).toNat * 3+1]? = some (.int .i64 r.n):=by rw [hix];exact Ah1 rfl
 have hs:(flat rnA (L++[r])).set ((((L.length+1:Nat):Int) - 1).toNat * 3+1) (.int .i64 (r.n+1))=flat rnA (L++[⟨r.p,r.n+1,r.k⟩]):=by rw [hix];exact Ah0 rfl
 have hfl:(flat rnA (L++[r])).length=(L.length+1) * 3:=by rw [AF2,hlL]
 rw [hb.2] at hk1
 have e1:K4 s.G (p+1)=K4 s.G p:=if_neg hu
 have e2:=AS0 hd
 unfold skel
 dsimp only
 rw [hR,hlL,Af6 hn0,AI2 hn1]
 (refine wtk ?_;repeat' (first|with_reducible refine And.intro ?_ ?_|intro hsp))
 all_goals first|(exfalso;exact hu ⟨(by first|omega|fail),(by first|assumption|fail)⟩)|skip
 all_goals first|(exfalso;exact hd ⟨(by first|assumption|fail),(by first|assumption|fail)⟩)|skip
 all_goals first|(exfalso;omega)|skip
 all_goals exact D7 (p+1) [] (by (try dsimp only);omega) (by first|omega|(dsimp only;omega)) rfl (by ((try dsimp only);rw [e0,e1,e2]);exact AE8)
end
end Go.Proofs.YtbhgfoikbkaohaaGreat
namespace Go.Proofs.YtbhgfoikbkaohaaGreat
open Go Go.Am Go.Pol
open Go.Proofs.YtbhgfoikbkaohaaGreat renaming plx_Tj → plx
open Go.Proofs.YtbhgfoikbkaohaaGreat renaming ppx_Tj → ppx
section
variable {s:Sy} {o:Nat} {ho:o=66624} {hlen:s.l.length≤100000} {p:Nat}
theorem rd_bmp_01 (hp4:p < 1024) (h0:¬ s.K p=0) (hb:0 < p∧s.K (p - 1)=s.K p) (hu:¬ (p % 16=0∧s.G (p / 16)=true)) (hd:s.K p=2∧¬ AD3 (s.B p)):(skel s o ho hlen).1 p:=by
 have hL0:=V4 (K:=s.K) (n:=p)
 have hL1:=V5 (G:=s.G) (n:=p)
 have hL2:=V7 (B:=s.B2) (n:=p)
 have hst:=Q0 (K:=s.K) (G:=s.G) (B:=s.B) ho (Y4 (l:=s.l) (C:=s.C) (H:=s.H))
 have hru:=R8 (K:=s.K) (G:=s.G) (B:=s.B) (l:=s.l) (C:=s.C) (H:=s.H) ho
 have hk:(refK s.K s.G s.B (stA s.l s.C s.H))[p]? = some (.int .i64 (s.K p)):=M6 hp4
 have hh:(refK s.K s.G s.B (stA s.l s.C s.H))[1024+p / 16]? = some (.bool (s.G (p / 16))):=Y3 (by omega)
 have hw16:=AU1 (q:=p) (by omega)
 have ht16:((p:Nat):Int).tmod 16=((p % 16:Nat):Int):=by rw [Int.tmod_eq_emod_of_nonneg (by omega)];omega
 have hby:=X5 (K:=s.K) (G:=s.G) (B:=s.B) (P:=stA s.l s.C s.H) hp4
 have hyl:=by_len (s.B p)
 have hyz:=AJ2 (s.B p)
 generalize hy:byA (s.B p)=y at hby hyl hyz
 obtain ⟨L,r,hR,er⟩:∃ (L:List Rn) (r:Rn),F4 s.K p=L++[r]∧r.n≤(p:Nat)∧1≤r.n:=by
  obtain ⟨L,m,e,m1,m2⟩:=AL7 (K:=s.K) hb.1 (by rw [hb.2];exact h0)
  exact ⟨L,_,e,by dsimp only;omega,by dsimp only;omega⟩
 have e0:F4 s.K (p+1)=L++[⟨r.p,r.n+1,r.k⟩]:=by
  show (if s.K p=0 then _ else if 0 < p∧s.K (p - 1)=s.K p then bump (F4 s.K p) else _)=_
  rw [if_neg h0,if_pos hb,hR,AK8]
 have hk1:(refK s.K s.G s.B (stA s.l s.C s.H))[(((p:Nat):Int) - 1).toNat]? = some (.int .i64 (s.K (p - 1))):=by rw [show (((p:Nat):Int) - 1).toNat=p - 1 by omega];exact M6 (by omega)
 have hp1:IntKind.i64.wrap (((p:Nat):Int) - 1)=((p - 1:Nat):Int):=by rw [IntWalk.i64_in _ ⟨by omega,by omega⟩];omega
 have hlL:(L++[r]).length=L.length+1:=by simp
 rw [hR,hlL] at hL0
 have hn0:L.length+1 ≠ 0:=by omega
 have hn1:(L++[r]).length ≠ 0:=by omega
 have hix:(((L.length+1:Nat):Int) - 1).toNat=L.length:=by omega
 have hg:(flat rnA (L++[r]))[(((L.length+1:Nat):Int) - 1).toNat * 3+1]? = some (.int .i64 r.n):=by rw [hix];exact Ah1 rfl
 have hs:(flat rnA (L++[r])).set ((((L.length+1:Nat):Int) - 1).toNat * 3+1) (.int .i64 (r.n+1))=flat rnA (L++[⟨r.p,r.n+1,r.k⟩]):=by rw [hix];exact Ah0 rfl
 have hfl:(flat rnA (L++[r])).length=(L.length+1) * 3:=by rw [AF2,hlL]
 rw [hb.2] at hk1
 have e1:K4 s.G (p+1)=K4 s.G p:=if_neg hu
 have e2:=AT5 hd
 obtain ⟨hd1,hd2⟩:=hd
 unfold skel
 dsimp only
 rw [hR,hlL,Af6 hn0,AI2 hn1]
 (refine wtk ?_;repeat' (first|with_reducible refine And.intro ?_ ?_|intro hsp))
 all_goals first|(exfalso;exact hu ⟨(by first|omega|fail),(by first|assumption|fail)⟩)|skip
 all_goals first|(exfalso;omega)|skip
 all_goals exact D7 (p+1) [(12,42)] (by (try dsimp only);omega) (by first|omega|(dsimp only;omega)) rfl (by ((try dsimp only);rw [e0,e1,e2]);exact AE8)
end
end Go.Proofs.YtbhgfoikbkaohaaGreat
namespace Go.Proofs.YtbhgfoikbkaohaaGreat
open Go Go.Am Go.Pol
open Go.Proofs.YtbhgfoikbkaohaaGreat renaming plx_Tj → plx
open Go.Proofs.YtbhgfoikbkaohaaGreat renaming ppx_Tj → ppx
section
variable {s:Sy} {o:Nat} {ho:o=66624} {hlen:s.l.length≤100000} {p:Nat}
theorem rd_bmp_10 (hp4:p < 1024) (h0:¬ s.K p=0) (hb:0 < p∧s.K (p - 1)=s.K p) (hu:p % 16=0∧s.G (p / 16)=true) (hd:¬ (s.K p=2∧¬ AD3 (s.B p))):(skel s o ho hlen).1 p:=by
 have hL0:=V4 (K:=s.K) (n:=p)
 have hL1:=V5 (G:=s.G) (n:=p)
 have hL2:=V7 (B:=s.B2) (n:=p)
 have hst:=Q0 (K:=s.K) (G:=s.G) (B:=s.B) ho (Y4 (l:=s.l) (C:=s.C) (H:=s.H))
 have hru:=R8 (K:=s.K) (G:=s.G) (B:=s.B) (l:=s.l) (C:=s.C) (H:=s.H) ho
 have hk:(refK s.K s.G s.B (stA s.l s.C s.H))[p]? = some (.int .i64 (s.K p)):=M6 hp4
 have hh:(refK s.K s.G s.B (stA s.l s.C s.H))[1024+p / 16]? = some (.bool (s.G (p / 16))):=Y3 (by omega)
 have hw16:=AU1 (q:=p) (by omega)
 have ht16:((p:Nat):Int).tmod 16=((p % 16:Nat):Int):=by rw [Int.tmod_eq_emod_of_nonneg (by omega)];omega
 have hby:=X5 (K:=s.K) (G:=s.G) (B:=s.B) (P:=stA s.l s.C s.H) hp4
 have hyl:=by_len (s.B p)
 have hyz:=AJ2 (s.B p)
 generalize hy:byA (s.B p)=y at hby hyl hyz
 obtain ⟨L,r,hR,er⟩:∃ (L:List Rn) (r:Rn),F4 s.K p=L++[r]∧r.n≤(p:Nat)∧1≤r.n:=by
  obtain ⟨L,m,e,m1,m2⟩:=AL7 (K:=s.K) hb.1 (by rw [hb.2];exact h0)
  exact ⟨L,_,e,by dsimp only;omega,by dsimp only;omega⟩
 have e0:F4 s.K (p+1)=L++[⟨r.p,r.n+1,r.k⟩]:=by
  show (if s.K p=0 then _ else if 0 < p∧s.K (p - 1)=s.K p then bump (F4 s.K p) else _)=_
  rw [if_neg h0,if_pos hb,hR,AK8]
 have hk1:(refK s.K s.G s.B (stA s.l s.C s.H))[(((p:Nat):Int) - 1).toNat]? = some (.int .i64 (s.K (p - 1))):=by rw [show (((p:Nat):Int) - 1).toNat=p - 1 by omega];exact M6 (by omega)
 have hp1:IntKind.i64.wrap (((p:Nat):Int) - 1)=((p - 1:Nat):Int):=by rw [IntWalk.i64_in _ ⟨by omega,by omega⟩];omega
 have hlL:(L++[r]).length=L.length+1:=by simp
 rw [hR,hlL] at hL0
 have hn0:L.length+1 ≠ 0:=by omega
 have hn1:(L++[r]).length ≠ 0:=by omega
 have hix:(((L.length+1:Nat):Int) - 1).toNat=L.length:=by omega
 have hg:(flat rnA (L++[r]))[(((L.length+1:Nat):Int) - 1).toNat * 3+1]? = some (.int .i64 r.n):=by rw [hix];exact Ah1 rfl
 have hs:(flat rnA (L++[r])).set ((((L.length+1:Nat):Int) - 1).toNat * 3+1) (.int .i64 (r.n+1))=flat rnA (L++[⟨r.p,r.n+1,r.k⟩]):=by rw [hix];exact Ah0 rfl
 have hfl:(flat rnA (L++[r])).length=(L.length+1) * 3:=by rw [AF2,hlL]
 rw [hb.2] at hk1
 have e1:K4 s.G (p+1)=K4 s.G p++[((p:Nat):Int)]:=if_pos hu
 rw [hu.2] at hh
 have e2:=AS0 hd
 unfold skel
 dsimp only
 rw [hR,hlL,Af6 hn0,AI2 hn1]
 (refine wtk ?_;repeat' (first|with_reducible refine And.intro ?_ ?_|intro hsp))
 all_goals first|(exfalso;exact hd ⟨(by first|assumption|fail),(by first|assumption|fail)⟩)|skip
 all_goals first|(exfalso;omega)|skip
 all_goals exact D7 (p+1) [(11,32)] (by (try dsimp only);omega) (by first|omega|(dsimp only;omega)) rfl (by ((try dsimp only);rw [e0,e1,e2]);exact AE8)
end
end Go.Proofs.YtbhgfoikbkaohaaGreat
namespace Go.Proofs.YtbhgfoikbkaohaaGreat
open Go Go.Am Go.Pol
open Go.Proofs.YtbhgfoikbkaohaaGreat renaming plx_Tj → plx
open Go.Proofs.YtbhgfoikbkaohaaGreat renaming ppx_Tj → ppx
section
variable {s:Sy} {o:Nat} {ho:o=66624} {hlen:s.l.length≤100000} {p:Nat}
theorem rd_bmp_11 (hp4:p < 1024) (h0:¬ s.K p=0) (hb:0 < p∧s.K (p - 1)=s.K p) (hu:p % 16=0∧s.G (p / 16)=true) (hd:s.K p=2∧¬ AD3 (s.B p)):(skel s o ho hlen).1 p:=by
 have hL0:=V4 (K:=s.K) (n:=p)
 have hL1:=V5 (G:=s.G) (n:=p)
 have hL2:=V7 (B:=s.B2) (n:=p)
 have hst:=Q0 (K:=s.K) (G:=s.G) (B:=s.B) ho (Y4 (l:=s.l) (C:=s.C) (H:=s.H))
 have hru:=R8 (K:=s.K) (G:=s.G) (B:=s.B) (l:=s.l) (C:=s.C) (H:=s.H) ho
 have hk:(refK s.K s.G s.B (stA s.l s.C s.H))[p]? = some (.int .i64 (s.K p)):=M6 hp4
 have hh:(refK s.K s.G s.B (stA s.l s.C s.H))[1024+p / 16]? = some (.bool (s.G (p / 16))):=Y3 (by omega)
 have hw16:=AU1 (q:=p) (by omega)
 have ht16:((p:Nat):Int).tmod 16=((p % 16:Nat):Int):=by rw [Int.tmod_eq_emod_of_nonneg (by omega)];omega
 have hby:=X5 (K:=s.K) (G:=s.G) (B:=s.B) (P:=stA s.l s.C s.H) hp4
 have hyl:=by_len (s.B p)
 have hyz:=AJ2 (s.B p)
 generalize hy:byA (s.B p)=y at hby hyl hyz
 obtain ⟨L,r,hR,er⟩:∃ (L:List Rn) (r:Rn),F4 s.K p=L++[r]∧r.n≤(p:Nat)∧1≤r.n:=by
  obtain ⟨L,m,e,m1,m2⟩:=AL7 (K:=s.K) hb.1 (by rw [hb.2];exact h0)
  exact ⟨L,_,e,by dsimp only;omega,by dsimp only;omega⟩
 have e0:F4 s.K (p+1)=L++[⟨r.p,r.n+1,r.k⟩]:=by
  show (if s.K p=0 then _ else if 0 < p∧s.K (p - 1)=s.K p then bump (F4 s.K p) else _)=_
  rw [if_neg h0,if_pos hb,hR,AK8]
 have hk1:(refK s.K s.G s.B (stA s.l s.C s.H))[(((p:Nat):Int) - 1).toNat]? = some (.int .i64 (s.K (p - 1))):=by rw [show (((p:Nat):Int) - 1).toNat=p - 1 by omega];exact M6 (by omega)
 have hp1:IntKind.i64.wrap (((p:Nat):Int) - 1)=((p - 1:Nat):Int):=by rw [IntWalk.i64_in _ ⟨by omega,by omega⟩];omega
 have hlL:(L++[r]).length=L.length+1:=by simp
 rw [hR,hlL] at hL0
 have hn0:L.length+1 ≠ 0:=by omega
 have hn1:(L++[r]).length ≠ 0:=by omega
 have hix:(((L.length+1:Nat):Int) - 1).toNat=L.length:=by omega
 have hg:(flat rnA (L++[r]))[(((L.length+1:Nat):Int) - 1).toNat * 3+1]? = some (.int .i64 r.n):=by rw [hix];exact Ah1 rfl
 have hs:(flat rnA (L++[r])).set ((((L.length+1:Nat):Int) - 1).toNat * 3+1) (.int .i64 (r.n+1))=flat rnA (L++[⟨r.p,r.n+1,r.k⟩]):=by rw [hix];exact Ah0 rfl
 have hfl:(flat rnA (L++[r])).length=(L.length+1) * 3:=by rw [AF2,hlL]
 rw [hb.2] at hk1
 have e1:K4 s.G (p+1)=K4 s.G p++[((p:Nat):Int)]:=if_pos hu
 rw [hu.2] at hh
 have e2:=AT5 hd
 obtain ⟨hd1,hd2⟩:=hd
 unfold skel
 dsimp only
 rw [hR,hlL,Af6 hn0,AI2 hn1]
 (refine wtk ?_;repeat' (first|with_reducible refine And.intro ?_ ?_|intro hsp))
 all_goals first|(exfalso;omega)|skip
 all_goals exact D7 (p+1) [(11,32),(12,44)] (by (try dsimp only);omega) (by first|omega|(dsimp only;omega)) rfl (by ((try dsimp only);rw [e0,e1,e2]);exact AE8)
end
end Go.Proofs.YtbhgfoikbkaohaaGreat
namespace Go.Proofs.YtbhgfoikbkaohaaGreat
open Go Go.Am Go.Pol
section
variable {s:Sy} {o:Nat} {ho:o=66624} {hlen:s.l.length≤100000} {p:Nat}
theorem q_saveR (hlen:s.l.length≤100000):d9 11 [] s.b (.agg (vsA s.saveR)) s.b:=(skel s 66624 rfl hlen).2 fun p hp =>
 if hp4:p < 1024 then
  if h0:s.K p=0 then
   if hu:p % 16=0∧s.G (p / 16)=true then rd_free_h hp4 h0 hu else rd_free hp4 h0 hu
  else if hb:0 < p∧s.K (p - 1)=s.K p then
   if hu:p % 16=0∧s.G (p / 16)=true then
    if hd:s.K p=2∧¬ AD3 (s.B p) then rd_bmp_11 hp4 h0 hb hu hd else rd_bmp_10 hp4 h0 hb hu hd
   else
    if hd:s.K p=2∧¬ AD3 (s.B p) then rd_bmp_01 hp4 h0 hb hu hd else rd_bmp_00 hp4 h0 hb hu hd
  else if hp0:0 < p then
   if hu:p % 16=0∧s.G (p / 16)=true then
    if hd:s.K p=2∧¬ AD3 (s.B p) then rd_new_11 hp4 hp0 h0 hb hu hd else rd_new_10 hp4 hp0 h0 hb hu hd
   else
    if hd:s.K p=2∧¬ AD3 (s.B p) then rd_new_01 hp4 hp0 h0 hb hu hd else rd_new_00 hp4 hp0 h0 hb hu hd
  else
   if hu:p % 16=0∧s.G (p / 16)=true then
    if hd:s.K p=2∧¬ AD3 (s.B p) then rd_nul_11 hp4 hp0 h0 hb hu hd else rd_nul_10 hp4 hp0 h0 hb hu hd
   else
    if hd:s.K p=2∧¬ AD3 (s.B p) then rd_nul_01 hp4 hp0 h0 hb hu hd else rd_nul_00 hp4 hp0 h0 hb hu hd
 else rd_end (by omega)
theorem q_save (hg:GoodS s):d9 11 [] s.b (.agg (vsA s.save)) s.b:=by
 have e:s.saveR=s.save:=saveR_eq ⟨hg.kind,hg.huge,hg.zero,hg.cK,hg.cB⟩
 rw [← e]
 exact q_saveR (by have:=(AS1 hg.hv).2.1;omega)
end
end Go.Proofs.YtbhgfoikbkaohaaGreat
namespace Go.Proofs.YtbhgfoikbkaohaaGreat.Sh
open Go Go.Am Go.Pol
theorem plx_Szc {p:Prop} (h:p:=by ((first|exact plw|(with_reducible first|apply R3|apply J7 _|apply J8 _|apply J5 _|apply w9|apply Q5|apply J6|apply X0|apply AM1 _|apply AI1 _|apply AM0|apply Z5|apply H9 U6|apply H9 AA4|apply M4 W9|apply AZ2|apply AK3|fail)|fail);first|done|fail)):p:=h
theorem ppx_Szc {p:Prop} (h:p:=by ((first|with_reducible assumption|(with_reducible first|apply G8|apply F6|apply AH8|apply AE7|apply AR3|apply AL6 _|apply AH7 _|apply hpp|apply W9|apply AY1 _|fail)|exact ppw|fail);first|done|fail)):p:=h
open Go.Proofs.YtbhgfoikbkaohaaGreat.Sh renaming plx_Szc → plx
open Go.Proofs.YtbhgfoikbkaohaaGreat.Sh renaming ppx_Szc → ppx
theorem wx_Szc {p q:Prop} (hq:q) (h:Y2 q→p:=by (intro hQz;((repeat' ((try (conv=>whnf));first|refine sxA ?_|refine AF8 (d:=dSA) BP2 (by first|assumption|omega) (by with_reducible assumption) ?_|refine sxF ?_|refine L9 hf ?_|refine L9 hsh ?_|refine BM7 hnw ?_|refine BM7 hnq ?_|refine cx_WN h1 rfl (by decide) ?_|refine cx_VN h2 rfl (by decide) ?_|refine cx_TB hb rfl rfl rfl rfl rfl rfl rfl (by decide) rfl ?_|refine AU4 hS1 rfl rfl rfl rfl rfl (by decide) rfl ?_|refine Ax2 hS2 rfl rfl (by decide) rfl ?_|refine M0 v1 rfl (by decide) ?_|refine M0 v2 rfl (by decide) ?_|refine L9 m1 ?_|refine L9 m2 ?_|refine cx_T ha rfl rfl rfl rfl rfl rfl rfl (by decide) rfl ?_|refine M0 h1 rfl (by decide) ?_|refine M0 h2 rfl (by decide) ?_|refine L9 hnw ?_|refine L9 hnq ?_|refine sxH ?_|((with_reducible first|apply U3 hQz|apply U4 hQz)<;>(try intro hsp hQz))|exact hQz.out))<;>(try (conv=>whnf))))):p:=h ⟨hq⟩
structure EndS (q:Sw) (t:WS):Prop where
 s1:T9 15 [] q t (.agg q.save) q t
 s2:AS4 19 [] q (.agg q.save) q
 v1:d9 21 [] q.s.a (.agg (vsA q.s.save)) q.s.a
 v2:d9 11 [] q.s.b (.agg (vsA q.s.save)) q.s.b
 m1:I6 14 [.agg q.save,.agg q.save] (.bool true)
 m2:I6 20 [.agg (vsA q.s.save),.agg (vsA q.s.save)] (.bool true)
theorem endS {q:Sw} {t:WS} (hg:F3 q) (h:WOk q t):EndS q t:=⟨w_Save hg h,v_Save hg,p_save hg.good,q_save hg.good,k_sameQ hg,Aj2 hg.good⟩
set_option maxRecDepth 20000 in
theorem k_plays (p:SPy) (hl:p.X.length≤maxLen) (hwf:∀ x ∈ p.X,0≤x.w):I6 4 [.agg (BG3 p)] (.bool true):=by
 have hl:p.X.length≤9223372036854775807:=hl
 obtain ⟨b,hf,hfb⟩:=k_far p hl
 have hsh:=k_shown
 have hpp:=AH7 p
 refine I6.mk (N7 F9 b4 H8 ⟨AI1 p,trivial⟩ C9 rfl ?_)
 unfold c4
 cases b with
 | true =>
  unfold BG3 at *
  (refine wx_Szc ?_;repeat' (first|with_reducible refine And.intro ?_ ?_|intro hsp))
  all_goals first|exact J4 rfl|(exfalso;omega)
 | false =>
 clear hfb
 by_cases hc:(AB4 p.l).2=0
 ·have hnw:=p_new (l:=p.l) (i:=(AB4 p.l).1) (Prod.ext rfl hc)
  have hnq:=q_new (l:=p.l) (i:=(AB4 p.l).1) (Prod.ext rfl hc)
  have hg:=Av3 hc
  by_cases hst:U7 p.a p.n p.pg p.sl
  ·by_cases he:((Sy.new p.l).chg p.a p.n 0 1 0).1=0
   ·have h1:=w_New hg hst he
    have h2:=v_New hg hst he
    have h0:F3 p.b:=by
     obtain ⟨n1,n2,n3,n4,n5,n6,n7,n8⟩:=hst
     exact (BC7 (l:=p.l) (a:=p.a) (n:=p.n) (pg:=p.pg.toNat) (sl:=p.sl.toNat) hc ⟨n1,n3,by omega⟩ ⟨by omega,by omega,by omega⟩ he p.b rfl).1
    have ho0:WOk p.b T0:=wok_new
    rw [show Sw.nw ((Sy.new p.l).chg p.a p.n 0 1 0).2 p.a p.n p.pg p.sl=p.b from rfl] at h1 h2
    clear hc hst he hg
    generalize p.b=b0 at *
    generalize T0=t0 at *
    generalize Sy.new p.l=s0 at *
    unfold BG3 at *
    (refine wx_Szc ?_;repeat' (first|with_reducible refine And.intro ?_ ?_|intro hsp))
    all_goals first|(exfalso;omega)|(exfalso;simp at hsp;done)|skip
    (refine H7 [1,3,4,5,8] (fun (z:Nat × Sw × WS)=>[(7,.ptr 3 0),(9,.int .i64 (z.1:Nat))]) (fun (z:Nat × Sw × WS)=>⟨[(0,.cells [.int .i64 p.a,.int .i64 p.n,.int .i64 p.pg,.int .i64 p.sl,.isl (p.l.map rlA),.isl (p.X.map Aj3)])]++twN z.2.1 z.2.2 3 4 5 6 1 7 2,8⟩) (fun (z:Nat × Sw × WS)=>z.1≤p.X.length∧F3 z.2.1∧WOk z.2.1 z.2.2) (fun (z:Nat × Sw × WS)=>p.X.length - z.1) ((0,b0,t0)) [] rfl (fun _=>by first|exact Nat.zero_le _|(dsimp only;omega)) ?_ (by ((try (conv=>whnf));exact Az1)) ?_)
    ·exact ⟨Nat.zero_le _,h0,ho0⟩
    rintro ⟨i,q,t⟩ ⟨hi,hG,hO⟩
    dsimp only at hi hG hO ⊢
    clear h0 ho0 h1 h2 hnw hnq
    by_cases hil:i < p.X.length
    ·have hw0:=hwf _ (AN5 (d:=dSA) hil)
     generalize hx:nth dSA p.X i=x at *
     obtain ⟨t',hO',ha,hb⟩:=l_both hG hO x hw0
     have hG':=good_al hG x
     obtain ⟨hS1,hS2,v1,v2,m1,m2⟩:=endS hG' hO'
     generalize (q.al x).2=q' at *
     unfold Sw.save Ao8 at hS1 hS2 m1
     unfold vsA Sy.save Go.Pol.stA at v1 v2 m2
     dsimp only at v1 v2 m2
     generalize F4 q'.s.K 1024=R1 at *
     generalize K4 q'.s.G 1024=U1 at *
     generalize AA2 q'.s.B 1024=D1 at *
     clear hwf hG hO
     by_cases hy:x.w.tmod 14=12
     ·have hb:=hb hy
      clear ha
      unfold twN stC
      (refine wx_Szc ?_;repeat' (first|with_reducible refine And.intro ?_ ?_|intro hsp))
      all_goals first|(exfalso;omega)|exact D7 ((i+1,q',t')) [(3,9),(4,10),(5,11),(6,12)] ⟨hil,hG',hO'⟩ (by first|omega|(dsimp only;omega)) rfl (by exact Az1)
     ·have ha:=ha hy
      clear hb
      unfold twN stC
      (refine wx_Szc ?_;repeat' (first|with_reducible refine And.intro ?_ ?_|intro hsp))
      all_goals first|(exfalso;omega)|exact D7 ((i+1,q',t')) [] ⟨hil,hG',hO'⟩ (by first|omega|(dsimp only;omega)) rfl (by exact Az1)
    ·obtain ⟨hS1,hS2,v1,v2,m1,m2⟩:=endS hG hO
     unfold vsA Sy.save Go.Pol.stA at v1 v2 m2
     dsimp only at v1 v2 m2
     generalize F4 q.s.K 1024=R1 at *
     generalize K4 q.s.G 1024=U1 at *
     generalize AA2 q.s.B 1024=D1 at *
     clear hwf hG hO
     unfold twN stC
     (refine wx_Szc ?_;repeat' (first|with_reducible refine And.intro ?_ ?_|intro hsp))
     all_goals first|(exfalso;omega)|exact J4 rfl
   ·have h1:=w_New_no hg hst he
    have h2:=v_New_no hg hst he
    have hg2:GoodS ((Sy.new p.l).chg p.a p.n 0 1 0).2:=BS7 hg (by decide)
    have v1:=p_save hg2
    have v2:=q_save hg2
    have m2:=Aj2 hg2
    clear hg2
    unfold BG3 at *
    generalize Sy.new p.l=s0 at *
    generalize s0.chg p.a p.n 0 1 0=r at *
    generalize vsA r.2.save=sv at *
    (refine wx_Szc ?_;repeat' (first|with_reducible refine And.intro ?_ ?_|intro hsp))
    all_goals first|(exfalso;omega)|(exfalso;simp at hsp;omega)|skip
    (refine H7 [1,3,4,5] (fun (u:Nat)=>[(9,.int .i64 0)]) (fun (u:Nat)=>⟨[(0,.cells [.int .i64 p.a,.int .i64 p.n,.int .i64 p.pg,.int .i64 p.sl,.isl (p.l.map rlA),.isl (p.X.map Aj3)])]++[(1,.cells r.2.a),(2,.cells r.2.b)],3⟩) (fun (u:Nat)=>u=0) (fun (u:Nat)=>0) (0) [] rfl (fun _=>by first|exact Nat.zero_le _|(dsimp only;omega)) ?_ (by ((try (conv=>whnf));exact Az1)) ?_)
    ·rfl
    rintro u rfl
    (refine wx_Szc ?_;repeat' (first|with_reducible refine And.intro ?_ ?_|intro hsp))
    all_goals first|exact J4 rfl|(exfalso;omega)
  ·have h1:=w_New_far hg hst
   have h2:=v_New_far (s:=Sy.new p.l) hst
   have v1:=p_save hg
   have v2:=q_save hg
   have m2:=Aj2 hg
   unfold BG3 at *
   generalize Sy.new p.l=s0 at *
   generalize vsA s0.save=sv at *
   (refine wx_Szc ?_;repeat' (first|with_reducible refine And.intro ?_ ?_|intro hsp))
   all_goals first|(exfalso;omega)|(exfalso;simp at hsp;done)|skip
   (refine H7 [1,3,4,5] (fun (u:Nat)=>[(9,.int .i64 0)]) (fun (u:Nat)=>⟨[(0,.cells [.int .i64 p.a,.int .i64 p.n,.int .i64 p.pg,.int .i64 p.sl,.isl (p.l.map rlA),.isl (p.X.map Aj3)])]++[(1,.cells s0.a),(2,.cells s0.b)],3⟩) (fun (u:Nat)=>u=0) (fun (u:Nat)=>0) (0) [] rfl (fun _=>by first|exact Nat.zero_le _|(dsimp only;omega)) ?_ (by ((try (conv=>whnf));exact Az1)) ?_)
   ·rfl
   rintro u rfl
   (refine wx_Szc ?_;repeat' (first|with_reducible refine And.intro ?_ ?_|intro hsp))
   all_goals first|exact J4 rfl|(exfalso;omega)
 ·have hnw:=p_new_no (l:=p.l) (i:=(AB4 p.l).1) (e:=(AB4 p.l).2) rfl hc
  have hnq:=q_new_no (l:=p.l) (i:=(AB4 p.l).1) (e:=(AB4 p.l).2) rfl hc
  unfold BG3 at *
  generalize (AB4 p.l).2=e at *
  (refine wx_Szc ?_;repeat' (first|with_reducible refine And.intro ?_ ?_|intro hsp))
  all_goals first|exact J4 rfl|(exfalso;omega)
end Go.Proofs.YtbhgfoikbkaohaaGreat.Sh
namespace Go.Am
open Go.ChangeShapes Go.WideShapes Go.ChangeAt Go.RowKit
inductive Ty where
 | bool|int (k:IntKind)|str|slice (e:Ty)|nil|cons (a b:Ty)|struct (T:Ty)|arr (k:IntKind) (n:Nat)
def Ty.size:Ty→Nat
 | .bool=>1
 | .int _=>1
 | .str=>1
 | .slice _=>1
 | .nil=>0
 | .cons a b=>a.size+b.size
 | .struct T=>T.size
 | .arr _ n=>n
def Ao7 (P:Program):Ty→(TypeId→Bool) × (Nat→List Field→Bool)
 | .bool=>(fun t=>match P.underlying t with|some .bool=>true|_=>false,fun _ _=>false)
 | .int k=>(fun t=>match P.underlying t with|some (.int k')=>decide (k=k')|_=>false,fun _ _=>false)
 | .str=>(fun t=>match P.underlying t with|some .string=>true|_=>false,fun _ _=>false)
 | .slice e=>(fun t=>match P.underlying t with|some (.slice e')=>(Ao7 P e).1 e' && decide (P.cellsOf e'=e.size) && decide (0 < e.size)|_=>false,fun _ _=>false)
 | .nil=>(fun _=>false,fun _ fs=>match fs with | []=>true|_::_=>false)
 | .cons a b=>(fun _=>false,fun off fs=>match fs with | []=>false|f::r=>decide (f.offset=off) && decide (P.cellsOf f.type=a.size) && (Ao7 P a).1 f.type && (Ao7 P b).2 (off+a.size) r)
 | .struct T=>(fun t=>match P.underlying t with|some (.struct fs)=>decide (P.cellsOf t=T.size) && (Ao7 P T).2 0 fs.toList|_=>false,fun _ _=>false)
 | .arr k n=>(fun t=>match P.underlying t with|some (.array n' e)=>decide (n'=n) && decide (P.cellsOf t=n) && decide (P.cellsOf e=1) && (match P.underlying e with|some (.int k')=>decide (k=k')|_=>false)|_=>false,fun _ _=>false)
def Shp:Ty→List AV→Prop
 | .bool,xs=>∃ b,xs=[.bool b]
 | .int k,xs=>∃ n,xs=[.int k n]∧(Lit.int k n).wf=true
 | .str,xs=>∃ s,xs=[.str s]∧s.size≤maxLen
 | .slice e,xs=>∃ els:List (List AV),xs=[.isl els]∧els.length≤maxLen∧∀ el ∈ els,Shp e el
 | .nil,xs=>xs=[]
 | .cons a b,xs=>∃ ys zs,xs=ys++zs∧Shp a ys∧Shp b zs
 | .struct T,xs=>Shp T xs
 | .arr k n,xs=>∃ l:List Int,xs=l.map (AV.int k)∧l.length=n∧∀ x ∈ l,(Lit.int k x).wf=true
theorem AX2 {α:Type} {p:Nat→α→Prop}:∀ n:Nat,(∀ i,i < n→∃ x,p i x)→∃ l:List α,l.length=n∧∀ i x,l[i]? = some x→p i x
 | 0,_=>⟨[],rfl,fun i x h=>by simp at h⟩
 | n+1,h=>by
  obtain ⟨l,hl,hp⟩:=AX2 n fun i hi=>h i (by omega)
  obtain ⟨x,hx⟩:=h n (by omega)
  refine ⟨l++[x],by simp [hl],fun i y hy=>?_⟩
  rcases Nat.lt_trichotomy i n with hi|rfl|hi
  ·rw [List.getElem?_append_left (by omega)] at hy;exact hp i y hy
  ·rw [List.getElem?_append_right (by omega),hl,Nat.sub_self] at hy;cases hy;exact hx
  ·rw [List.getElem?_eq_none (by simp [hl];omega)] at hy;cases hy
theorem one_int {k:IntKind} {n:Int}:One (.int k n):=⟨fun _ e=>(by cases e),fun _ e=>(by cases e)⟩
theorem one_bool {b:Bool}:One (.bool b):=⟨fun _ e=>(by cases e),fun _ e=>(by cases e)⟩
theorem one_str {b:ByteArray}:One (.string b):=⟨fun _ e=>(by cases e),fun _ e=>(by cases e)⟩
theorem Ak5 {A:Option Addr} {n m:Nat}:One (.slice A n m):=⟨fun _ e=>(by cases e),fun _ e=>(by cases e)⟩
theorem Ac1 {c:Cx} {x:AV} {v:Value} {look:Nat→Option Value} (h:RR c x v) (ho:One v) (hl:look 0=some v):RC1 (RR c) [x] look:=fun j y hy=>by
 cases j with
 | zero=>cases hy;exact ⟨v,hl,h,ho⟩
 | succ j=>cases hy
theorem rc1_app {c:Cx} {xs ys:List AV} {look:Nat→Option Value} (h:RC1 (RR c) xs look) (h':RC1 (RR c) ys fun j=>look (xs.length+j)):RC1 (RR c) (xs++ys) look:=fun j y hy=>by
 by_cases hj:j < xs.length
 ·rw [List.getElem?_append_left hj] at hy;exact h j y hy
 ·rw [List.getElem?_append_right (by omega)] at hy
  obtain ⟨u,hu,hr⟩:=h' _ _ hy
  exact ⟨u,by rw [← hu];congr 1;omega,hr⟩
section
variable {P:Program} {H:Type} {enc:TypeId × Value→H} {spare:Nat→Bool} {held:Bool} {W:World}
def Rd1 (P:Program) (enc:TypeId × Value→H) (spare:Nat→Bool) (held:Bool) (W:World) (T:Ty):Prop:=∀ t,(Ao7 P T).1 t=true→∀ (fuel:Nat) (cs:List Value) (x:DataW H × List MemPlace),DataW.trod enc P W 0 spare held fuel t cs=some x →
  ∃ xs,Shp T xs∧xs.length=T.size∧cs.length=xs.length∧RC1 (RR (AJ8 W)) xs fun j=>cs[j]?
def Rd2 (P:Program) (enc:TypeId × Value→H) (spare:Nat→Bool) (held:Bool) (W:World) (T:Ty):Prop:=∀ (off:Nat) (fs:List Field),(Ao7 P T).2 off fs=true→∀ (n:Nat) (cs:List Value),
  (∀ (i:Nat) (f:Field),fs[i]? = some f→∃ x,DataW.trod enc P W 0 spare held n f.type ((cs.drop f.offset).take (P.cellsOf f.type))=some x) →
  ∃ xs,Shp T xs∧xs.length=T.size∧RC1 (RR (AJ8 W)) xs fun j=>cs[off+j]?
theorem BX5 {e:Ty} (ih:Rd1 P enc spare held W e):Rd1 P enc spare held W (.slice e):=fun t ht fuel cs x hx=>by
 simp only [Ao7] at ht
 split at ht
 case h_2=>cases ht
 case h_1 e' he' =>
 simp only [Bool.and_eq_true,decide_eq_true_eq] at ht
 obtain ⟨⟨h1,h2⟩,h3⟩:=ht
 rcases DataW.trod_slice he' hx with ⟨rfl,-⟩ | ⟨a,len,cap,elems,rest,n,-,rfl,-,-,hlc,hcm,hel,hE,-,-⟩
 ·refine ⟨[.isl []],⟨[],rfl,Nat.zero_le _,fun el h=>(by cases h)⟩,rfl,rfl,Ac1 (AC5.2 ⟨none,0,rfl,Nat.le_refl _,Nat.zero_le _,fun h=>absurd rfl h⟩) Ak5 rfl⟩
 ·rw [h2] at hE
  have hget:∀ i,i < len→∃ ds y,W.cells? 0 (a.add (i * e.size)) e.size=some ds∧DataW.trod enc P W 0 spare held n e' ds=some y:=fun i hi=>by
   have hEi:=hE i hi
   obtain ⟨y,hy⟩:∃ y,elems[i]? = some y:=⟨elems[i]'(by omega),List.getElem?_eq_getElem _⟩
   rw [hy] at hEi
   obtain ⟨ds,hds,hd⟩:=Option.bind_eq_some_iff.1 hEi
   exact ⟨ds,y,hds,hd⟩
  rcases Nat.eq_zero_or_pos len with rfl|hpos
  ·exact ⟨[.isl []],⟨[],rfl,Nat.zero_le _,fun el h=>(by cases h)⟩,rfl,rfl,Ac1 (AC5.2 ⟨some a,cap,rfl,Nat.zero_le _,hcm,fun h=>absurd rfl h⟩) Ak5 rfl⟩
  obtain ⟨ab,ao,asp⟩:=a
  have hsp:asp=none:=by
   obtain ⟨ds,y,hds,-⟩:=hget 0 hpos
   obtain ⟨-,hlen,hcell⟩:=World.cells?_some hds
   have hc0:=hcell 0 h3
   rw [List.getElem?_eq_getElem (by omega:0 < ds.length),Nat.zero_mul] at hc0
   have h8:=World.cell?_spot hc0
   simpa [Addr.add] using h8
  subst hsp
  have hx':∀ i,i < len→∃ el,Shp e el∧el.length=e.size∧ab < W.heap.size∧RC1 (RR (AJ8 W)) el fun j=>W.cell? ⟨ab,ao+i * e.size+j,none⟩:=fun i hi=>by
   obtain ⟨ds,y,hds,hd⟩:=hget i hi
   obtain ⟨-,hlen,hcell⟩:=World.cells?_some hds
   obtain ⟨el,s1,s2,s3,s4⟩:=ih e' h1 n ds y hd
   have hcell':∀ j,j < e.size→W.cell? ⟨ab,ao+i * e.size+j,none⟩=ds[j]?:=fun j hj=>by
    have:=hcell j hj
    rwa [add_plain,add_plain] at this
   have hc0:=hcell' 0 h3
   rw [List.getElem?_eq_getElem (by omega:0 < ds.length)] at hc0
   have hbl:ab < W.heap.size:=by
    refine Classical.byContradiction fun hlt=>?_
    have hn:W.heap[ab]? = none:=by simp;omega
    simp [World.cell?,hn] at hc0
   refine ⟨el,s1,s2,hbl,s4.imp (fun _ _ h=>h) fun j u hu=>?_⟩
   have hj:j < ds.length:=(List.getElem?_eq_some_iff.1 hu).1
   rw [hcell' j (by omega)]
   exact hu
  obtain ⟨els,hl,hp⟩:=AX2 len hx'
  refine ⟨[.isl els],⟨els,rfl,by omega,fun el h=>?_⟩,rfl,rfl,Ac1 (AC5.2 ⟨some ⟨ab,ao,none⟩,cap,by rw [hl],by omega,hcm,fun hne=>?_⟩) Ak5 rfl⟩
  ·obtain ⟨i,hi⟩:=List.mem_iff_getElem?.1 h
   exact (hp i el hi).1
  ·obtain ⟨e0,he0⟩:∃ e0,els[0]? = some e0:=by
    cases els with
    | nil=>exact absurd rfl hne
    | cons y ys=>exact ⟨y,rfl⟩
   exact ⟨ab,ao,e.size,rfl,BF7 (hp 0 e0 he0).2.2.1,fun k el hk=>⟨(hp k el hk).2.1,(hp k el hk).2.2.2⟩⟩
theorem read_all (T:Ty):Rd1 P enc spare held W T∧Rd2 P enc spare held W T:=by
 induction T with
 | bool =>
  refine ⟨fun t ht fuel cs x hx=>?_,fun off fs h=>by cases h⟩
  simp only [Ao7] at ht
  split at ht
  case h_2=>cases ht
  case h_1 he =>
  obtain ⟨b,rfl,-⟩:=DataW.trod_bool he hx
  exact ⟨[.bool b],⟨b,rfl⟩,rfl,rfl,Ac1 (RR_bool.2 rfl) one_bool rfl⟩
 | int k =>
  refine ⟨fun t ht fuel cs x hx=>?_,fun off fs h=>by cases h⟩
  simp only [Ao7] at ht
  split at ht
  case h_2=>cases ht
  case h_1 k' he =>
  obtain rfl:=of_decide_eq_true ht
  obtain ⟨n,rfl,-,hw⟩:=DataW.trod_int he hx
  exact ⟨[.int k n],⟨n,rfl,hw⟩,rfl,rfl,Ac1 (RR_int.2 rfl) one_int rfl⟩
 | str =>
  refine ⟨fun t ht fuel cs x hx=>?_,fun off fs h=>by cases h⟩
  simp only [Ao7] at ht
  split at ht
  case h_2=>cases ht
  case h_1 he =>
  obtain ⟨s,rfl,-,hw⟩:=DataW.trod_string he hx
  exact ⟨[.str s],⟨s,rfl,hw⟩,rfl,rfl,Ac1 (RR_str.2 rfl) one_str rfl⟩
 | slice e ih=>exact ⟨BX5 ih.1,fun off fs h=>by cases h⟩
 | nil =>
  refine ⟨fun t ht=>(by cases ht),fun off fs h n cs hcs=>?_⟩
  exact ⟨[],rfl,rfl,fun j x hx=>by simp at hx⟩
 | cons a b iha ihb =>
  refine ⟨fun t ht=>(by cases ht),fun off fs h n cs hcs=>?_⟩
  cases fs with
  | nil=>cases h
  | cons f r =>
   simp only [Ao7,Bool.and_eq_true,decide_eq_true_eq] at h
   obtain ⟨⟨⟨h1,h2⟩,h3⟩,h4⟩:=h
   obtain ⟨x,hx⟩:=hcs 0 f rfl
   obtain ⟨ys,s1,s2,s3,s4⟩:=iha.1 f.type h3 n _ x hx
   obtain ⟨zs,r1,r2,r3⟩:=ihb.2 _ r h4 n cs fun i g hg=>hcs (i+1) g hg
   refine ⟨ys++zs,⟨ys,zs,rfl,s1,r1⟩,by simp [s2,r2,Ty.size],rc1_app (s4.imp (fun _ _ h=>h) fun j u hu=>?_) (r3.imp (fun _ _ h=>h) fun j u hu=>?_)⟩
   ·rw [List.getElem?_take] at hu
    split at hu
    ·rw [List.getElem?_drop,h1] at hu;exact hu
    ·cases hu
   ·rw [s2,← hu];congr 1;omega
 | struct T ih =>
  refine ⟨fun t ht fuel cs x hx=>?_,fun off fs h=>by cases h⟩
  simp only [Ao7] at ht
  split at ht
  case h_2=>cases ht
  case h_1 fs he =>
  simp only [Bool.and_eq_true,decide_eq_true_eq] at ht
  obtain ⟨h1,h2⟩:=ht
  obtain ⟨xs,n,-,-,hl,hxl,hf⟩:=DataW.trod_struct he hx
  obtain ⟨ys,s1,s2,s3⟩:=ih.2 0 fs.toList h2 n cs fun i f hfi=>by
   have hfi':fs[i]? = some f:=by simpa using hfi
   have hi:i < fs.size:=(Array.getElem?_eq_some_iff.1 hfi').1
   exact ⟨xs[i]'(by omega),by rw [hf i f hfi'];exact List.getElem?_eq_getElem _⟩
  exact ⟨ys,s1,s2,by rw [hl,h1,s2],s3.imp (fun _ _ h=>h) fun j u hu=>by simpa using hu⟩
 | arr k n =>
  refine ⟨fun t ht fuel cs x hx=>?_,fun off fs h=>by cases h⟩
  simp only [Ao7] at ht
  split at ht
  case h_2=>cases ht
  case h_1 n' e he =>
  simp only [Bool.and_eq_true,decide_eq_true_eq] at ht
  obtain ⟨⟨⟨h1,h2⟩,h3⟩,h4⟩:=ht
  subst h1
  split at h4
  case h_2=>cases h4
  case h_1 k' hk' =>
  obtain rfl:=of_decide_eq_true h4
  obtain ⟨xs,m,-,-,hcl,hn,hel⟩:=DataW.trod_array he hx
  have hget:∀ i,i < n'→∃ z:Int,cs[i]? = some (.int k z)∧(Lit.int k z).wf=true:=fun i hi=>by
   have h0:=hel i hi
   rw [h3,Nat.mul_one] at h0
   obtain ⟨y,hy⟩:∃ y,xs[i]? = some y:=⟨xs[i]'(by omega),List.getElem?_eq_getElem _⟩
   rw [hy] at h0
   obtain ⟨z,e1,-,e3⟩:=DataW.trod_int hk' h0
   refine ⟨z,?_,e3⟩
   have h5:((cs.drop i).take 1)[0]? = some (.int k z):=by rw [e1];rfl
   rwa [List.getElem?_take,if_pos (by omega),List.getElem?_drop,Nat.add_zero] at h5
  obtain ⟨l,hl,hp⟩:=AX2 n' hget
  refine ⟨l.map (AV.int k),⟨l,rfl,hl,fun x hx=>?_⟩,by simp [hl,Ty.size],by rw [hcl,h2];simp [hl],fun j y hy=>?_⟩
  ·obtain ⟨i,hi⟩:=List.mem_iff_getElem?.1 hx
   exact (hp i x hi).2
  ·rw [List.getElem?_map] at hy
   obtain ⟨z,hz,rfl⟩:=Option.map_eq_some_iff.1 hy
   exact ⟨_,(hp j z hz).1,RR_int.2 rfl,one_int⟩
def argV:Ty→List AV→AV
 | .struct _,xs=>.agg xs
 | .arr _ _,xs=>.agg xs
 | _,x::_=>x
 | _,[]=>.undef
theorem Ax9 {T:Ty} {xs:List AV} {v:Value} (hx:xs.length=1) (hv:v.cells.toList=[v]) (h:RC1 (RR (AJ8 W)) xs fun j=>v.cells.toList[j]?):∃ x,xs=[x]∧RR (AJ8 W) x v:=by
 match xs,hx with
 | [x],_ =>
  obtain ⟨u,hu,hr,-⟩:=h 0 x rfl
  rw [hv] at hu
  cases hu
  exact ⟨x,rfl,hr⟩
theorem arg_rr {T:Ty} {t:TypeId} {v:Value} {r:Reach} {base:Nat} {d:DataW H} {p:List MemPlace} (hT:(Ao7 P T).1 t=true) (hval:Value.okWide P W r base t v) (hd:DataW.Trod enc P W 0 spare held t v d p):∃ xs,Shp T xs∧RR (AJ8 W) (argV T xs) v:=by
 obtain ⟨fuel,hf⟩:=hd
 obtain ⟨xs,s1,s2,s3,s4⟩:=(read_all T).1 t hT fuel _ _ hf
 refine ⟨xs,s1,?_⟩
 cases T with
 | nil=>cases hT
 | cons a b=>cases hT
 | bool =>
  simp only [Ao7] at hT
  split at hT
  case h_2=>cases hT
  case h_1 he =>
  obtain ⟨b,rfl⟩:=okWide_bool he hval
  obtain ⟨x,rfl,hr⟩:=Ax9 (T:=.bool) s2 rfl s4
  exact hr
 | int k =>
  simp only [Ao7] at hT
  split at hT
  case h_2=>cases hT
  case h_1 k' he =>
  obtain ⟨b,rfl⟩:=okWide_int he hval
  obtain ⟨x,rfl,hr⟩:=Ax9 (T:=.bool) s2 rfl s4
  exact hr
 | str =>
  simp only [Ao7] at hT
  split at hT
  case h_2=>cases hT
  case h_1 he =>
  obtain ⟨b,rfl⟩:=okWide_string he hval
  obtain ⟨x,rfl,hr⟩:=Ax9 (T:=.bool) s2 rfl s4
  exact hr
 | slice e =>
  simp only [Ao7] at hT
  split at hT
  case h_2=>cases hT
  case h_1 k' he =>
  obtain ⟨a,l,c,rfl⟩:=okWide_slice he hval
  obtain ⟨x,rfl,hr⟩:=Ax9 (T:=.bool) s2 rfl s4
  exact hr
 | struct T =>
  simp only [Ao7] at hT
  split at hT
  case h_2=>cases hT
  case h_1 fs he =>
  obtain ⟨cs,rfl,hcs⟩:=okWide_struct he hval
  exact AB3.2 ⟨cs,rfl,by simpa [Value.cells] using s3,s4.imp (fun _ _ h=>h) fun j u hu=>by simpa [Value.cells] using hu⟩
 | arr k n =>
  simp only [Ao7] at hT
  split at hT
  case h_2=>cases hT
  case h_1 n' e he =>
  have hcs:∃ cs,v = .agg cs∧cs.size=P.cellsOf t:=by
   simp only [Value.okWide,he] at hval
   obtain ⟨cs,h1,h2,_⟩:=hval
   exact ⟨cs,h1,h2⟩
  obtain ⟨cs,rfl,hcs⟩:=hcs
  exact AB3.2 ⟨cs,rfl,by simpa [Value.cells] using s3,s4.imp (fun _ _ h=>h) fun j u hu=>by simpa [Value.cells] using hu⟩
def BV5:List Ty→List (List AV)→Prop
 | [],[]=>True
 | T::Ts,xs::r=>Shp T xs∧BV5 Ts r
 | _,_=>False
def tysOk (P:Program):List Ty→List TypeId→Bool
 | [],[]=>true
 | T::Ts,t::ts=>(Ao7 P T).1 t && tysOk P Ts ts
 | _,_=>false
def argVs:List Ty→List (List AV)→List AV
 | T::Ts,xs::r=>argV T xs::argVs Ts r
 | _, _ => []
theorem args_rr {r:Reach} {base:Nat}:∀ {Ts:List Ty} {ts:List TypeId} {vs:List Value} {ds:List (DataW H)} {ps:List MemPlace},tysOk P Ts ts=true→(∀ (j:Nat) t v,ts[j]? = some t→vs[j]? = some v→Value.okWide P W r base t v) →
  DataW.TrodAll enc P W 0 spare held ts vs ds ps→∃ xss,BV5 Ts xss∧vs.length=(argVs Ts xss).length∧RCs (RR (AJ8 W)) (argVs Ts xss) fun j=>vs[j]?
 | [],[],vs,ds,ps,_,_,hd=>by
  obtain ⟨rfl,rfl,rfl⟩:=trodAll_nil hd
  exact ⟨[],trivial,rfl,fun j x hx=>by cases hx⟩
 | T::Ts,t::ts,vs,ds,ps,hT,hv,hd=>by
  obtain ⟨v,vs',d,ds',p,q,rfl,rfl,rfl,h1,h2⟩:=trodAll_cons hd
  simp only [tysOk,Bool.and_eq_true] at hT
  obtain ⟨xs,s1,s2⟩:=arg_rr hT.1 (hv 0 t v rfl rfl) h1
  obtain ⟨xss,r1,r2,r3⟩:=args_rr hT.2 (fun j t v h h'=>hv (j+1) t v h h') h2
  refine ⟨xs::xss,⟨s1,r1⟩,by simp [argVs,r2],fun j x hx=>?_⟩
  cases j with
  | zero=>cases hx;exact ⟨v,rfl,s2⟩
  | succ j=>exact r3 j x hx
theorem BF8 (hl:laidOutB P=true) {W':World} (hb:Below W.heap.size W W') {sp:Nat→Bool}:∀ {ts:List TypeId} {vs:List Value} {ds:List (DataW H)} {ps:List MemPlace},(∀ t ∈ ts,P.readableRec t=true∧t < P.types.size) →
  DataW.TrodAll enc P W 0 (fun _=>true) true ts vs ds ps→(∀ x ∈ ps,x.block < W.heap.size)→(∀ x ∈ ps,sp x.block=true)→DataW.TrodAll enc P W' 0 sp true ts vs ds ps
 | [],vs,ds,ps,_,hd,_,_=>by
  obtain ⟨rfl,rfl,rfl⟩:=trodAll_nil hd
  rfl
 | t::ts,vs,ds,ps,ht,hd,hlt,hsp=>by
  obtain ⟨v,vs',d,ds',p,q,rfl,rfl,rfl,h1,h2⟩:=trodAll_cons hd
  have ht0:=ht t (by simp)
  exact ⟨p,q,WideElems.Trod_stays hl ht0.1 ht0.2 h1 (fun x hx=>hb.same (hlt x (by simp [hx]))) (fun x hx=>hsp x (by simp [hx])),BF8 hl hb (fun t' h'=>ht t' (by simp [h'])) h2 (fun x hx=>hlt x (by simp [hx])) (fun x hx=>hsp x (by simp [hx])),rfl⟩
end
end Go.Am
namespace Go.Proofs.YtbhgfoikbkaohaaGreat
open Go Go.Am Go.Pol
open Go.ChangeShapes Go.WideShapes Go.ChangeAt Go.WideElems Go.RowKit
theorem own:ownKnob Tryz.prog.godebug=none:=by kernel_rfl
theorem glo (c:Cx):AT9 G0 c:=fun n cs h=>by cases h
theorem map_of {α:Type} {f:α→List AV} {q:α→Prop}:∀ {els:List (List AV)},(∀ el ∈ els,∃ c,el=f c∧q c)→∃ l:List α,els=l.map f∧∀ c ∈ l,q c
 | [],_=>⟨[],rfl,fun c hc=>by cases hc⟩
 | el::els,h=>by
  obtain ⟨c,rfl,hq⟩:=h el (List.mem_cons_self ..)
  obtain ⟨l,rfl,hl⟩:=map_of fun e he=>h e (List.mem_cons_of_mem _ he)
  exact ⟨c::l,rfl,fun d hd=>(List.mem_cons.1 hd).elim (fun e=>e▸hq) (hl d)⟩
theorem wf_u8 {n:Int} (h:(Lit.int .u8 n).wf=true):∃ m:Nat,n=(m:Int)∧m < 256:=by
 simp [Lit.wf,IntKind.min,IntKind.max,IntKind.signed,IntKind.bits] at h
 exact ⟨n.toNat,by omega,by omega⟩
theorem wf_i64 {n:Int} (h:(Lit.int .i64 n).wf=true):-9223372036854775808≤n∧n≤9223372036854775807:=by
 simp [Lit.wf,IntKind.min,IntKind.max,IntKind.signed,IntKind.bits] at h
 omega
def i64 (n:Int):Prop:=-9223372036854775808≤n∧n≤9223372036854775807
theorem shp_one {T:Ty}:∀ {xss:List (List AV)},BV5 [T] xss→∃ xs,xss=[xs]∧Shp T xs
 | [xs],h=>⟨xs,rfl,h.1⟩
 | [],h=>h.elim
 | _::_::_,h=>h.2.elim
def rlT:Ty:=.struct (.cons (.int .i64) (.cons (.int .i64) (.cons (.int .i64) (.cons (.int .i64) .nil))))
def planT:Ty:=.struct (.cons (.slice rlT) .nil)
def actT:Ty:=.struct (.cons (.int .u8) (.cons (.int .i64) (.cons (.int .i64) (.cons (.int .i64) (.cons (.int .u8) (.cons planT .nil))))))
def playT:Ty:=.struct (.cons (.int .i64) (.cons (.int .i64) (.cons (.int .i64) (.cons (.int .i64) (.cons planT (.cons (.slice actT) .nil))))))
def okA (x:SAc):Prop:=0≤x.w∧0≤x.v∧x.v < 256
theorem shp_rl {xs:List AV} (h:Shp rlT xs):∃ x:Rl,xs=rlA x:=by
 obtain ⟨y1,z1,rfl,⟨a,rfl,-⟩,y2,z2,rfl,⟨b,rfl,-⟩,y3,z3,rfl,⟨c,rfl,-⟩,y4,z4,rfl,⟨d,rfl,-⟩,rfl⟩:=h
 exact ⟨⟨a,b,c,d⟩,rfl⟩
theorem BP0 {xs:List AV} (h:Shp planT xs):∃ l:List Rl,xs=[AV.isl (l.map rlA)]:=by
 obtain ⟨y1,z1,rfl,⟨els,rfl,hl,he⟩,rfl⟩:=h
 obtain ⟨l,rfl,-⟩:=map_of (f:=rlA) (q:=fun _=>True) fun el hel=>(shp_rl (he el hel)).imp fun _ h=>⟨h,trivial⟩
 exact ⟨l,rfl⟩
theorem shp_act {xs:List AV} (h:Shp actT xs):∃ x:SAc,xs=Aj3 x∧okA x:=by
 obtain ⟨y1,z1,rfl,⟨w,rfl,hw⟩,y2,z2,rfl,⟨p,rfl,-⟩,y3,z3,rfl,⟨n,rfl,-⟩,y4,z4,rfl,⟨t,rfl,-⟩,y5,z5,rfl,⟨b,rfl,hb⟩,y6,z6,rfl,h6,rfl⟩:=h
 obtain ⟨m,rfl,hm⟩:=wf_u8 hw
 obtain ⟨v,rfl,hv⟩:=wf_u8 hb
 obtain ⟨l,rfl⟩:=BP0 h6
 exact ⟨⟨(m:Nat),p,n,t,(v:Nat),l⟩,rfl,Int.natCast_nonneg m,Int.natCast_nonneg v,by show ((v:Nat):Int) < 256;omega⟩
theorem shp_play {xs:List AV} (h:Shp playT xs):∃ p:SPy,xs=BG3 p∧p.X.length≤maxLen∧(∀ x ∈ p.X,okA x)∧i64 p.n:=by
 obtain ⟨y1,z1,rfl,⟨a,rfl,-⟩,y2,z2,rfl,⟨n,rfl,hn⟩,y3,z3,rfl,⟨pg,rfl,-⟩,y4,z4,rfl,⟨sl,rfl,-⟩,y5,z5,rfl,h5,y6,z6,rfl,⟨els,rfl,hl,he⟩,rfl⟩:=h
 obtain ⟨l,rfl⟩:=BP0 h5
 obtain ⟨X,rfl,hq⟩:=map_of (f:=Aj3) (q:=okA) fun el hel=>shp_act (he el hel)
 exact ⟨⟨a,n,pg,sl,l,X⟩,rfl,by rw [List.length_map] at hl;exact hl,hq,wf_i64 hn⟩
end Go.Proofs.YtbhgfoikbkaohaaGreat
