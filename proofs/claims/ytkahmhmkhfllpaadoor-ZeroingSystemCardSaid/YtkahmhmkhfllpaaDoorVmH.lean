/-
 Save of the document: a run goes on.
 Save of the document: a run goes on.
 Save of the document: a run goes on.
 Save of the document: a run goes on.
 Save of the document.
-/
import Derived.Test.YtkahmhmkhfllpaaDoorVmG
set_option linter.unusedSimpArgs false
set_option linter.unusedVariables false
namespace Go.Proofs.YtkahmhmkhfllpaaDoor
open Go Go.Am Go.Pol
section
variable {s:Sy} {o:Nat} {ho:o=66624} {hlen:s.l.length≤100000} {p:Nat}
set_option maxHeartbeats 1600000 in
theorem rd_bmp_00 (hp4:p < 1024) (h0:¬ s.K p=0) (hb:0 < p∧s.K (p - 1)=s.K p) (hu:¬ (p % 16=0∧s.G (p / 16)=true)) (hd:¬ (s.K p=2∧¬ zeroB (s.B p))):(skel s o ho hlen).1 p:=by
 have hL0:=runs_len (K:=s.K) (n:=p)
 have hL1:=huge_len (G:=s.G) (n:=p)
 have hL2:=data_len (B:=s.B2) (n:=p)
 have hst:=rfk_planO (K:=s.K) (G:=s.G) (B:=s.B) ho (stA_len (l:=s.l) (C:=s.C) (H:=s.H))
 have hru:=rfk_rules (K:=s.K) (G:=s.G) (B:=s.B) (l:=s.l) (C:=s.C) (H:=s.H) ho
 have hk:(refK s.K s.G s.B (stA s.l s.C s.H))[p]? = some (.int .i64 (s.K p)):=rfk_kind hp4
 have hh:(refK s.K s.G s.B (stA s.l s.C s.H))[1024+p / 16]? = some (.bool (s.G (p / 16))):=rfk_huge (by omega)
 have hw16:=quo16 (q:=p) (by omega)
 have ht16:((p:Nat):Int).tmod 16=((p % 16:Nat):Int):=by rw [Int.tmod_eq_emod_of_nonneg (by omega)];omega
 have hby:=rfk_bytes (K:=s.K) (G:=s.G) (B:=s.B) (P:=stA s.l s.C s.H) hp4
 have hyl:=by_len (s.B p)
 have hyz:=eqL_by (s.B p)
 generalize hy:byA (s.B p)=y at hby hyl hyz
 obtain ⟨L,r,hR,er⟩:∃ (L:List Rn) (r:Rn),runsTo s.K p=L++[r]∧r.n≤(p:Nat)∧1≤r.n:=by
  obtain ⟨L,m,e,m1,m2⟩:=runs_last (K:=s.K) hb.1 (by rw [hb.2];exact h0)
  exact ⟨L,_,e,by dsimp only;omega,by dsimp only;omega⟩
 have e0:runsTo s.K (p+1)=L++[⟨r.p,r.n+1,r.k⟩]:=by
  show (if s.K p=0 then _ else if 0 < p∧s.K (p - 1)=s.K p then bumpV (runsTo s.K p) else _)=_
  rw [if_neg h0,if_pos hb,hR,bump_app]
 have hk1:(refK s.K s.G s.B (stA s.l s.C s.H))[(((p:Nat):Int) - 1).toNat]? = some (.int .i64 (s.K (p - 1))):=by rw [show (((p:Nat):Int) - 1).toNat=p - 1 by omega];exact rfk_kind (by omega)
 have hp1:IntKind.i64.wrap (((p:Nat):Int) - 1)=((p - 1:Nat):Int):=by rw [IntWalk.i64_in _ ⟨by omega,by omega⟩];omega
 have hlL:(L++[r]).length=L.length+1:=by simp
 rw [hR,hlL] at hL0
 have hn0:L.length+1 ≠ 0:=by omega
 have hn1:(L++[r]).length ≠ 0:=by omega
 have hix:(((L.length+1:Nat):Int) - 1).toNat=L.length:=by omega
 have hg:(flat rnA (L++[r]))[(((L.length+1:Nat):Int) - 1).toNat * 3+1]? = some (.int .i64 r.n):=by rw [hix];exact last_get rfl
 have hs:(flat rnA (L++[r])).set ((((L.length+1:Nat):Int) - 1).toNat * 3+1) (.int .i64 (r.n+1))=flat rnA (L++[⟨r.p,r.n+1,r.k⟩]):=by rw [hix];exact last_set rfl
 have hfl:(flat rnA (L++[r])).length=(L.length+1) * 3:=by rw [flat_len3,hlL]
 rw [hb.2] at hk1
 have e1:hugeTo s.G (p+1)=hugeTo s.G p:=if_neg hu
 have e2:=data_no hd
 unfold skel
 dsimp only
 rw [hR,hlL,own_s hn0,ownH_s hn1]
 (refine wtk ?_;repeat' (first|with_reducible refine And.intro ?_ ?_|intro hsp))
 all_goals first|(exfalso;exact hu ⟨(by first|omega|fail),(by first|assumption|fail)⟩)|skip
 all_goals first|(exfalso;exact hd ⟨(by first|assumption|fail),(by first|assumption|fail)⟩)|skip
 all_goals first|(exfalso;omega)|skip
 all_goals exact next_x (p+1) [] (by (try dsimp only);omega) (by first|omega|(dsimp only;omega)) rfl (by ((try dsimp only);rw [e0,e1,e2]);exact wkx_Tk)
end
end Go.Proofs.YtkahmhmkhfllpaaDoor
namespace Go.Proofs.YtkahmhmkhfllpaaDoor
open Go Go.Am Go.Pol
section
variable {s:Sy} {o:Nat} {ho:o=66624} {hlen:s.l.length≤100000} {p:Nat}
set_option maxHeartbeats 1600000 in
theorem rd_bmp_01 (hp4:p < 1024) (h0:¬ s.K p=0) (hb:0 < p∧s.K (p - 1)=s.K p) (hu:¬ (p % 16=0∧s.G (p / 16)=true)) (hd:s.K p=2∧¬ zeroB (s.B p)):(skel s o ho hlen).1 p:=by
 have hL0:=runs_len (K:=s.K) (n:=p)
 have hL1:=huge_len (G:=s.G) (n:=p)
 have hL2:=data_len (B:=s.B2) (n:=p)
 have hst:=rfk_planO (K:=s.K) (G:=s.G) (B:=s.B) ho (stA_len (l:=s.l) (C:=s.C) (H:=s.H))
 have hru:=rfk_rules (K:=s.K) (G:=s.G) (B:=s.B) (l:=s.l) (C:=s.C) (H:=s.H) ho
 have hk:(refK s.K s.G s.B (stA s.l s.C s.H))[p]? = some (.int .i64 (s.K p)):=rfk_kind hp4
 have hh:(refK s.K s.G s.B (stA s.l s.C s.H))[1024+p / 16]? = some (.bool (s.G (p / 16))):=rfk_huge (by omega)
 have hw16:=quo16 (q:=p) (by omega)
 have ht16:((p:Nat):Int).tmod 16=((p % 16:Nat):Int):=by rw [Int.tmod_eq_emod_of_nonneg (by omega)];omega
 have hby:=rfk_bytes (K:=s.K) (G:=s.G) (B:=s.B) (P:=stA s.l s.C s.H) hp4
 have hyl:=by_len (s.B p)
 have hyz:=eqL_by (s.B p)
 generalize hy:byA (s.B p)=y at hby hyl hyz
 obtain ⟨L,r,hR,er⟩:∃ (L:List Rn) (r:Rn),runsTo s.K p=L++[r]∧r.n≤(p:Nat)∧1≤r.n:=by
  obtain ⟨L,m,e,m1,m2⟩:=runs_last (K:=s.K) hb.1 (by rw [hb.2];exact h0)
  exact ⟨L,_,e,by dsimp only;omega,by dsimp only;omega⟩
 have e0:runsTo s.K (p+1)=L++[⟨r.p,r.n+1,r.k⟩]:=by
  show (if s.K p=0 then _ else if 0 < p∧s.K (p - 1)=s.K p then bumpV (runsTo s.K p) else _)=_
  rw [if_neg h0,if_pos hb,hR,bump_app]
 have hk1:(refK s.K s.G s.B (stA s.l s.C s.H))[(((p:Nat):Int) - 1).toNat]? = some (.int .i64 (s.K (p - 1))):=by rw [show (((p:Nat):Int) - 1).toNat=p - 1 by omega];exact rfk_kind (by omega)
 have hp1:IntKind.i64.wrap (((p:Nat):Int) - 1)=((p - 1:Nat):Int):=by rw [IntWalk.i64_in _ ⟨by omega,by omega⟩];omega
 have hlL:(L++[r]).length=L.length+1:=by simp
 rw [hR,hlL] at hL0
 have hn0:L.length+1 ≠ 0:=by omega
 have hn1:(L++[r]).length ≠ 0:=by omega
 have hix:(((L.length+1:Nat):Int) - 1).toNat=L.length:=by omega
 have hg:(flat rnA (L++[r]))[(((L.length+1:Nat):Int) - 1).toNat * 3+1]? = some (.int .i64 r.n):=by rw [hix];exact last_get rfl
 have hs:(flat rnA (L++[r])).set ((((L.length+1:Nat):Int) - 1).toNat * 3+1) (.int .i64 (r.n+1))=flat rnA (L++[⟨r.p,r.n+1,r.k⟩]):=by rw [hix];exact last_set rfl
 have hfl:(flat rnA (L++[r])).length=(L.length+1) * 3:=by rw [flat_len3,hlL]
 rw [hb.2] at hk1
 have e1:hugeTo s.G (p+1)=hugeTo s.G p:=if_neg hu
 have e2:=data_yes hd
 obtain ⟨hd1,hd2⟩:=hd
 unfold skel
 dsimp only
 rw [hR,hlL,own_s hn0,ownH_s hn1]
 (refine wtk ?_;repeat' (first|with_reducible refine And.intro ?_ ?_|intro hsp))
 all_goals first|(exfalso;exact hu ⟨(by first|omega|fail),(by first|assumption|fail)⟩)|skip
 all_goals first|(exfalso;omega)|skip
 all_goals exact next_x (p+1) [(12,42)] (by (try dsimp only);omega) (by first|omega|(dsimp only;omega)) rfl (by ((try dsimp only);rw [e0,e1,e2]);exact wkx_Tk)
end
end Go.Proofs.YtkahmhmkhfllpaaDoor
namespace Go.Proofs.YtkahmhmkhfllpaaDoor
open Go Go.Am Go.Pol
section
variable {s:Sy} {o:Nat} {ho:o=66624} {hlen:s.l.length≤100000} {p:Nat}
set_option maxHeartbeats 1600000 in
theorem rd_bmp_10 (hp4:p < 1024) (h0:¬ s.K p=0) (hb:0 < p∧s.K (p - 1)=s.K p) (hu:p % 16=0∧s.G (p / 16)=true) (hd:¬ (s.K p=2∧¬ zeroB (s.B p))):(skel s o ho hlen).1 p:=by
 have hL0:=runs_len (K:=s.K) (n:=p)
 have hL1:=huge_len (G:=s.G) (n:=p)
 have hL2:=data_len (B:=s.B2) (n:=p)
 have hst:=rfk_planO (K:=s.K) (G:=s.G) (B:=s.B) ho (stA_len (l:=s.l) (C:=s.C) (H:=s.H))
 have hru:=rfk_rules (K:=s.K) (G:=s.G) (B:=s.B) (l:=s.l) (C:=s.C) (H:=s.H) ho
 have hk:(refK s.K s.G s.B (stA s.l s.C s.H))[p]? = some (.int .i64 (s.K p)):=rfk_kind hp4
 have hh:(refK s.K s.G s.B (stA s.l s.C s.H))[1024+p / 16]? = some (.bool (s.G (p / 16))):=rfk_huge (by omega)
 have hw16:=quo16 (q:=p) (by omega)
 have ht16:((p:Nat):Int).tmod 16=((p % 16:Nat):Int):=by rw [Int.tmod_eq_emod_of_nonneg (by omega)];omega
 have hby:=rfk_bytes (K:=s.K) (G:=s.G) (B:=s.B) (P:=stA s.l s.C s.H) hp4
 have hyl:=by_len (s.B p)
 have hyz:=eqL_by (s.B p)
 generalize hy:byA (s.B p)=y at hby hyl hyz
 obtain ⟨L,r,hR,er⟩:∃ (L:List Rn) (r:Rn),runsTo s.K p=L++[r]∧r.n≤(p:Nat)∧1≤r.n:=by
  obtain ⟨L,m,e,m1,m2⟩:=runs_last (K:=s.K) hb.1 (by rw [hb.2];exact h0)
  exact ⟨L,_,e,by dsimp only;omega,by dsimp only;omega⟩
 have e0:runsTo s.K (p+1)=L++[⟨r.p,r.n+1,r.k⟩]:=by
  show (if s.K p=0 then _ else if 0 < p∧s.K (p - 1)=s.K p then bumpV (runsTo s.K p) else _)=_
  rw [if_neg h0,if_pos hb,hR,bump_app]
 have hk1:(refK s.K s.G s.B (stA s.l s.C s.H))[(((p:Nat):Int) - 1).toNat]? = some (.int .i64 (s.K (p - 1))):=by rw [show (((p:Nat):Int) - 1).toNat=p - 1 by omega];exact rfk_kind (by omega)
 have hp1:IntKind.i64.wrap (((p:Nat):Int) - 1)=((p - 1:Nat):Int):=by rw [IntWalk.i64_in _ ⟨by omega,by omega⟩];omega
 have hlL:(L++[r]).length=L.length+1:=by simp
 rw [hR,hlL] at hL0
 have hn0:L.length+1 ≠ 0:=by omega
 have hn1:(L++[r]).length ≠ 0:=by omega
 have hix:(((L.length+1:Nat):Int) - 1).toNat=L.length:=by omega
 have hg:(flat rnA (L++[r]))[(((L.length+1:Nat):Int) - 1).toNat * 3+1]? = some (.int .i64 r.n):=by rw [hix];exact last_get rfl
 have hs:(flat rnA (L++[r])).set ((((L.length+1:Nat):Int) - 1).toNat * 3+1) (.int .i64 (r.n+1))=flat rnA (L++[⟨r.p,r.n+1,r.k⟩]):=by rw [hix];exact last_set rfl
 have hfl:(flat rnA (L++[r])).length=(L.length+1) * 3:=by rw [flat_len3,hlL]
 rw [hb.2] at hk1
 have e1:hugeTo s.G (p+1)=hugeTo s.G p++[((p:Nat):Int)]:=if_pos hu
 rw [hu.2] at hh
 have e2:=data_no hd
 unfold skel
 dsimp only
 rw [hR,hlL,own_s hn0,ownH_s hn1]
 (refine wtk ?_;repeat' (first|with_reducible refine And.intro ?_ ?_|intro hsp))
 all_goals first|(exfalso;exact hd ⟨(by first|assumption|fail),(by first|assumption|fail)⟩)|skip
 all_goals first|(exfalso;omega)|skip
 all_goals exact next_x (p+1) [(11,32)] (by (try dsimp only);omega) (by first|omega|(dsimp only;omega)) rfl (by ((try dsimp only);rw [e0,e1,e2]);exact wkx_Tk)
end
end Go.Proofs.YtkahmhmkhfllpaaDoor
namespace Go.Proofs.YtkahmhmkhfllpaaDoor
open Go Go.Am Go.Pol
section
variable {s:Sy} {o:Nat} {ho:o=66624} {hlen:s.l.length≤100000} {p:Nat}
set_option maxHeartbeats 1600000 in
theorem rd_bmp_11 (hp4:p < 1024) (h0:¬ s.K p=0) (hb:0 < p∧s.K (p - 1)=s.K p) (hu:p % 16=0∧s.G (p / 16)=true) (hd:s.K p=2∧¬ zeroB (s.B p)):(skel s o ho hlen).1 p:=by
 have hL0:=runs_len (K:=s.K) (n:=p)
 have hL1:=huge_len (G:=s.G) (n:=p)
 have hL2:=data_len (B:=s.B2) (n:=p)
 have hst:=rfk_planO (K:=s.K) (G:=s.G) (B:=s.B) ho (stA_len (l:=s.l) (C:=s.C) (H:=s.H))
 have hru:=rfk_rules (K:=s.K) (G:=s.G) (B:=s.B) (l:=s.l) (C:=s.C) (H:=s.H) ho
 have hk:(refK s.K s.G s.B (stA s.l s.C s.H))[p]? = some (.int .i64 (s.K p)):=rfk_kind hp4
 have hh:(refK s.K s.G s.B (stA s.l s.C s.H))[1024+p / 16]? = some (.bool (s.G (p / 16))):=rfk_huge (by omega)
 have hw16:=quo16 (q:=p) (by omega)
 have ht16:((p:Nat):Int).tmod 16=((p % 16:Nat):Int):=by rw [Int.tmod_eq_emod_of_nonneg (by omega)];omega
 have hby:=rfk_bytes (K:=s.K) (G:=s.G) (B:=s.B) (P:=stA s.l s.C s.H) hp4
 have hyl:=by_len (s.B p)
 have hyz:=eqL_by (s.B p)
 generalize hy:byA (s.B p)=y at hby hyl hyz
 obtain ⟨L,r,hR,er⟩:∃ (L:List Rn) (r:Rn),runsTo s.K p=L++[r]∧r.n≤(p:Nat)∧1≤r.n:=by
  obtain ⟨L,m,e,m1,m2⟩:=runs_last (K:=s.K) hb.1 (by rw [hb.2];exact h0)
  exact ⟨L,_,e,by dsimp only;omega,by dsimp only;omega⟩
 have e0:runsTo s.K (p+1)=L++[⟨r.p,r.n+1,r.k⟩]:=by
  show (if s.K p=0 then _ else if 0 < p∧s.K (p - 1)=s.K p then bumpV (runsTo s.K p) else _)=_
  rw [if_neg h0,if_pos hb,hR,bump_app]
 have hk1:(refK s.K s.G s.B (stA s.l s.C s.H))[(((p:Nat):Int) - 1).toNat]? = some (.int .i64 (s.K (p - 1))):=by rw [show (((p:Nat):Int) - 1).toNat=p - 1 by omega];exact rfk_kind (by omega)
 have hp1:IntKind.i64.wrap (((p:Nat):Int) - 1)=((p - 1:Nat):Int):=by rw [IntWalk.i64_in _ ⟨by omega,by omega⟩];omega
 have hlL:(L++[r]).length=L.length+1:=by simp
 rw [hR,hlL] at hL0
 have hn0:L.length+1 ≠ 0:=by omega
 have hn1:(L++[r]).length ≠ 0:=by omega
 have hix:(((L.length+1:Nat):Int) - 1).toNat=L.length:=by omega
 have hg:(flat rnA (L++[r]))[(((L.length+1:Nat):Int) - 1).toNat * 3+1]? = some (.int .i64 r.n):=by rw [hix];exact last_get rfl
 have hs:(flat rnA (L++[r])).set ((((L.length+1:Nat):Int) - 1).toNat * 3+1) (.int .i64 (r.n+1))=flat rnA (L++[⟨r.p,r.n+1,r.k⟩]):=by rw [hix];exact last_set rfl
 have hfl:(flat rnA (L++[r])).length=(L.length+1) * 3:=by rw [flat_len3,hlL]
 rw [hb.2] at hk1
 have e1:hugeTo s.G (p+1)=hugeTo s.G p++[((p:Nat):Int)]:=if_pos hu
 rw [hu.2] at hh
 have e2:=data_yes hd
 obtain ⟨hd1,hd2⟩:=hd
 unfold skel
 dsimp only
 rw [hR,hlL,own_s hn0,ownH_s hn1]
 (refine wtk ?_;repeat' (first|with_reducible refine And.intro ?_ ?_|intro hsp))
 all_goals first|(exfalso;omega)|skip
 all_goals exact next_x (p+1) [(11,32),(12,44)] (by (try dsimp only);omega) (by first|omega|(dsimp only;omega)) rfl (by ((try dsimp only);rw [e0,e1,e2]);exact wkx_Tk)
end
end Go.Proofs.YtkahmhmkhfllpaaDoor
namespace Go.Proofs.YtkahmhmkhfllpaaDoor
open Go Go.Am Go.Pol
section
variable {s:Sy} {o:Nat} {ho:o=66624} {hlen:s.l.length≤100000} {p:Nat}
theorem q_saveR (hlen:s.l.length≤100000):LocS 15 [] s.b (.agg (vsA s.saveR)) s.b:=(skel s 66624 rfl hlen).2 fun p hp =>
 if hp4:p < 1024 then
  if h0:s.K p=0 then
   if hu:p % 16=0∧s.G (p / 16)=true then rd_free_h hp4 h0 hu else rd_free hp4 h0 hu
  else if hb:0 < p∧s.K (p - 1)=s.K p then
   if hu:p % 16=0∧s.G (p / 16)=true then
    if hd:s.K p=2∧¬ zeroB (s.B p) then rd_bmp_11 hp4 h0 hb hu hd else rd_bmp_10 hp4 h0 hb hu hd
   else
    if hd:s.K p=2∧¬ zeroB (s.B p) then rd_bmp_01 hp4 h0 hb hu hd else rd_bmp_00 hp4 h0 hb hu hd
  else if hp0:0 < p then
   if hu:p % 16=0∧s.G (p / 16)=true then
    if hd:s.K p=2∧¬ zeroB (s.B p) then rd_new_11 hp4 hp0 h0 hb hu hd else rd_new_10 hp4 hp0 h0 hb hu hd
   else
    if hd:s.K p=2∧¬ zeroB (s.B p) then rd_new_01 hp4 hp0 h0 hb hu hd else rd_new_00 hp4 hp0 h0 hb hu hd
  else
   if hu:p % 16=0∧s.G (p / 16)=true then
    if hd:s.K p=2∧¬ zeroB (s.B p) then rd_nul_11 hp4 hp0 h0 hb hu hd else rd_nul_10 hp4 hp0 h0 hb hu hd
   else
    if hd:s.K p=2∧¬ zeroB (s.B p) then rd_nul_01 hp4 hp0 h0 hb hu hd else rd_nul_00 hp4 hp0 h0 hb hu hd
 else rd_end (by omega)
theorem q_save (hg:GoodS s):LocS 15 [] s.b (.agg (vsA s.save)) s.b:=by
 have e:s.saveR=s.save:=saveR_eq ⟨hg.kind,hg.huge,hg.zero,hg.cK,hg.cB⟩
 rw [← e]
 exact q_saveR (by have:=(chkS_ok hg.hv).2.1;omega)
end
end Go.Proofs.YtkahmhmkhfllpaaDoor
