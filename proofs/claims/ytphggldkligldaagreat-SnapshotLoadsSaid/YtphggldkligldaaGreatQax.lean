/-
 Save of the document.
 Save of the document: its end,and free pages.
 Save of the document: a new run.
 Save of the document: a new run.
 Save of the document: a new run.
 Save of the document: a new run.
 Save of the document: a run at page 0.
 Save of the document: a run at page 0.
 Save of the document: a run at page 0.
 Save of the document: a run at page 0.
 Save of the document: a run goes on.
 Save of the document: a run goes on.
 Save of the document: a run goes on.
 Save of the document: a run goes on.
 Save of the document.
 A step of both books: Unmap Map Take.
 A step of both books: Drop Revert Write.
 A step of both books: Read Differ.
 A step of both books: Plan Load.
 A step of both books,whatever the call;the beginning of the document's book.
-/
import Derived.Test.YtphggldkligldaaGreatQaw
set_option linter.unusedSimpArgs false
set_option linter.unusedVariables false
set_option maxHeartbeats 6400000
namespace Go.Pol
open Go.Am
def Sy.B2 (s:Sy) (p:Nat):Nat→Int:=if s.K p=2 then s.B p else fun _=>0
theorem saveR_B2 {s:Sy}:s.saveR=⟨I8 s.K 1024,R5 s.G 1024,AH5 s.B2 1024,s.l,s.C,s.H⟩:=rfl
theorem AV4 {s:Sy} {p:Nat} (h:¬ (s.K p=2∧¬ x9 (s.B p))):AH5 s.B2 (p+1)=AH5 s.B2 p:=by
 refine if_pos ?_
 unfold Sy.B2
 split
 ·exact Classical.byContradiction fun h2=>h ⟨by assumption,h2⟩
 ·intro _ _;rfl
theorem AX8 {s:Sy} {p:Nat} (h:s.K p=2∧¬ x9 (s.B p)):AH5 s.B2 (p+1)=AH5 s.B2 p++[⟨((p:Nat):Int),s.B p⟩]:=by
 have e:s.B2 p=s.B p:=if_pos h.1
 show (if x9 (s.B2 p) then _ else _++[(⟨((p:Nat):Int),s.B2 p⟩:Dt)])=_
 rw [e,if_neg h.2]
theorem Aq1 {L:List Rn} {r:Rn}:flat rnA (L++[r])=flat rnA L++rnA r:=by simp [flat]
theorem AH4 {L:List Rn}:(flat rnA L).length=L.length * 3:=H8 BE7 L
theorem Ak6 {L:List Rn} {r:Rn} {m:Nat} (h:L.length=m):(flat rnA (L++[r]))[m * 3+1]? = some (.int .i64 r.n):=by
 rw [Aq1,List.getElem?_append_right (by rw [AH4];omega),AH4,h,show m * 3+1 - m * 3=1 by omega];rfl
theorem Ak5 {L:List Rn} {r:Rn} {m:Nat} {v:Int} (h:L.length=m):(flat rnA (L++[r])).set (m * 3+1) (.int .i64 v)=flat rnA (L++[⟨r.p,v,r.k⟩]):=by
 rw [Aq1,List.set_append_right _ _ (by rw [AH4];omega),AH4,h,show m * 3+1 - m * 3=1 by omega,Aq1];rfl
end Go.Pol
namespace Go.Am
theorem Ao9 {α:Type} {f:α→List AV} {L:List α} {i:Nat} {r:List (Nat × AObj)} {ks:List Nat} (h:∀ j o,lk r j=some o→j ∈ ks):∀ j o,lk (AJ5 i f L++r) j=some o→j ∈ i::ks:=fun j o hj=>by
 rcases Aj0 hj with hj|hj
 ·obtain ⟨rfl,_⟩:=AQ4 hj;exact List.mem_cons_self ..
 ·exact List.mem_cons_of_mem _ (h j o hj)
theorem lk_nil_in:∀ j o,lk [] j=some o→j ∈ ([]:List Nat):=fun j o hj=>by cases hj
theorem tl_not {ren:List (Nat × Nat)} {l0 tl:List (Nat × AObj)} {ks:List Nat} {d:Nat} (hk:∀ j o,lk tl j=some o→j ∈ ks) (hn:((l0.map (·.1))++ks).all (fun j=>!(Nat.beq (rn ren j) d))=true):∀ j o,lk (l0++tl) j=some o→rn ren j ≠ d:=fun j o hj e=>by
 rw [List.all_eq_true] at hn
 have hm:j ∈ (l0.map (·.1))++ks:=by
  rcases Aj0 hj with hj|hj
  ·obtain ⟨q,hq,rfl⟩:=BX5 hj;exact List.mem_append_left _ (List.mem_map.2 ⟨q,hq,rfl⟩)
  ·exact List.mem_append_right _ (hk j o hj)
 have:=hn j hm
 rw [e] at this;simp at this
end Go.Am
namespace Go.Proofs.YtphggldkligldaaGreat
open Go Go.Am Go.Pol
open Go.Proofs.YtphggldkligldaaGreat renaming plx_Tj → plx
open Go.Proofs.YtphggldkligldaaGreat renaming ppx_Tj → ppx
theorem wtk {p q:Prop} (hq:q) (h:X0 q→p:=by (intro hQz;((repeat' ((try (conv=>whnf));first|(with_reducible first|refine U1 ?_|refine O8 ?_|refine U4 ?_|refine U6 ?_|refine P8 ?_|refine Y2 ?_|refine S9 ?_|refine Y1 rfl ?_|refine T9 ?_|refine K7 ?_|refine P6 ?_|refine P7 ?_|refine U5 ?_|refine K6 ?_|refine O9 (by decide +kernel) ?_|refine N9 (by decide +kernel) ?_|refine AJ0 ?_|refine AJ1 ?_|refine As8 ?_|refine AC0 ?_|refine AM8 ?_|refine Al7 (by assumption) ?_|refine Al8 (by assumption) ?_|refine AB9 (by omega) ?_|refine AM7 ?_)|((with_reducible refine AM9 ?_ ?_);focus omega)|((with_reducible refine AN0 ?_ ?_);focus omega)|((with_reducible apply M9 hQz)<;>(try intro hsp hQz))|((with_reducible refine As7 ?_ ?_);focus (first|omega|rfl|assumption|decide|(simp only [List.length_map,List.length_cons,List.length_nil];omega)|(simp only [List.length_cons];omega)))|(with_reducible first|refine AM4 ?_|refine AB8 ?_|refine AB7 ?_|refine AM6 ?_|refine AM5 ?_|refine AM2 ?_|refine As6 ?_|refine J8 ?_|refine AB5 ?_|refine U3 ?_|refine U2 ?_|refine J9 ?_|refine AM3 (by omega) ?_|refine AB6 (by omega) ?_)|refine I4 (by with_reducible assumption) ?_|refine AC2 (by with_reducible assumption) ?_|refine E5 (by omega) (by with_reducible assumption) ?_|refine j5 (by rw [AK6];omega) rfl ?_|refine Y4 (by rw [List.length_drop,AK6];omega) (by with_reducible assumption) ?_|refine Y4 (by omega) (y_take (by with_reducible assumption)) ?_|refine j5 (Nat.zero_le _) y_drop ?_|refine AX1 (by first|(simp only [List.length_cons,List.length_nil];omega)|fail) (over_y1 (by with_reducible assumption)) ?_|refine BR5 (by with_reducible assumption) ?_|refine del_tS ?_|refine del_tO rfl ?_|refine del_n ?_|(with_reducible first|refine AE1 ?_|refine At7.mk (by kernel_rfl) ?_|refine AF1 rfl ?_|refine AE3 (by decide +kernel) ?_|refine AE2 rfl ?_)|refine AO2 (f:=rnA) (l2:=[⟨((p:Nat):Int),1,s.K p⟩]) BE7 (AH1 rfl (by first|rfl|(simp;done)|(simp [*];done))) (fun hz=>by first|(simp [lk,AD2,AC8 hz,L6 hz];done)|rfl) (fun hz=>by first|(simp [lk,AD2,Ap0,lk_tN hz,AL4 hz];done)|rfl) (by first|rfl|(simp [flat,rnA];done)|(simp [flat,rnA, *];done)) (by decide) ⟨by omega,by omega⟩ rfl ?_|((with_reducible apply BK9 hQz);intro hQa hQb;refine AO1 (f:=rnA) (l2:=[⟨((p:Nat):Int),1,s.K p⟩]) BE7 (AH1 rfl (by first|rfl|(simp;done)|(simp [*];done))) (fun hz=>by first|(simp [lk,AD2,AC8 hz,L6 hz];done)|rfl) (by first|rfl|(simp [flat,rnA];done)|(simp [flat,rnA, *];done)) (by decide) ⟨by omega,by omega⟩ ?_ ?_<;>intro hzz<;>first|(have hQz:=X0.mk (hQa.out hzz))|(have hQz:=X0.mk (hQb.out hzz)))|refine AO2 (f:=inA) (l2:=[((p:Nat):Int)]) in_len (AH1 rfl (by first|rfl|(simp;done)|(simp [*];done))) (fun hz=>by first|(simp [lk,AD2,AC8 hz,L6 hz];done)|rfl) (fun hz=>by first|(simp [lk,AD2,Ap0,lk_tN hz,AL4 hz];done)|rfl) (by first|rfl|(simp [flat,inA];done)|(simp [flat,inA, *];done)) (by decide) ⟨by omega,by omega⟩ rfl ?_|((with_reducible apply BK9 hQz);intro hQa hQb;refine AO1 (f:=inA) (l2:=[((p:Nat):Int)]) in_len (AH1 rfl (by first|rfl|(simp;done)|(simp [*];done))) (fun hz=>by first|(simp [lk,AD2,AC8 hz,L6 hz];done)|rfl) (by first|rfl|(simp [flat,inA];done)|(simp [flat,inA, *];done)) (by decide) ⟨by omega,by omega⟩ ?_ ?_<;>intro hzz<;>first|(have hQz:=X0.mk (hQa.out hzz))|(have hQz:=X0.mk (hQb.out hzz)))|refine AO2 (f:=dtA) (l2:=[⟨((p:Nat):Int),s.B p⟩]) dt_len (AH1 rfl (by first|rfl|(simp;done)|(simp [*];done))) (fun hz=>by first|(simp [lk,AD2,AC8 hz,L6 hz];done)|rfl) (fun hz=>by first|(simp [lk,AD2,Ap0,lk_tN hz,AL4 hz];done)|rfl) (by first|rfl|(simp [flat,dtA];done)|(simp [flat,dtA, *];done)) (by decide) ⟨by omega,by omega⟩ rfl ?_|((with_reducible apply BK9 hQz);intro hQa hQb;refine AO1 (f:=dtA) (l2:=[⟨((p:Nat):Int),s.B p⟩]) dt_len (AH1 rfl (by first|rfl|(simp;done)|(simp [*];done))) (fun hz=>by first|(simp [lk,AD2,AC8 hz,L6 hz];done)|rfl) (by first|rfl|(simp [flat,dtA];done)|(simp [flat,dtA, *];done)) (by decide) ⟨by omega,by omega⟩ ?_ ?_<;>intro hzz<;>first|(have hQz:=X0.mk (hQa.out hzz))|(have hQz:=X0.mk (hQb.out hzz)))|refine AH7 (BL0 (by omega) rfl (Nat.zero_le _)) ?_|refine AH7 (Aa7 src_rl rfl rfl (by omega) (by omega)) ?_|refine J8 ?_|refine J9 ?_|refine AS6 rfl rfl ?_|refine z8 ?_|refine Y0 rfl ?_|refine AS7 rfl ?_|refine AS4 rfl ?_|refine AE9 rfl ?_|refine V5 ?_|refine Aw9.mk ?_|((with_reducible apply N7 hQz)<;>(try intro hsp hQz))|exact hQz.out))<;>(try (conv=>whnf))))):p:=h ⟨hq⟩
theorem wk_sl0 {σ:Nat→Nat} {h h':Hp} {d off cp:Nat} {L:List Rl} (h0:L.length=0:=by assumption):WkV Tryz.prog σ h h' (.sl d off 0 cp 4) (.isl (L.map rlA)):=fun c v hR hm hr=>by
 cases List.eq_nil_of_length_eq_zero h0
 obtain ⟨_,_,cap,rfl,_,h5,h6,_⟩:=AO9.1 hr
 exact AE4.2 ⟨_,cap,rfl,Nat.zero_le _,h6,fun hne=>absurd rfl hne⟩
section
variable {s:Sy}
noncomputable def skel (s:Sy) (o:Nat) (ho:o=66624) (hlen:s.l.length≤100000):{ T:Nat→Prop // (∀ p,p≤1024→T p)→u7 23 [] s.b (.agg (vsA s.saveR)) s.b }:=by
 refine ⟨?T,fun step=>?h⟩
 case h =>
  have step:=X0.mk step
  refine u7.mk (G5 E9 b23 rfl ?_) F8 F8 (fun x hx=>by cases hx) J2
  unfold c23
  unfold Sy.b
  rw [saveR_B2]
  rw [← ho]
  have hst:=U8 (K:=s.K) (G:=s.G) (B:=s.B) ho (p8 (l:=s.l) (C:=s.C) (H:=s.H))
  have hru:=X3 (K:=s.K) (G:=s.G) (B:=s.B) (l:=s.l) (C:=s.C) (H:=s.H) ho
  by_cases hl0:s.l.length=0
  ·(refine wtk ?_;repeat' (first|with_reducible refine And.intro ?_ ?_|intro hsp))
   (refine G8 [0,2] (fun (p:Nat)=>[(3,.ptr 2 0),(4,.int .i64 (p:Nat))]) (fun (p:Nat)=>⟨[(0,.cells (refK s.K s.G s.B (stA s.l s.C s.H))),(1,.cells [.nils,.nils,.nils,.nils,.int .i64 0,.int .i64 0,.int .i64 0,.int .i64 0,.int .i64 0,.int .i64 0,.int .i64 0,.int .i64 0,.int .i64 0,.int .i64 0,.int .i64 0,.int .i64 0,.int .i64 0,.int .i64 0]),(2,.cells [AU0 10 3 (I8 s.K p).length,AU0 11 1 (R5 s.G p).length,AU0 12 65 (AH5 s.B2 p).length,.isl (s.l.map rlA),.int .i64 (s.C 0),.int .i64 (s.C 1),.int .i64 (s.C 2),.int .i64 (s.C 3),.int .i64 (s.C 4),.int .i64 (s.C 5),.int .i64 (s.C 6),.int .i64 (s.H 0),.int .i64 (s.H 1),.int .i64 (s.H 2),.int .i64 (s.H 3),.int .i64 (s.H 4),.int .i64 (s.H 5),.int .i64 (s.H 6)])]++(AJ5 10 rnA (I8 s.K p)++(AJ5 11 inA (R5 s.G p)++(AJ5 12 dtA (AH5 s.B2 p)++[]))),13⟩) (fun (p:Nat)=>p≤1024) (fun (p:Nat)=>1024 - p) (0) [] rfl (fun _=>by first|exact Nat.zero_le _|(dsimp only;omega)) ?_ (by ((try (conv=>whnf));exact AG8)) ?_)
   ·exact Nat.zero_le _
   exact step.out
  ·(refine wtk ?_;repeat' (first|with_reducible refine And.intro ?_ ?_|intro hsp))
   (refine G8 [0,2] (fun (p:Nat)=>[(3,.ptr 2 0),(4,.int .i64 (p:Nat))]) (fun (p:Nat)=>⟨[(0,.cells (refK s.K s.G s.B (stA s.l s.C s.H))),(1,.cells [.nils,.nils,.nils,.nils,.int .i64 0,.int .i64 0,.int .i64 0,.int .i64 0,.int .i64 0,.int .i64 0,.int .i64 0,.int .i64 0,.int .i64 0,.int .i64 0,.int .i64 0,.int .i64 0,.int .i64 0,.int .i64 0]),(2,.cells [AU0 10 3 (I8 s.K p).length,AU0 11 1 (R5 s.G p).length,AU0 12 65 (AH5 s.B2 p).length,.isl (s.l.map rlA),.int .i64 (s.C 0),.int .i64 (s.C 1),.int .i64 (s.C 2),.int .i64 (s.C 3),.int .i64 (s.C 4),.int .i64 (s.C 5),.int .i64 (s.C 6),.int .i64 (s.H 0),.int .i64 (s.H 1),.int .i64 (s.H 2),.int .i64 (s.H 3),.int .i64 (s.H 4),.int .i64 (s.H 5),.int .i64 (s.H 6)])]++(AJ5 10 rnA (I8 s.K p)++(AJ5 11 inA (R5 s.G p)++(AJ5 12 dtA (AH5 s.B2 p)++[]))),13⟩) (fun (p:Nat)=>p≤1024) (fun (p:Nat)=>1024 - p) (0) [] rfl (fun _=>by first|exact Nat.zero_le _|(dsimp only;omega)) ?_ (by ((try (conv=>whnf));exact AG8)) ?_)
   ·exact Nat.zero_le _
   exact step.out
end
end Go.Proofs.YtphggldkligldaaGreat
namespace Go.Proofs.YtphggldkligldaaGreat
open Go Go.Am Go.Pol
open Go.Proofs.YtphggldkligldaaGreat renaming plx_Tj → plx
open Go.Proofs.YtphggldkligldaaGreat renaming ppx_Tj → ppx
section
variable {s:Sy} {o:Nat} {ho:o=66624} {hlen:s.l.length≤100000} {p:Nat}
theorem rd_end (hp:p=1024):(skel s o ho hlen).1 p:=by
 have hL0:=Y5 (K:=s.K) (n:=p)
 have hL1:=Z0 (G:=s.G) (n:=p)
 have hL2:=Z5 (B:=s.B2) (n:=p)
 have hst:=U8 (K:=s.K) (G:=s.G) (B:=s.B) ho (p8 (l:=s.l) (C:=s.C) (H:=s.H))
 have hru:=X3 (K:=s.K) (G:=s.G) (B:=s.B) (l:=s.l) (C:=s.C) (H:=s.H) ho
 subst hp
 unfold skel
 dsimp only
 (refine wtk ?_;repeat' (first|with_reducible refine And.intro ?_ ?_|intro hsp))
 all_goals exact end_save3 (J3 D7)
theorem rd_free_h (hp4:p < 1024) (h0:s.K p=0) (hu:p % 16=0∧s.G (p / 16)=true):(skel s o ho hlen).1 p:=by
 have hL0:=Y5 (K:=s.K) (n:=p)
 have hL1:=Z0 (G:=s.G) (n:=p)
 have hL2:=Z5 (B:=s.B2) (n:=p)
 have hst:=U8 (K:=s.K) (G:=s.G) (B:=s.B) ho (p8 (l:=s.l) (C:=s.C) (H:=s.H))
 have hru:=X3 (K:=s.K) (G:=s.G) (B:=s.B) (l:=s.l) (C:=s.C) (H:=s.H) ho
 have hk:(refK s.K s.G s.B (stA s.l s.C s.H))[p]? = some (.int .i64 (s.K p)):=P9 hp4
 have hh:(refK s.K s.G s.B (stA s.l s.C s.H))[1024+p / 16]? = some (.bool (s.G (p / 16))):=d9 (by omega)
 have hw16:=AY1 (q:=p) (by omega)
 have ht16:((p:Nat):Int).tmod 16=((p % 16:Nat):Int):=by rw [Int.tmod_eq_emod_of_nonneg (by omega)];omega
 have hby:=Y6 (K:=s.K) (G:=s.G) (B:=s.B) (P:=stA s.l s.C s.H) hp4
 have hyl:=by_len (s.B p)
 have hyz:=AL6 (s.B p)
 generalize hy:byA (s.B p)=y at hby hyl hyz
 have e0:I8 s.K (p+1)=I8 s.K p:=if_pos h0
 have e2:=AV4 (s:=s) (p:=p) fun h=>by rw [h0] at h;exact absurd h.1 (by decide)
 have e1:R5 s.G (p+1)=R5 s.G p++[((p:Nat):Int)]:=if_pos hu
 rw [hu.2] at hh
 unfold skel
 dsimp only
 (refine wtk ?_;repeat' (first|with_reducible refine And.intro ?_ ?_|intro hsp))
 all_goals exact D9 (p+1) [(11,14)] (by (try dsimp only);omega) (by first|omega|(dsimp only;omega)) rfl (by ((try dsimp only);rw [e0,e1,e2]);exact AG8)
theorem rd_free (hp4:p < 1024) (h0:s.K p=0) (hu:¬ (p % 16=0∧s.G (p / 16)=true)):(skel s o ho hlen).1 p:=by
 have hL0:=Y5 (K:=s.K) (n:=p)
 have hL1:=Z0 (G:=s.G) (n:=p)
 have hL2:=Z5 (B:=s.B2) (n:=p)
 have hst:=U8 (K:=s.K) (G:=s.G) (B:=s.B) ho (p8 (l:=s.l) (C:=s.C) (H:=s.H))
 have hru:=X3 (K:=s.K) (G:=s.G) (B:=s.B) (l:=s.l) (C:=s.C) (H:=s.H) ho
 have hk:(refK s.K s.G s.B (stA s.l s.C s.H))[p]? = some (.int .i64 (s.K p)):=P9 hp4
 have hh:(refK s.K s.G s.B (stA s.l s.C s.H))[1024+p / 16]? = some (.bool (s.G (p / 16))):=d9 (by omega)
 have hw16:=AY1 (q:=p) (by omega)
 have ht16:((p:Nat):Int).tmod 16=((p % 16:Nat):Int):=by rw [Int.tmod_eq_emod_of_nonneg (by omega)];omega
 have hby:=Y6 (K:=s.K) (G:=s.G) (B:=s.B) (P:=stA s.l s.C s.H) hp4
 have hyl:=by_len (s.B p)
 have hyz:=AL6 (s.B p)
 generalize hy:byA (s.B p)=y at hby hyl hyz
 have e0:I8 s.K (p+1)=I8 s.K p:=if_pos h0
 have e2:=AV4 (s:=s) (p:=p) fun h=>by rw [h0] at h;exact absurd h.1 (by decide)
 have e1:R5 s.G (p+1)=R5 s.G p:=if_neg hu
 unfold skel
 dsimp only
 by_cases h16:p % 16=0
 ·have hG:s.G (p / 16)=false:=by
   cases h:s.G (p / 16) with
   | false=>rfl
   | true=>exact absurd ⟨h16,h⟩ hu
  rw [hG] at hh
  (refine wtk ?_;repeat' (first|with_reducible refine And.intro ?_ ?_|intro hsp))
  all_goals exact D9 (p+1) [] (by (try dsimp only);omega) (by first|omega|(dsimp only;omega)) rfl (by ((try dsimp only);rw [e0,e1,e2]);exact AG8)
 ·(refine wtk ?_;repeat' (first|with_reducible refine And.intro ?_ ?_|intro hsp))
  all_goals exact D9 (p+1) [] (by (try dsimp only);omega) (by first|omega|(dsimp only;omega)) rfl (by ((try dsimp only);rw [e0,e1,e2]);exact AG8)
end
end Go.Proofs.YtphggldkligldaaGreat
namespace Go.Proofs.YtphggldkligldaaGreat
open Go Go.Am Go.Pol
open Go.Proofs.YtphggldkligldaaGreat renaming plx_Tj → plx
open Go.Proofs.YtphggldkligldaaGreat renaming ppx_Tj → ppx
section
variable {s:Sy} {o:Nat} {ho:o=66624} {hlen:s.l.length≤100000} {p:Nat}
theorem rd_new_00 (hp4:p < 1024) (hp0:0 < p) (h0:¬ s.K p=0) (hb:¬ (0 < p∧s.K (p - 1)=s.K p)) (hu:¬ (p % 16=0∧s.G (p / 16)=true)) (hd:¬ (s.K p=2∧¬ x9 (s.B p))):(skel s o ho hlen).1 p:=by
 have hL0:=Y5 (K:=s.K) (n:=p)
 have hL1:=Z0 (G:=s.G) (n:=p)
 have hL2:=Z5 (B:=s.B2) (n:=p)
 have hst:=U8 (K:=s.K) (G:=s.G) (B:=s.B) ho (p8 (l:=s.l) (C:=s.C) (H:=s.H))
 have hru:=X3 (K:=s.K) (G:=s.G) (B:=s.B) (l:=s.l) (C:=s.C) (H:=s.H) ho
 have hk:(refK s.K s.G s.B (stA s.l s.C s.H))[p]? = some (.int .i64 (s.K p)):=P9 hp4
 have hh:(refK s.K s.G s.B (stA s.l s.C s.H))[1024+p / 16]? = some (.bool (s.G (p / 16))):=d9 (by omega)
 have hw16:=AY1 (q:=p) (by omega)
 have ht16:((p:Nat):Int).tmod 16=((p % 16:Nat):Int):=by rw [Int.tmod_eq_emod_of_nonneg (by omega)];omega
 have hby:=Y6 (K:=s.K) (G:=s.G) (B:=s.B) (P:=stA s.l s.C s.H) hp4
 have hyl:=by_len (s.B p)
 have hyz:=AL6 (s.B p)
 generalize hy:byA (s.B p)=y at hby hyl hyz
 have e0:I8 s.K (p+1)=I8 s.K p++[⟨((p:Nat):Int),1,s.K p⟩]:=by
  show (if s.K p=0 then _ else if 0 < p∧s.K (p - 1)=s.K p then bump (I8 s.K p) else _)=_
  rw [if_neg h0,if_neg hb]
 have hk1:(refK s.K s.G s.B (stA s.l s.C s.H))[(((p:Nat):Int) - 1).toNat]? = some (.int .i64 (s.K (p - 1))):=by rw [show (((p:Nat):Int) - 1).toNat=p - 1 by omega];exact P9 (by omega)
 have hp1:IntKind.i64.wrap (((p:Nat):Int) - 1)=((p - 1:Nat):Int):=by rw [IntWalk.i64_in _ ⟨by omega,by omega⟩];omega
 have hne:¬ s.K (p - 1)=s.K p:=fun h=>hb ⟨hp0,h⟩
 have e1:R5 s.G (p+1)=R5 s.G p:=if_neg hu
 have e2:=AV4 hd
 unfold skel
 dsimp only
 (refine wtk ?_;repeat' (first|with_reducible refine And.intro ?_ ?_|intro hsp))
 all_goals first|(exfalso;exact hu ⟨(by first|omega|fail),(by first|assumption|fail)⟩)|skip
 all_goals first|(exfalso;exact hd ⟨(by first|assumption|fail),(by first|assumption|fail)⟩)|skip
 all_goals first|(exfalso;exact hne (by first|assumption|fail))|(exfalso;omega)|skip
 all_goals exact D9 (p+1) [(10,42)] (by (try dsimp only);omega) (by first|omega|(dsimp only;omega)) rfl (by ((try dsimp only);rw [e0,e1,e2]);exact AG8)
end
end Go.Proofs.YtphggldkligldaaGreat
namespace Go.Proofs.YtphggldkligldaaGreat
open Go Go.Am Go.Pol
open Go.Proofs.YtphggldkligldaaGreat renaming plx_Tj → plx
open Go.Proofs.YtphggldkligldaaGreat renaming ppx_Tj → ppx
section
variable {s:Sy} {o:Nat} {ho:o=66624} {hlen:s.l.length≤100000} {p:Nat}
theorem rd_new_01 (hp4:p < 1024) (hp0:0 < p) (h0:¬ s.K p=0) (hb:¬ (0 < p∧s.K (p - 1)=s.K p)) (hu:¬ (p % 16=0∧s.G (p / 16)=true)) (hd:s.K p=2∧¬ x9 (s.B p)):(skel s o ho hlen).1 p:=by
 have hL0:=Y5 (K:=s.K) (n:=p)
 have hL1:=Z0 (G:=s.G) (n:=p)
 have hL2:=Z5 (B:=s.B2) (n:=p)
 have hst:=U8 (K:=s.K) (G:=s.G) (B:=s.B) ho (p8 (l:=s.l) (C:=s.C) (H:=s.H))
 have hru:=X3 (K:=s.K) (G:=s.G) (B:=s.B) (l:=s.l) (C:=s.C) (H:=s.H) ho
 have hk:(refK s.K s.G s.B (stA s.l s.C s.H))[p]? = some (.int .i64 (s.K p)):=P9 hp4
 have hh:(refK s.K s.G s.B (stA s.l s.C s.H))[1024+p / 16]? = some (.bool (s.G (p / 16))):=d9 (by omega)
 have hw16:=AY1 (q:=p) (by omega)
 have ht16:((p:Nat):Int).tmod 16=((p % 16:Nat):Int):=by rw [Int.tmod_eq_emod_of_nonneg (by omega)];omega
 have hby:=Y6 (K:=s.K) (G:=s.G) (B:=s.B) (P:=stA s.l s.C s.H) hp4
 have hyl:=by_len (s.B p)
 have hyz:=AL6 (s.B p)
 generalize hy:byA (s.B p)=y at hby hyl hyz
 have e0:I8 s.K (p+1)=I8 s.K p++[⟨((p:Nat):Int),1,s.K p⟩]:=by
  show (if s.K p=0 then _ else if 0 < p∧s.K (p - 1)=s.K p then bump (I8 s.K p) else _)=_
  rw [if_neg h0,if_neg hb]
 have hk1:(refK s.K s.G s.B (stA s.l s.C s.H))[(((p:Nat):Int) - 1).toNat]? = some (.int .i64 (s.K (p - 1))):=by rw [show (((p:Nat):Int) - 1).toNat=p - 1 by omega];exact P9 (by omega)
 have hp1:IntKind.i64.wrap (((p:Nat):Int) - 1)=((p - 1:Nat):Int):=by rw [IntWalk.i64_in _ ⟨by omega,by omega⟩];omega
 have hne:¬ s.K (p - 1)=s.K p:=fun h=>hb ⟨hp0,h⟩
 have e1:R5 s.G (p+1)=R5 s.G p:=if_neg hu
 have e2:=AX8 hd
 obtain ⟨hd1,hd2⟩:=hd
 unfold skel
 dsimp only
 (refine wtk ?_;repeat' (first|with_reducible refine And.intro ?_ ?_|intro hsp))
 all_goals first|(exfalso;exact hu ⟨(by first|omega|fail),(by first|assumption|fail)⟩)|skip
 all_goals first|(exfalso;exact hne (by first|assumption|fail))|(exfalso;omega)|skip
 all_goals exact D9 (p+1) [(10,42),(12,56)] (by (try dsimp only);omega) (by first|omega|(dsimp only;omega)) rfl (by ((try dsimp only);rw [e0,e1,e2]);exact AG8)
end
end Go.Proofs.YtphggldkligldaaGreat
namespace Go.Proofs.YtphggldkligldaaGreat
open Go Go.Am Go.Pol
open Go.Proofs.YtphggldkligldaaGreat renaming plx_Tj → plx
open Go.Proofs.YtphggldkligldaaGreat renaming ppx_Tj → ppx
section
variable {s:Sy} {o:Nat} {ho:o=66624} {hlen:s.l.length≤100000} {p:Nat}
theorem rd_new_10 (hp4:p < 1024) (hp0:0 < p) (h0:¬ s.K p=0) (hb:¬ (0 < p∧s.K (p - 1)=s.K p)) (hu:p % 16=0∧s.G (p / 16)=true) (hd:¬ (s.K p=2∧¬ x9 (s.B p))):(skel s o ho hlen).1 p:=by
 have hL0:=Y5 (K:=s.K) (n:=p)
 have hL1:=Z0 (G:=s.G) (n:=p)
 have hL2:=Z5 (B:=s.B2) (n:=p)
 have hst:=U8 (K:=s.K) (G:=s.G) (B:=s.B) ho (p8 (l:=s.l) (C:=s.C) (H:=s.H))
 have hru:=X3 (K:=s.K) (G:=s.G) (B:=s.B) (l:=s.l) (C:=s.C) (H:=s.H) ho
 have hk:(refK s.K s.G s.B (stA s.l s.C s.H))[p]? = some (.int .i64 (s.K p)):=P9 hp4
 have hh:(refK s.K s.G s.B (stA s.l s.C s.H))[1024+p / 16]? = some (.bool (s.G (p / 16))):=d9 (by omega)
 have hw16:=AY1 (q:=p) (by omega)
 have ht16:((p:Nat):Int).tmod 16=((p % 16:Nat):Int):=by rw [Int.tmod_eq_emod_of_nonneg (by omega)];omega
 have hby:=Y6 (K:=s.K) (G:=s.G) (B:=s.B) (P:=stA s.l s.C s.H) hp4
 have hyl:=by_len (s.B p)
 have hyz:=AL6 (s.B p)
 generalize hy:byA (s.B p)=y at hby hyl hyz
 have e0:I8 s.K (p+1)=I8 s.K p++[⟨((p:Nat):Int),1,s.K p⟩]:=by
  show (if s.K p=0 then _ else if 0 < p∧s.K (p - 1)=s.K p then bump (I8 s.K p) else _)=_
  rw [if_neg h0,if_neg hb]
 have hk1:(refK s.K s.G s.B (stA s.l s.C s.H))[(((p:Nat):Int) - 1).toNat]? = some (.int .i64 (s.K (p - 1))):=by rw [show (((p:Nat):Int) - 1).toNat=p - 1 by omega];exact P9 (by omega)
 have hp1:IntKind.i64.wrap (((p:Nat):Int) - 1)=((p - 1:Nat):Int):=by rw [IntWalk.i64_in _ ⟨by omega,by omega⟩];omega
 have hne:¬ s.K (p - 1)=s.K p:=fun h=>hb ⟨hp0,h⟩
 have e1:R5 s.G (p+1)=R5 s.G p++[((p:Nat):Int)]:=if_pos hu
 rw [hu.2] at hh
 have e2:=AV4 hd
 unfold skel
 dsimp only
 (refine wtk ?_;repeat' (first|with_reducible refine And.intro ?_ ?_|intro hsp))
 all_goals first|(exfalso;exact hd ⟨(by first|assumption|fail),(by first|assumption|fail)⟩)|skip
 all_goals first|(exfalso;exact hne (by first|assumption|fail))|(exfalso;omega)|skip
 all_goals exact D9 (p+1) [(10,42),(11,46)] (by (try dsimp only);omega) (by first|omega|(dsimp only;omega)) rfl (by ((try dsimp only);rw [e0,e1,e2]);exact AG8)
end
end Go.Proofs.YtphggldkligldaaGreat
namespace Go.Proofs.YtphggldkligldaaGreat
open Go Go.Am Go.Pol
open Go.Proofs.YtphggldkligldaaGreat renaming plx_Tj → plx
open Go.Proofs.YtphggldkligldaaGreat renaming ppx_Tj → ppx
section
variable {s:Sy} {o:Nat} {ho:o=66624} {hlen:s.l.length≤100000} {p:Nat}
theorem rd_new_11 (hp4:p < 1024) (hp0:0 < p) (h0:¬ s.K p=0) (hb:¬ (0 < p∧s.K (p - 1)=s.K p)) (hu:p % 16=0∧s.G (p / 16)=true) (hd:s.K p=2∧¬ x9 (s.B p)):(skel s o ho hlen).1 p:=by
 have hL0:=Y5 (K:=s.K) (n:=p)
 have hL1:=Z0 (G:=s.G) (n:=p)
 have hL2:=Z5 (B:=s.B2) (n:=p)
 have hst:=U8 (K:=s.K) (G:=s.G) (B:=s.B) ho (p8 (l:=s.l) (C:=s.C) (H:=s.H))
 have hru:=X3 (K:=s.K) (G:=s.G) (B:=s.B) (l:=s.l) (C:=s.C) (H:=s.H) ho
 have hk:(refK s.K s.G s.B (stA s.l s.C s.H))[p]? = some (.int .i64 (s.K p)):=P9 hp4
 have hh:(refK s.K s.G s.B (stA s.l s.C s.H))[1024+p / 16]? = some (.bool (s.G (p / 16))):=d9 (by omega)
 have hw16:=AY1 (q:=p) (by omega)
 have ht16:((p:Nat):Int).tmod 16=((p % 16:Nat):Int):=by rw [Int.tmod_eq_emod_of_nonneg (by omega)];omega
 have hby:=Y6 (K:=s.K) (G:=s.G) (B:=s.B) (P:=stA s.l s.C s.H) hp4
 have hyl:=by_len (s.B p)
 have hyz:=AL6 (s.B p)
 generalize hy:byA (s.B p)=y at hby hyl hyz
 have e0:I8 s.K (p+1)=I8 s.K p++[⟨((p:Nat):Int),1,s.K p⟩]:=by
  show (if s.K p=0 then _ else if 0 < p∧s.K (p - 1)=s.K p then bump (I8 s.K p) else _)=_
  rw [if_neg h0,if_neg hb]
 have hk1:(refK s.K s.G s.B (stA s.l s.C s.H))[(((p:Nat):Int) - 1).toNat]? = some (.int .i64 (s.K (p - 1))):=by rw [show (((p:Nat):Int) - 1).toNat=p - 1 by omega];exact P9 (by omega)
 have hp1:IntKind.i64.wrap (((p:Nat):Int) - 1)=((p - 1:Nat):Int):=by rw [IntWalk.i64_in _ ⟨by omega,by omega⟩];omega
 have hne:¬ s.K (p - 1)=s.K p:=fun h=>hb ⟨hp0,h⟩
 have e1:R5 s.G (p+1)=R5 s.G p++[((p:Nat):Int)]:=if_pos hu
 rw [hu.2] at hh
 have e2:=AX8 hd
 obtain ⟨hd1,hd2⟩:=hd
 unfold skel
 dsimp only
 (refine wtk ?_;repeat' (first|with_reducible refine And.intro ?_ ?_|intro hsp))
 all_goals first|(exfalso;exact hne (by first|assumption|fail))|(exfalso;omega)|skip
 all_goals exact D9 (p+1) [(10,42),(11,46),(12,58)] (by (try dsimp only);omega) (by first|omega|(dsimp only;omega)) rfl (by ((try dsimp only);rw [e0,e1,e2]);exact AG8)
end
end Go.Proofs.YtphggldkligldaaGreat
namespace Go.Proofs.YtphggldkligldaaGreat
open Go Go.Am Go.Pol
open Go.Proofs.YtphggldkligldaaGreat renaming plx_Tj → plx
open Go.Proofs.YtphggldkligldaaGreat renaming ppx_Tj → ppx
section
variable {s:Sy} {o:Nat} {ho:o=66624} {hlen:s.l.length≤100000} {p:Nat}
theorem rd_nul_00 (hp4:p < 1024) (hp0:¬ 0 < p) (h0:¬ s.K p=0) (hb:¬ (0 < p∧s.K (p - 1)=s.K p)) (hu:¬ (p % 16=0∧s.G (p / 16)=true)) (hd:¬ (s.K p=2∧¬ x9 (s.B p))):(skel s o ho hlen).1 p:=by
 have hL0:=Y5 (K:=s.K) (n:=p)
 have hL1:=Z0 (G:=s.G) (n:=p)
 have hL2:=Z5 (B:=s.B2) (n:=p)
 have hst:=U8 (K:=s.K) (G:=s.G) (B:=s.B) ho (p8 (l:=s.l) (C:=s.C) (H:=s.H))
 have hru:=X3 (K:=s.K) (G:=s.G) (B:=s.B) (l:=s.l) (C:=s.C) (H:=s.H) ho
 have hk:(refK s.K s.G s.B (stA s.l s.C s.H))[p]? = some (.int .i64 (s.K p)):=P9 hp4
 have hh:(refK s.K s.G s.B (stA s.l s.C s.H))[1024+p / 16]? = some (.bool (s.G (p / 16))):=d9 (by omega)
 have hw16:=AY1 (q:=p) (by omega)
 have ht16:((p:Nat):Int).tmod 16=((p % 16:Nat):Int):=by rw [Int.tmod_eq_emod_of_nonneg (by omega)];omega
 have hby:=Y6 (K:=s.K) (G:=s.G) (B:=s.B) (P:=stA s.l s.C s.H) hp4
 have hyl:=by_len (s.B p)
 have hyz:=AL6 (s.B p)
 generalize hy:byA (s.B p)=y at hby hyl hyz
 have e0:I8 s.K (p+1)=I8 s.K p++[⟨((p:Nat):Int),1,s.K p⟩]:=by
  show (if s.K p=0 then _ else if 0 < p∧s.K (p - 1)=s.K p then bump (I8 s.K p) else _)=_
  rw [if_neg h0,if_neg hb]
 have e1:R5 s.G (p+1)=R5 s.G p:=if_neg hu
 have e2:=AV4 hd
 unfold skel
 dsimp only
 (refine wtk ?_;repeat' (first|with_reducible refine And.intro ?_ ?_|intro hsp))
 all_goals first|(exfalso;exact hu ⟨(by first|omega|fail),(by first|assumption|fail)⟩)|skip
 all_goals first|(exfalso;exact hd ⟨(by first|assumption|fail),(by first|assumption|fail)⟩)|skip
 all_goals first|(exfalso;omega)|skip
 all_goals exact D9 (p+1) [(10,42)] (by (try dsimp only);omega) (by first|omega|(dsimp only;omega)) rfl (by ((try dsimp only);rw [e0,e1,e2]);exact AG8)
end
end Go.Proofs.YtphggldkligldaaGreat
namespace Go.Proofs.YtphggldkligldaaGreat
open Go Go.Am Go.Pol
open Go.Proofs.YtphggldkligldaaGreat renaming plx_Tj → plx
open Go.Proofs.YtphggldkligldaaGreat renaming ppx_Tj → ppx
section
variable {s:Sy} {o:Nat} {ho:o=66624} {hlen:s.l.length≤100000} {p:Nat}
theorem rd_nul_01 (hp4:p < 1024) (hp0:¬ 0 < p) (h0:¬ s.K p=0) (hb:¬ (0 < p∧s.K (p - 1)=s.K p)) (hu:¬ (p % 16=0∧s.G (p / 16)=true)) (hd:s.K p=2∧¬ x9 (s.B p)):(skel s o ho hlen).1 p:=by
 have hL0:=Y5 (K:=s.K) (n:=p)
 have hL1:=Z0 (G:=s.G) (n:=p)
 have hL2:=Z5 (B:=s.B2) (n:=p)
 have hst:=U8 (K:=s.K) (G:=s.G) (B:=s.B) ho (p8 (l:=s.l) (C:=s.C) (H:=s.H))
 have hru:=X3 (K:=s.K) (G:=s.G) (B:=s.B) (l:=s.l) (C:=s.C) (H:=s.H) ho
 have hk:(refK s.K s.G s.B (stA s.l s.C s.H))[p]? = some (.int .i64 (s.K p)):=P9 hp4
 have hh:(refK s.K s.G s.B (stA s.l s.C s.H))[1024+p / 16]? = some (.bool (s.G (p / 16))):=d9 (by omega)
 have hw16:=AY1 (q:=p) (by omega)
 have ht16:((p:Nat):Int).tmod 16=((p % 16:Nat):Int):=by rw [Int.tmod_eq_emod_of_nonneg (by omega)];omega
 have hby:=Y6 (K:=s.K) (G:=s.G) (B:=s.B) (P:=stA s.l s.C s.H) hp4
 have hyl:=by_len (s.B p)
 have hyz:=AL6 (s.B p)
 generalize hy:byA (s.B p)=y at hby hyl hyz
 have e0:I8 s.K (p+1)=I8 s.K p++[⟨((p:Nat):Int),1,s.K p⟩]:=by
  show (if s.K p=0 then _ else if 0 < p∧s.K (p - 1)=s.K p then bump (I8 s.K p) else _)=_
  rw [if_neg h0,if_neg hb]
 have e1:R5 s.G (p+1)=R5 s.G p:=if_neg hu
 have e2:=AX8 hd
 obtain ⟨hd1,hd2⟩:=hd
 unfold skel
 dsimp only
 (refine wtk ?_;repeat' (first|with_reducible refine And.intro ?_ ?_|intro hsp))
 all_goals first|(exfalso;exact hu ⟨(by first|omega|fail),(by first|assumption|fail)⟩)|skip
 all_goals first|(exfalso;omega)|skip
 all_goals exact D9 (p+1) [(10,42),(12,56)] (by (try dsimp only);omega) (by first|omega|(dsimp only;omega)) rfl (by ((try dsimp only);rw [e0,e1,e2]);exact AG8)
end
end Go.Proofs.YtphggldkligldaaGreat
namespace Go.Proofs.YtphggldkligldaaGreat
open Go Go.Am Go.Pol
open Go.Proofs.YtphggldkligldaaGreat renaming plx_Tj → plx
open Go.Proofs.YtphggldkligldaaGreat renaming ppx_Tj → ppx
section
variable {s:Sy} {o:Nat} {ho:o=66624} {hlen:s.l.length≤100000} {p:Nat}
theorem rd_nul_10 (hp4:p < 1024) (hp0:¬ 0 < p) (h0:¬ s.K p=0) (hb:¬ (0 < p∧s.K (p - 1)=s.K p)) (hu:p % 16=0∧s.G (p / 16)=true) (hd:¬ (s.K p=2∧¬ x9 (s.B p))):(skel s o ho hlen).1 p:=by
 have hL0:=Y5 (K:=s.K) (n:=p)
 have hL1:=Z0 (G:=s.G) (n:=p)
 have hL2:=Z5 (B:=s.B2) (n:=p)
 have hst:=U8 (K:=s.K) (G:=s.G) (B:=s.B) ho (p8 (l:=s.l) (C:=s.C) (H:=s.H))
 have hru:=X3 (K:=s.K) (G:=s.G) (B:=s.B) (l:=s.l) (C:=s.C) (H:=s.H) ho
 have hk:(refK s.K s.G s.B (stA s.l s.C s.H))[p]? = some (.int .i64 (s.K p)):=P9 hp4
 have hh:(refK s.K s.G s.B (stA s.l s.C s.H))[1024+p / 16]? = some (.bool (s.G (p / 16))):=d9 (by omega)
 have hw16:=AY1 (q:=p) (by omega)
 have ht16:((p:Nat):Int).tmod 16=((p % 16:Nat):Int):=by rw [Int.tmod_eq_emod_of_nonneg (by omega)];omega
 have hby:=Y6 (K:=s.K) (G:=s.G) (B:=s.B) (P:=stA s.l s.C s.H) hp4
 have hyl:=by_len (s.B p)
 have hyz:=AL6 (s.B p)
 generalize hy:byA (s.B p)=y at hby hyl hyz
 have e0:I8 s.K (p+1)=I8 s.K p++[⟨((p:Nat):Int),1,s.K p⟩]:=by
  show (if s.K p=0 then _ else if 0 < p∧s.K (p - 1)=s.K p then bump (I8 s.K p) else _)=_
  rw [if_neg h0,if_neg hb]
 have e1:R5 s.G (p+1)=R5 s.G p++[((p:Nat):Int)]:=if_pos hu
 rw [hu.2] at hh
 have e2:=AV4 hd
 unfold skel
 dsimp only
 (refine wtk ?_;repeat' (first|with_reducible refine And.intro ?_ ?_|intro hsp))
 all_goals first|(exfalso;exact hd ⟨(by first|assumption|fail),(by first|assumption|fail)⟩)|skip
 all_goals first|(exfalso;omega)|skip
 all_goals exact D9 (p+1) [(10,42),(11,46)] (by (try dsimp only);omega) (by first|omega|(dsimp only;omega)) rfl (by ((try dsimp only);rw [e0,e1,e2]);exact AG8)
end
end Go.Proofs.YtphggldkligldaaGreat
namespace Go.Proofs.YtphggldkligldaaGreat
open Go Go.Am Go.Pol
open Go.Proofs.YtphggldkligldaaGreat renaming plx_Tj → plx
open Go.Proofs.YtphggldkligldaaGreat renaming ppx_Tj → ppx
section
variable {s:Sy} {o:Nat} {ho:o=66624} {hlen:s.l.length≤100000} {p:Nat}
theorem rd_nul_11 (hp4:p < 1024) (hp0:¬ 0 < p) (h0:¬ s.K p=0) (hb:¬ (0 < p∧s.K (p - 1)=s.K p)) (hu:p % 16=0∧s.G (p / 16)=true) (hd:s.K p=2∧¬ x9 (s.B p)):(skel s o ho hlen).1 p:=by
 have hL0:=Y5 (K:=s.K) (n:=p)
 have hL1:=Z0 (G:=s.G) (n:=p)
 have hL2:=Z5 (B:=s.B2) (n:=p)
 have hst:=U8 (K:=s.K) (G:=s.G) (B:=s.B) ho (p8 (l:=s.l) (C:=s.C) (H:=s.H))
 have hru:=X3 (K:=s.K) (G:=s.G) (B:=s.B) (l:=s.l) (C:=s.C) (H:=s.H) ho
 have hk:(refK s.K s.G s.B (stA s.l s.C s.H))[p]? = some (.int .i64 (s.K p)):=P9 hp4
 have hh:(refK s.K s.G s.B (stA s.l s.C s.H))[1024+p / 16]? = some (.bool (s.G (p / 16))):=d9 (by omega)
 have hw16:=AY1 (q:=p) (by omega)
 have ht16:((p:Nat):Int).tmod 16=((p % 16:Nat):Int):=by rw [Int.tmod_eq_emod_of_nonneg (by omega)];omega
 have hby:=Y6 (K:=s.K) (G:=s.G) (B:=s.B) (P:=stA s.l s.C s.H) hp4
 have hyl:=by_len (s.B p)
 have hyz:=AL6 (s.B p)
 generalize hy:byA (s.B p)=y at hby hyl hyz
 have e0:I8 s.K (p+1)=I8 s.K p++[⟨((p:Nat):Int),1,s.K p⟩]:=by
  show (if s.K p=0 then _ else if 0 < p∧s.K (p - 1)=s.K p then bump (I8 s.K p) else _)=_
  rw [if_neg h0,if_neg hb]
 have e1:R5 s.G (p+1)=R5 s.G p++[((p:Nat):Int)]:=if_pos hu
 rw [hu.2] at hh
 have e2:=AX8 hd
 obtain ⟨hd1,hd2⟩:=hd
 unfold skel
 dsimp only
 (refine wtk ?_;repeat' (first|with_reducible refine And.intro ?_ ?_|intro hsp))
 all_goals first|(exfalso;omega)|skip
 all_goals exact D9 (p+1) [(10,42),(11,46),(12,58)] (by (try dsimp only);omega) (by first|omega|(dsimp only;omega)) rfl (by ((try dsimp only);rw [e0,e1,e2]);exact AG8)
end
end Go.Proofs.YtphggldkligldaaGreat
namespace Go.Proofs.YtphggldkligldaaGreat
open Go Go.Am Go.Pol
open Go.Proofs.YtphggldkligldaaGreat renaming plx_Tj → plx
open Go.Proofs.YtphggldkligldaaGreat renaming ppx_Tj → ppx
section
variable {s:Sy} {o:Nat} {ho:o=66624} {hlen:s.l.length≤100000} {p:Nat}
theorem rd_bmp_00 (hp4:p < 1024) (h0:¬ s.K p=0) (hb:0 < p∧s.K (p - 1)=s.K p) (hu:¬ (p % 16=0∧s.G (p / 16)=true)) (hd:¬ (s.K p=2∧¬ x9 (s.B p))):(skel s o ho hlen).1 p:=by
 have hL0:=Y5 (K:=s.K) (n:=p)
 have hL1:=Z0 (G:=s.G) (n:=p)
 have hL2:=Z5 (B:=s.B2) (n:=p)
 have hst:=U8 (K:=s.K) (G:=s.G) (B:=s.B) ho (p8 (l:=s.l) (C:=s.C) (H:=s.H))
 have hru:=X3 (K:=s.K) (G:=s.G) (B:=s.B) (l:=s.l) (C:=s.C) (H:=s.H) ho
 have hk:(refK s.K s.G s.B (stA s.l s.C s.H))[p]? = some (.int .i64 (s.K p)):=P9 hp4
 have hh:(refK s.K s.G s.B (stA s.l s.C s.H))[1024+p / 16]? = some (.bool (s.G (p / 16))):=d9 (by omega)
 have hw16:=AY1 (q:=p) (by omega)
 have ht16:((p:Nat):Int).tmod 16=((p % 16:Nat):Int):=by rw [Int.tmod_eq_emod_of_nonneg (by omega)];omega
 have hby:=Y6 (K:=s.K) (G:=s.G) (B:=s.B) (P:=stA s.l s.C s.H) hp4
 have hyl:=by_len (s.B p)
 have hyz:=AL6 (s.B p)
 generalize hy:byA (s.B p)=y at hby hyl hyz
 obtain ⟨L,r,hR,er⟩:∃ (L:List Rn) (r:Rn),I8 s.K p=L++[r]∧r.n≤(p:Nat)∧1≤r.n:=by
  obtain ⟨L,m,e,m1,m2⟩:=AH2 (K:=s.K) hb.1 (by rw [hb.2];exact h0)
  exact ⟨L,_,e,by dsimp only;omega,by dsimp only;omega⟩
 have e0:I8 s.K (p+1)=L++[⟨r.p,r.n+1,r.k⟩]:=by
  show (if s.K p=0 then _ else if 0 < p∧s.K (p - 1)=s.K p then bump (I8 s.K p) else _)=_
  rw [if_neg h0,if_pos hb,hR,AI9]
 have hk1:(refK s.K s.G s.B (stA s.l s.C s.H))[(((p:Nat):Int) - 1).toNat]? = some (.int .i64 (s.K (p - 1))):=by rw [show (((p:Nat):Int) - 1).toNat=p - 1 by omega];exact P9 (by omega)
 have hp1:IntKind.i64.wrap (((p:Nat):Int) - 1)=((p - 1:Nat):Int):=by rw [IntWalk.i64_in _ ⟨by omega,by omega⟩];omega
 have hlL:(L++[r]).length=L.length+1:=by simp
 rw [hR,hlL] at hL0
 have hn0:L.length+1 ≠ 0:=by omega
 have hn1:(L++[r]).length ≠ 0:=by omega
 have hix:(((L.length+1:Nat):Int) - 1).toNat=L.length:=by omega
 have hg:(flat rnA (L++[r]))[(((L.length+1:Nat):Int) - 1).toNat * 3+1]? = some (.int .i64 r.n):=by rw [hix];exact Ak6 rfl
 have hs:(flat rnA (L++[r])).set ((((L.length+1:Nat):Int) - 1).toNat * 3+1) (.int .i64 (r.n+1))=flat rnA (L++[⟨r.p,r.n+1,r.k⟩]):=by rw [hix];exact Ak5 rfl
 have hfl:(flat rnA (L++[r])).length=(L.length+1) * 3:=by rw [AH4,hlL]
 rw [hb.2] at hk1
 have e1:R5 s.G (p+1)=R5 s.G p:=if_neg hu
 have e2:=AV4 hd
 unfold skel
 dsimp only
 rw [hR,hlL,AZ7 hn0,AL2 hn1]
 (refine wtk ?_;repeat' (first|with_reducible refine And.intro ?_ ?_|intro hsp))
 all_goals first|(exfalso;exact hu ⟨(by first|omega|fail),(by first|assumption|fail)⟩)|skip
 all_goals first|(exfalso;exact hd ⟨(by first|assumption|fail),(by first|assumption|fail)⟩)|skip
 all_goals first|(exfalso;omega)|skip
 all_goals exact D9 (p+1) [] (by (try dsimp only);omega) (by first|omega|(dsimp only;omega)) rfl (by ((try dsimp only);rw [e0,e1,e2]);exact AG8)
end
end Go.Proofs.YtphggldkligldaaGreat
namespace Go.Proofs.YtphggldkligldaaGreat
open Go Go.Am Go.Pol
open Go.Proofs.YtphggldkligldaaGreat renaming plx_Tj → plx
open Go.Proofs.YtphggldkligldaaGreat renaming ppx_Tj → ppx
section
variable {s:Sy} {o:Nat} {ho:o=66624} {hlen:s.l.length≤100000} {p:Nat}
theorem rd_bmp_01 (hp4:p < 1024) (h0:¬ s.K p=0) (hb:0 < p∧s.K (p - 1)=s.K p) (hu:¬ (p % 16=0∧s.G (p / 16)=true)) (hd:s.K p=2∧¬ x9 (s.B p)):(skel s o ho hlen).1 p:=by
 have hL0:=Y5 (K:=s.K) (n:=p)
 have hL1:=Z0 (G:=s.G) (n:=p)
 have hL2:=Z5 (B:=s.B2) (n:=p)
 have hst:=U8 (K:=s.K) (G:=s.G) (B:=s.B) ho (p8 (l:=s.l) (C:=s.C) (H:=s.H))
 have hru:=X3 (K:=s.K) (G:=s.G) (B:=s.B) (l:=s.l) (C:=s.C) (H:=s.H) ho
 have hk:(refK s.K s.G s.B (stA s.l s.C s.H))[p]? = some (.int .i64 (s.K p)):=P9 hp4
 have hh:(refK s.K s.G s.B (stA s.l s.C s.H))[1024+p / 16]? = some (.bool (s.G (p / 16))):=d9 (by omega)
 have hw16:=AY1 (q:=p) (by omega)
 have ht16:((p:Nat):Int).tmod 16=((p % 16:Nat):Int):=by rw [Int.tmod_eq_emod_of_nonneg (by omega)];omega
 have hby:=Y6 (K:=s.K) (G:=s.G) (B:=s.B) (P:=stA s.l s.C s.H) hp4
 have hyl:=by_len (s.B p)
 have hyz:=AL6 (s.B p)
 generalize hy:byA (s.B p)=y at hby hyl hyz
 obtain ⟨L,r,hR,er⟩:∃ (L:List Rn) (r:Rn),I8 s.K p=L++[r]∧r.n≤(p:Nat)∧1≤r.n:=by
  obtain ⟨L,m,e,m1,m2⟩:=AH2 (K:=s.K) hb.1 (by rw [hb.2];exact h0)
  exact ⟨L,_,e,by dsimp only;omega,by dsimp only;omega⟩
 have e0:I8 s.K (p+1)=L++[⟨r.p,r.n+1,r.k⟩]:=by
  show (if s.K p=0 then _ else if 0 < p∧s.K (p - 1)=s.K p then bump (I8 s.K p) else _)=_
  rw [if_neg h0,if_pos hb,hR,AI9]
 have hk1:(refK s.K s.G s.B (stA s.l s.C s.H))[(((p:Nat):Int) - 1).toNat]? = some (.int .i64 (s.K (p - 1))):=by rw [show (((p:Nat):Int) - 1).toNat=p - 1 by omega];exact P9 (by omega)
 have hp1:IntKind.i64.wrap (((p:Nat):Int) - 1)=((p - 1:Nat):Int):=by rw [IntWalk.i64_in _ ⟨by omega,by omega⟩];omega
 have hlL:(L++[r]).length=L.length+1:=by simp
 rw [hR,hlL] at hL0
 have hn0:L.length+1 ≠ 0:=by omega
 have hn1:(L++[r]).length ≠ 0:=by omega
 have hix:(((L.length+1:Nat):Int) - 1).toNat=L.length:=by omega
 have hg:(flat rnA (L++[r]))[(((L.length+1:Nat):Int) - 1).toNat * 3+1]? = some (.int .i64 r.n):=by rw [hix];exact Ak6 rfl
 have hs:(flat rnA (L++[r])).set ((((L.length+1:Nat):Int) - 1).toNat * 3+1) (.int .i64 (r.n+1))=flat rnA (L++[⟨r.p,r.n+1,r.k⟩]):=by rw [hix];exact Ak5 rfl
 have hfl:(flat rnA (L++[r])).length=(L.length+1) * 3:=by rw [AH4,hlL]
 rw [hb.2] at hk1
 have e1:R5 s.G (p+1)=R5 s.G p:=if_neg hu
 have e2:=AX8 hd
 obtain ⟨hd1,hd2⟩:=hd
 unfold skel
 dsimp only
 rw [hR,hlL,AZ7 hn0,AL2 hn1]
 (refine wtk ?_;repeat' (first|with_reducible refine And.intro ?_ ?_|intro hsp))
 all_goals first|(exfalso;exact hu ⟨(by first|omega|fail),(by first|assumption|fail)⟩)|skip
 all_goals first|(exfalso;omega)|skip
 all_goals exact D9 (p+1) [(12,42)] (by (try dsimp only);omega) (by first|omega|(dsimp only;omega)) rfl (by ((try dsimp only);rw [e0,e1,e2]);exact AG8)
end
end Go.Proofs.YtphggldkligldaaGreat
namespace Go.Proofs.YtphggldkligldaaGreat
open Go Go.Am Go.Pol
open Go.Proofs.YtphggldkligldaaGreat renaming plx_Tj → plx
open Go.Proofs.YtphggldkligldaaGreat renaming ppx_Tj → ppx
section
variable {s:Sy} {o:Nat} {ho:o=66624} {hlen:s.l.length≤100000} {p:Nat}
theorem rd_bmp_10 (hp4:p < 1024) (h0:¬ s.K p=0) (hb:0 < p∧s.K (p - 1)=s.K p) (hu:p % 16=0∧s.G (p / 16)=true) (hd:¬ (s.K p=2∧¬ x9 (s.B p))):(skel s o ho hlen).1 p:=by
 have hL0:=Y5 (K:=s.K) (n:=p)
 have hL1:=Z0 (G:=s.G) (n:=p)
 have hL2:=Z5 (B:=s.B2) (n:=p)
 have hst:=U8 (K:=s.K) (G:=s.G) (B:=s.B) ho (p8 (l:=s.l) (C:=s.C) (H:=s.H))
 have hru:=X3 (K:=s.K) (G:=s.G) (B:=s.B) (l:=s.l) (C:=s.C) (H:=s.H) ho
 have hk:(refK s.K s.G s.B (stA s.l s.C s.H))[p]? = some (.int .i64 (s.K p)):=P9 hp4
 have hh:(refK s.K s.G s.B (stA s.l s.C s.H))[1024+p / 16]? = some (.bool (s.G (p / 16))):=d9 (by omega)
 have hw16:=AY1 (q:=p) (by omega)
 have ht16:((p:Nat):Int).tmod 16=((p % 16:Nat):Int):=by rw [Int.tmod_eq_emod_of_nonneg (by omega)];omega
 have hby:=Y6 (K:=s.K) (G:=s.G) (B:=s.B) (P:=stA s.l s.C s.H) hp4
 have hyl:=by_len (s.B p)
 have hyz:=AL6 (s.B p)
 generalize hy:byA (s.B p)=y at hby hyl hyz
 obtain ⟨L,r,hR,er⟩:∃ (L:List Rn) (r:Rn),I8 s.K p=L++[r]∧r.n≤(p:Nat)∧1≤r.n:=by
  obtain ⟨L,m,e,m1,m2⟩:=AH2 (K:=s.K) hb.1 (by rw [hb.2];exact h0)
  exact ⟨L,_,e,by dsimp only;omega,by dsimp only;omega⟩
 have e0:I8 s.K (p+1)=L++[⟨r.p,r.n+1,r.k⟩]:=by
  show (if s.K p=0 then _ else if 0 < p∧s.K (p - 1)=s.K p then bump (I8 s.K p) else _)=_
  rw [if_neg h0,if_pos hb,hR,AI9]
 have hk1:(refK s.K s.G s.B (stA s.l s.C s.H))[(((p:Nat):Int) - 1).toNat]? = some (.int .i64 (s.K (p - 1))):=by rw [show (((p:Nat):Int) - 1).toNat=p - 1 by omega];exact P9 (by omega)
 have hp1:IntKind.i64.wrap (((p:Nat):Int) - 1)=((p - 1:Nat):Int):=by rw [IntWalk.i64_in _ ⟨by omega,by omega⟩];omega
 have hlL:(L++[r]).length=L.length+1:=by simp
 rw [hR,hlL] at hL0
 have hn0:L.length+1 ≠ 0:=by omega
 have hn1:(L++[r]).length ≠ 0:=by omega
 have hix:(((L.length+1:Nat):Int) - 1).toNat=L.length:=by omega
 have hg:(flat rnA (L++[r]))[(((L.length+1:Nat):Int) - 1).toNat * 3+1]? = some (.int .i64 r.n):=by rw [hix];exact Ak6 rfl
 have hs:(flat rnA (L++[r])).set ((((L.length+1:Nat):Int) - 1).toNat * 3+1) (.int .i64 (r.n+1))=flat rnA (L++[⟨r.p,r.n+1,r.k⟩]):=by rw [hix];exact Ak5 rfl
 have hfl:(flat rnA (L++[r])).length=(L.length+1) * 3:=by rw [AH4,hlL]
 rw [hb.2] at hk1
 have e1:R5 s.G (p+1)=R5 s.G p++[((p:Nat):Int)]:=if_pos hu
 rw [hu.2] at hh
 have e2:=AV4 hd
 unfold skel
 dsimp only
 rw [hR,hlL,AZ7 hn0,AL2 hn1]
 (refine wtk ?_;repeat' (first|with_reducible refine And.intro ?_ ?_|intro hsp))
 all_goals first|(exfalso;exact hd ⟨(by first|assumption|fail),(by first|assumption|fail)⟩)|skip
 all_goals first|(exfalso;omega)|skip
 all_goals exact D9 (p+1) [(11,32)] (by (try dsimp only);omega) (by first|omega|(dsimp only;omega)) rfl (by ((try dsimp only);rw [e0,e1,e2]);exact AG8)
end
end Go.Proofs.YtphggldkligldaaGreat
namespace Go.Proofs.YtphggldkligldaaGreat
open Go Go.Am Go.Pol
open Go.Proofs.YtphggldkligldaaGreat renaming plx_Tj → plx
open Go.Proofs.YtphggldkligldaaGreat renaming ppx_Tj → ppx
section
variable {s:Sy} {o:Nat} {ho:o=66624} {hlen:s.l.length≤100000} {p:Nat}
theorem rd_bmp_11 (hp4:p < 1024) (h0:¬ s.K p=0) (hb:0 < p∧s.K (p - 1)=s.K p) (hu:p % 16=0∧s.G (p / 16)=true) (hd:s.K p=2∧¬ x9 (s.B p)):(skel s o ho hlen).1 p:=by
 have hL0:=Y5 (K:=s.K) (n:=p)
 have hL1:=Z0 (G:=s.G) (n:=p)
 have hL2:=Z5 (B:=s.B2) (n:=p)
 have hst:=U8 (K:=s.K) (G:=s.G) (B:=s.B) ho (p8 (l:=s.l) (C:=s.C) (H:=s.H))
 have hru:=X3 (K:=s.K) (G:=s.G) (B:=s.B) (l:=s.l) (C:=s.C) (H:=s.H) ho
 have hk:(refK s.K s.G s.B (stA s.l s.C s.H))[p]? = some (.int .i64 (s.K p)):=P9 hp4
 have hh:(refK s.K s.G s.B (stA s.l s.C s.H))[1024+p / 16]? = some (.bool (s.G (p / 16))):=d9 (by omega)
 have hw16:=AY1 (q:=p) (by omega)
 have ht16:((p:Nat):Int).tmod 16=((p % 16:Nat):Int):=by rw [Int.tmod_eq_emod_of_nonneg (by omega)];omega
 have hby:=Y6 (K:=s.K) (G:=s.G) (B:=s.B) (P:=stA s.l s.C s.H) hp4
 have hyl:=by_len (s.B p)
 have hyz:=AL6 (s.B p)
 generalize hy:byA (s.B p)=y at hby hyl hyz
 obtain ⟨L,r,hR,er⟩:∃ (L:List Rn) (r:Rn),I8 s.K p=L++[r]∧r.n≤(p:Nat)∧1≤r.n:=by
  obtain ⟨L,m,e,m1,m2⟩:=AH2 (K:=s.K) hb.1 (by rw [hb.2];exact h0)
  exact ⟨L,_,e,by dsimp only;omega,by dsimp only;omega⟩
 have e0:I8 s.K (p+1)=L++[⟨r.p,r.n+1,r.k⟩]:=by
  show (if s.K p=0 then _ else if 0 < p∧s.K (p - 1)=s.K p then bump (I8 s.K p) else _)=_
  rw [if_neg h0,if_pos hb,hR,AI9]
 have hk1:(refK s.K s.G s.B (stA s.l s.C s.H))[(((p:Nat):Int) - 1).toNat]? = some (.int .i64 (s.K (p - 1))):=by rw [show (((p:Nat):Int) - 1).toNat=p - 1 by omega];exact P9 (by omega)
 have hp1:IntKind.i64.wrap (((p:Nat):Int) - 1)=((p - 1:Nat):Int):=by rw [IntWalk.i64_in _ ⟨by omega,by omega⟩];omega
 have hlL:(L++[r]).length=L.length+1:=by simp
 rw [hR,hlL] at hL0
 have hn0:L.length+1 ≠ 0:=by omega
 have hn1:(L++[r]).length ≠ 0:=by omega
 have hix:(((L.length+1:Nat):Int) - 1).toNat=L.length:=by omega
 have hg:(flat rnA (L++[r]))[(((L.length+1:Nat):Int) - 1).toNat * 3+1]? = some (.int .i64 r.n):=by rw [hix];exact Ak6 rfl
 have hs:(flat rnA (L++[r])).set ((((L.length+1:Nat):Int) - 1).toNat * 3+1) (.int .i64 (r.n+1))=flat rnA (L++[⟨r.p,r.n+1,r.k⟩]):=by rw [hix];exact Ak5 rfl
 have hfl:(flat rnA (L++[r])).length=(L.length+1) * 3:=by rw [AH4,hlL]
 rw [hb.2] at hk1
 have e1:R5 s.G (p+1)=R5 s.G p++[((p:Nat):Int)]:=if_pos hu
 rw [hu.2] at hh
 have e2:=AX8 hd
 obtain ⟨hd1,hd2⟩:=hd
 unfold skel
 dsimp only
 rw [hR,hlL,AZ7 hn0,AL2 hn1]
 (refine wtk ?_;repeat' (first|with_reducible refine And.intro ?_ ?_|intro hsp))
 all_goals first|(exfalso;omega)|skip
 all_goals exact D9 (p+1) [(11,32),(12,44)] (by (try dsimp only);omega) (by first|omega|(dsimp only;omega)) rfl (by ((try dsimp only);rw [e0,e1,e2]);exact AG8)
end
end Go.Proofs.YtphggldkligldaaGreat
namespace Go.Proofs.YtphggldkligldaaGreat
open Go Go.Am Go.Pol
section
variable {s:Sy} {o:Nat} {ho:o=66624} {hlen:s.l.length≤100000} {p:Nat}
theorem q_saveR (hlen:s.l.length≤100000):u7 23 [] s.b (.agg (vsA s.saveR)) s.b:=(skel s 66624 rfl hlen).2 fun p hp =>
 if hp4:p < 1024 then
  if h0:s.K p=0 then
   if hu:p % 16=0∧s.G (p / 16)=true then rd_free_h hp4 h0 hu else rd_free hp4 h0 hu
  else if hb:0 < p∧s.K (p - 1)=s.K p then
   if hu:p % 16=0∧s.G (p / 16)=true then
    if hd:s.K p=2∧¬ x9 (s.B p) then rd_bmp_11 hp4 h0 hb hu hd else rd_bmp_10 hp4 h0 hb hu hd
   else
    if hd:s.K p=2∧¬ x9 (s.B p) then rd_bmp_01 hp4 h0 hb hu hd else rd_bmp_00 hp4 h0 hb hu hd
  else if hp0:0 < p then
   if hu:p % 16=0∧s.G (p / 16)=true then
    if hd:s.K p=2∧¬ x9 (s.B p) then rd_new_11 hp4 hp0 h0 hb hu hd else rd_new_10 hp4 hp0 h0 hb hu hd
   else
    if hd:s.K p=2∧¬ x9 (s.B p) then rd_new_01 hp4 hp0 h0 hb hu hd else rd_new_00 hp4 hp0 h0 hb hu hd
  else
   if hu:p % 16=0∧s.G (p / 16)=true then
    if hd:s.K p=2∧¬ x9 (s.B p) then rd_nul_11 hp4 hp0 h0 hb hu hd else rd_nul_10 hp4 hp0 h0 hb hu hd
   else
    if hd:s.K p=2∧¬ x9 (s.B p) then rd_nul_01 hp4 hp0 h0 hb hu hd else rd_nul_00 hp4 hp0 h0 hb hu hd
 else rd_end (by omega)
theorem q_save (hg:GoodS s):u7 23 [] s.b (.agg (vsA s.save)) s.b:=by
 have e:s.saveR=s.save:=saveR_eq ⟨hg.kind,hg.huge,hg.zero,hg.cK,hg.cB⟩
 rw [← e]
 exact q_saveR (by have:=(Aa6 hg.hv).2.1;omega)
end
end Go.Proofs.YtphggldkligldaaGreat
namespace Go.Proofs.YtphggldkligldaaGreat.Sh
open Go Go.Am Go.Pol
section
variable {q:Bk} {t:TS}
end
end Go.Proofs.YtphggldkligldaaGreat.Sh
namespace Go.Proofs.YtphggldkligldaaGreat.Sh
open Go Go.Am Go.Pol
section
variable {q:Bk} {t:TS}
end
end Go.Proofs.YtphggldkligldaaGreat.Sh
namespace Go.Proofs.YtphggldkligldaaGreat.Sh
open Go Go.Am Go.Pol
section
variable {q:Bk} {t:TS}
end
end Go.Proofs.YtphggldkligldaaGreat.Sh
namespace Go.Proofs.YtphggldkligldaaGreat.Sh
open Go Go.Am Go.Pol
section
variable {q:Bk} {t:TS}
end
end Go.Proofs.YtphggldkligldaaGreat.Sh
namespace Go.Proofs.YtphggldkligldaaGreat.Sh
open Go Go.Am Go.Pol
theorem wx_Pl {p q:Prop} (hq:q) (h:X0 q→p:=by (intro hQz;((repeat' ((try (conv=>whnf));first|refine sxA ?_|refine sxF ?_|refine G9 (by assumption) ?_|refine M4 hr rfl (by decide) ?_|refine sxH ?_|((with_reducible first|apply M9 hQz|apply N7 hQz)<;>(try intro hsp hQz))|exact hQz.out))<;>(try (conv=>whnf))))):p:=h ⟨hq⟩
section
variable {q:Bk} {t:TS}
end
structure LocDN (a n:Int) (s:Sy) (q:Bk):Prop where
 out:AY7 Tryz.prog G0 18 [.ptr 0 0,.int .i64 a,.int .i64 n] [(0,.cells s.b)] 1 fun x h=>x = .tup [.ptr 1 0,.int .i64 0]∧h=⟨bdN q 1 0,2⟩
theorem cx_DN {a n:Int} {s:Sy} {q:Bk} {g nx:Nat} {l:List (Nat × AObj)} {K:AV→Hp→Prop} (hc:LocDN a n s q) (h0:lk l g=some (.cells s.b)) (hlt:g < nx)
  (hk:AI1 [g] l fun l2=>K (.tup [.ptr nx 0,.int .i64 0]) ⟨([(nx,.cells [.ptr g 0,.int .i64 (q.a:Nat),.int .i64 (q.n:Nat),.isl (q.L.map vwC)]),(g,.cells q.s.b)]:List (Nat × AObj))++l2,nx+1⟩):AG2 Tryz.prog G0 (.fn 18 [] []) [.ptr g 0,.int .i64 a,.int .i64 n] ⟨l,nx⟩ K:=by
 have e0:enter [g] g 0:=rfl
 have k0:back [g] nx 0 g:=rfl
 have k1:back [g] nx 1 nx:=rfl
 refine AF0 (r':=.tup [.ptr nx 0,.int .i64 0]) (l1:=bdN q nx g) [g] hc.out F6 rfl (.cons e0 h0 (C9 F8) .nil)
  ?_ (by intro x hx;simp only [List.mem_cons,List.not_mem_nil,or_false] at hx;omega) (Au4 ⟨J4 k1,D5 A8,trivial⟩)
  (.cons k1 ⟨J4 k0,D5 A8,D5 A8,D5 J2,trivial⟩ (.cons k0 (C9 F8) .nil)) hk
 simp only [List.nil_append,List.append_nil]
 exact ⟨J4 e0,D5 A8,D5 A8,trivial⟩
theorem AN7 (a n:Int):F4 54 [.int .i64 a,.int .i64 n] (.bool (decide (stat a n))):=by
 refine F4.mk (I6 E9 b54 F6 ⟨A8,A8,trivial⟩ A9 rfl ?_)
 unfold c54
 (refine wx_Pl ?_;repeat' (first|with_reducible refine And.intro ?_ ?_|intro hsp))
 all_goals exact Q6 (by first|exact (decide_eq_false fun h:stat a n=>by obtain ⟨h1,h2,h3,h4⟩:=h;omega).symm|exact decide_eq_decide.2 ⟨fun h=>⟨by omega,by omega,by omega,by omega⟩,fun h=>by obtain ⟨h1,h2,h3,h4⟩:=h;omega⟩)
section
variable {s:Sy} {a n:Int}
theorem d_New_far (hn:¬ stat a n):u7 18 [.int .i64 a,.int .i64 n] s.b (.tup [.nilp,.int .i64 7]) s.b:=by
 have hst:=AN7 a n
 rw [decide_eq_false hn] at hst
 refine u7.mk (G5 E9 b18 rfl ?_) F8 F8 O5 V9
 unfold c18
 (refine wx_Pl ?_;repeat' (first|with_reducible refine And.intro ?_ ?_|intro hsp))
 all_goals exact V7 rfl V9 rfl F8
theorem d_New_no (hg:GoodS s) (hn:stat a n) (he:(s.chg a n 0 1 0).1 ≠ 0):u7 18 [.int .i64 a,.int .i64 n] s.b (.tup [.nilp,.int .i64 (s.chg a n 0 1 0).1]) (s.chg a n 0 1 0).2.b:=by
 have hst:=AN7 a n
 rw [decide_eq_true hn] at hst
 have hr:=BF4 (a:=a) (n:=n) hg
 refine u7.mk (G5 E9 b18 rfl ?_) F8 F8 O5 V9
 unfold c18
 generalize s.chg a n 0 1 0=r at *
 (refine wx_Pl ?_;repeat' (first|with_reducible refine And.intro ?_ ?_|intro hsp))
 all_goals first|exact V7 rfl V9 rfl F8|(exfalso;omega)
theorem d_New (hg:GoodS s) (hn:stat a n) (he:(s.chg a n 0 1 0).1=0):LocDN a n s ⟨a.toNat,n.toNat,[],(s.chg a n 0 1 0).2⟩:=by
 have hst:=AN7 a n
 rw [decide_eq_true hn] at hst
 have hr:=BF4 (a:=a) (n:=n) hg
 rw [he] at hr
 have ha:((a.toNat:Nat):Int)=a:=Int.toNat_of_nonneg hn.1
 have hna:((n.toNat:Nat):Int)=n:=Int.toNat_of_nonneg (by have:=hn.2.2.1;omega)
 refine LocDN.mk (G5 E9 b18 rfl ?_)
 unfold c18
 unfold bdN
 dsimp only
 rw [ha,hna]
 generalize s.chg a n 0 1 0=r at *
 (refine wx_Pl ?_;repeat' (first|with_reducible refine And.intro ?_ ?_|intro hsp))
 all_goals first|(exfalso;omega)|skip
 have hs:AH8 (rn []) ⟨(1,.cells [.ptr 0 0,.int .i64 a,.int .i64 n,.nils])::([(0,.cells r.2.b)]++[]),1+1⟩ ⟨[(1,.cells [.ptr 0 0,.int .i64 a,.int .i64 n,.isl (List.map vwC [])]),(0,.cells r.2.b)],2⟩:=fun j o hj=>by
  simp only [lk] at hj
  split at hj
  ·rename_i e;subst e;exact ⟨_,rfl⟩
  ·split at hj
   ·rename_i e;subst e;exact ⟨_,rfl⟩
   ·cases hj
 refine y9 [] rfl (by decide) (Q5 rfl) (AG9 (C8 (X7 rfl (show 1 < 2 by decide)) (C8 (L8 rfl) H7))) ?_ ⟨rfl,rfl⟩
 exact J5 (show 1 < 2 by decide) rfl (C8 (X7 (i:=0) rfl (show 0 < 2 by decide)) (C8 (L8 rfl) (C8 (L8 rfl) (C8 AZ3 H7)))) (F9 hs (show 0 < 2 by decide) rfl rfl F8 J6)
end
end Go.Proofs.YtphggldkligldaaGreat.Sh
