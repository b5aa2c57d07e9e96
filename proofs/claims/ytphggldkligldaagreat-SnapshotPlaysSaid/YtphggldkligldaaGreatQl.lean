/-
 Save of the document.
 Save of the document: its end,and free pages.
 Save of the document: a new run.
 Save of the document: a new run.
 Save of the document: a new run.
 Save of the document: a new run.
 Save of the document: a run at page 0.
 Save of the document: a run at page 0.
 Save of the document: a run at page 0.
 Save of the document: a run at page 0.
 Save of the document: a run goes on.
 Save of the document: a run goes on.
 Save of the document: a run goes on.
 Save of the document: a run goes on.
 Save of the document.
-/
import Derived.Test.YtphggldkligldaaGreatVmE
set_option linter.unusedSimpArgs false
set_option linter.unusedVariables false
set_option maxHeartbeats 1600000
namespace Go.Pol
open Go.Am
def Sy.B2 (s:Sy) (p:Nat):Nat→Int:=if s.K p=2 then s.B p else fun _=>0
theorem saveR_B2 {s:Sy}:s.saveR=⟨I6 s.K 1024,O9 s.G 1024,AE5 s.B2 1024,s.l,s.C,s.H⟩:=rfl
theorem AW9 {s:Sy} {p:Nat} (h:¬ (s.K p=2∧¬ AH7 (s.B p))):AE5 s.B2 (p+1)=AE5 s.B2 p:=by
 refine if_pos ?_
 unfold Sy.B2
 split
 ·exact Classical.byContradiction fun h2=>h ⟨by assumption,h2⟩
 ·intro _ _;rfl
theorem AY5 {s:Sy} {p:Nat} (h:s.K p=2∧¬ AH7 (s.B p)):AE5 s.B2 (p+1)=AE5 s.B2 p++[⟨((p:Nat):Int),s.B p⟩]:=by
 have e:s.B2 p=s.B p:=if_pos h.1
 show (if AH7 (s.B2 p) then _ else _++[(⟨((p:Nat):Int),s.B2 p⟩:Dt)])=_
 rw [e,if_neg h.2]
theorem At9 {L:List Rn} {r:Rn}:flat rnA (L++[r])=flat rnA L++rnA r:=by simp [flat]
theorem AJ4 {L:List Rn}:(flat rnA L).length=L.length * 3:=I8 AT6 L
theorem An0 {L:List Rn} {r:Rn} {m:Nat} (h:L.length=m):(flat rnA (L++[r]))[m * 3+1]? = some (.int .i64 r.n):=by
 rw [At9,List.getElem?_append_right (by rw [AJ4];omega),AJ4,h,show m * 3+1 - m * 3=1 by omega];rfl
theorem Am9 {L:List Rn} {r:Rn} {m:Nat} {v:Int} (h:L.length=m):(flat rnA (L++[r])).set (m * 3+1) (.int .i64 v)=flat rnA (L++[⟨r.p,v,r.k⟩]):=by
 rw [At9,List.set_append_right _ _ (by rw [AJ4];omega),AJ4,h,show m * 3+1 - m * 3=1 by omega,At9];rfl
end Go.Pol
namespace Go.Am
theorem As5 {α:Type} {f:α→List AV} {L:List α} {i:Nat} {r:List (Nat × AObj)} {ks:List Nat} (h:∀ j o,lk r j=some o→j ∈ ks):∀ j o,lk (AE8 i f L++r) j=some o→j ∈ i::ks:=fun j o hj=>by
 rcases Al3 hj with hj|hj
 ·obtain ⟨rfl,_⟩:=AR1 hj;exact List.mem_cons_self ..
 ·exact List.mem_cons_of_mem _ (h j o hj)
theorem lk_nil_in:∀ j o,lk [] j=some o→j ∈ ([]:List Nat):=fun j o hj=>by cases hj
theorem tl_not {ren:List (Nat × Nat)} {l0 tl:List (Nat × AObj)} {ks:List Nat} {d:Nat} (hk:∀ j o,lk tl j=some o→j ∈ ks) (hn:((l0.map (·.1))++ks).all (fun j=>!(Nat.beq (rn ren j) d))=true):∀ j o,lk (l0++tl) j=some o→rn ren j ≠ d:=fun j o hj e=>by
 rw [List.all_eq_true] at hn
 have hm:j ∈ (l0.map (·.1))++ks:=by
  rcases Al3 hj with hj|hj
  ·obtain ⟨q,hq,rfl⟩:=lk_mem hj;exact List.mem_append_left _ (List.mem_map.2 ⟨q,hq,rfl⟩)
  ·exact List.mem_append_right _ (hk j o hj)
 have:=hn j hm
 rw [e] at this;simp at this
end Go.Am
namespace Go.Proofs.YtphggldkligldaaGreat
open Go Go.Am Go.Pol
open Go.Proofs.YtphggldkligldaaGreat renaming plx_Tj → plx
open Go.Proofs.YtphggldkligldaaGreat renaming ppx_Tj → ppx
theorem wtk {p q:Prop} (hq:q) (h:R7 q→p:=by (intro hQz;((repeat' ((try (conv=>whnf));first|(with_reducible first|refine U3 ?_|refine P7 ?_|refine U6 ?_|refine U8 ?_|refine Q7 ?_|refine Z7 ?_|refine U1 ?_|refine Z6 rfl ?_|refine U2 ?_|refine M7 ?_|refine Q5 ?_|refine Q6 ?_|refine U7 ?_|refine M6 ?_|refine P8 (by decide +kernel) ?_|refine O8 (by decide +kernel) ?_|refine AL1 ?_|refine AL2 ?_|refine Aw7 ?_|refine AC9 ?_|refine AO8 ?_|refine Ao5 (by assumption) ?_|refine Ao6 (by assumption) ?_|refine AC8 (by omega) ?_|refine AO7 ?_)|((with_reducible refine AO9 ?_ ?_);focus omega)|((with_reducible refine AP0 ?_ ?_);focus omega)|((with_reducible apply L8 hQz)<;>(try intro hsp hQz))|((with_reducible refine Aw5 ?_ ?_);focus (first|omega|rfl|assumption|decide|(simp only [List.length_map,List.length_cons,List.length_nil];omega)|(simp only [List.length_cons];omega)))|(with_reducible first|refine AO4 ?_|refine AC7 ?_|refine AC6 ?_|refine AO6 ?_|refine AO5 ?_|refine AO2 ?_|refine Aw3 ?_|refine M0 ?_|refine AC4 ?_|refine U5 ?_|refine U4 ?_|refine M4 ?_|refine AO3 (by omega) ?_|refine AC5 (by omega) ?_)|refine J2 (by with_reducible assumption) ?_|refine AC0 (by with_reducible assumption) ?_|refine E9 (by omega) (by with_reducible assumption) ?_|refine Y5 (by rw [AK0];omega) rfl ?_|refine Y0 (by rw [List.length_drop,AK0];omega) (by with_reducible assumption) ?_|refine Y0 (by omega) (y_take (by with_reducible assumption)) ?_|refine Y5 (Nat.zero_le _) y_drop ?_|refine AK8 (by first|(simp only [List.length_cons,List.length_nil];omega)|fail) (over_y1 (by with_reducible assumption)) ?_|refine Au5 (by with_reducible assumption) ?_|refine del_tS ?_|refine del_tO rfl ?_|refine del_n ?_|(with_reducible first|refine AF9 ?_|refine Ax5.mk (by kernel_rfl) ?_|refine AH4 rfl ?_|refine AG4 (by decide +kernel) ?_|refine AG1 rfl ?_)|refine AA2 (f:=rnA) (l2:=[⟨((p:Nat):Int),1,s.K p⟩]) AT6 (Y7 rfl (by first|rfl|(simp;done)|(simp [*];done))) (fun hz=>by first|(simp [lk,X4,X3 hz,G5 hz];done)|rfl) (fun hz=>by first|(simp [lk,X4,AS7,BE0 hz,j6 hz];done)|rfl) (by first|rfl|(simp [flat,rnA];done)|(simp [flat,rnA, *];done)) (by decide) ⟨by omega,by omega⟩ rfl ?_|((with_reducible apply Ag1 hQz);intro hQa hQb;refine AA1 (f:=rnA) (l2:=[⟨((p:Nat):Int),1,s.K p⟩]) AT6 (Y7 rfl (by first|rfl|(simp;done)|(simp [*];done))) (fun hz=>by first|(simp [lk,X4,X3 hz,G5 hz];done)|rfl) (by first|rfl|(simp [flat,rnA];done)|(simp [flat,rnA, *];done)) (by decide) ⟨by omega,by omega⟩ ?_ ?_<;>intro hzz<;>first|(have hQz:=R7.mk (hQa.out hzz))|(have hQz:=R7.mk (hQb.out hzz)))|refine AA2 (f:=inA) (l2:=[((p:Nat):Int)]) At2 (Y7 rfl (by first|rfl|(simp;done)|(simp [*];done))) (fun hz=>by first|(simp [lk,X4,X3 hz,G5 hz];done)|rfl) (fun hz=>by first|(simp [lk,X4,AS7,BE0 hz,j6 hz];done)|rfl) (by first|rfl|(simp [flat,inA];done)|(simp [flat,inA, *];done)) (by decide) ⟨by omega,by omega⟩ rfl ?_|((with_reducible apply Ag1 hQz);intro hQa hQb;refine AA1 (f:=inA) (l2:=[((p:Nat):Int)]) At2 (Y7 rfl (by first|rfl|(simp;done)|(simp [*];done))) (fun hz=>by first|(simp [lk,X4,X3 hz,G5 hz];done)|rfl) (by first|rfl|(simp [flat,inA];done)|(simp [flat,inA, *];done)) (by decide) ⟨by omega,by omega⟩ ?_ ?_<;>intro hzz<;>first|(have hQz:=R7.mk (hQa.out hzz))|(have hQz:=R7.mk (hQb.out hzz)))|refine AA2 (f:=dtA) (l2:=[⟨((p:Nat):Int),s.B p⟩]) Af6 (Y7 rfl (by first|rfl|(simp;done)|(simp [*];done))) (fun hz=>by first|(simp [lk,X4,X3 hz,G5 hz];done)|rfl) (fun hz=>by first|(simp [lk,X4,AS7,BE0 hz,j6 hz];done)|rfl) (by first|rfl|(simp [flat,dtA];done)|(simp [flat,dtA, *];done)) (by decide) ⟨by omega,by omega⟩ rfl ?_|((with_reducible apply Ag1 hQz);intro hQa hQb;refine AA1 (f:=dtA) (l2:=[⟨((p:Nat):Int),s.B p⟩]) Af6 (Y7 rfl (by first|rfl|(simp;done)|(simp [*];done))) (fun hz=>by first|(simp [lk,X4,X3 hz,G5 hz];done)|rfl) (by first|rfl|(simp [flat,dtA];done)|(simp [flat,dtA, *];done)) (by decide) ⟨by omega,by omega⟩ ?_ ?_<;>intro hzz<;>first|(have hQz:=R7.mk (hQa.out hzz))|(have hQz:=R7.mk (hQb.out hzz)))|refine AJ7 (BP9 (by omega) rfl (Nat.zero_le _)) ?_|refine AJ7 (Ab6 src_rl rfl rfl (by omega) (by omega)) ?_|refine M0 ?_|refine M4 ?_|refine AU1 rfl rfl ?_|refine AB0 ?_|refine Z4 rfl ?_|refine AU2 rfl ?_|refine AT9 rfl ?_|refine AH2 rfl ?_|refine V5 ?_|refine BB1.mk ?_|((with_reducible apply L9 hQz)<;>(try intro hsp hQz))|exact hQz.out))<;>(try (conv=>whnf))))):p:=h ⟨hq⟩
theorem wk_sl0 {σ:Nat→Nat} {h h':Hp} {d off cp:Nat} {L:List Rl} (h0:L.length=0:=by assumption):WkV Tryz.prog σ h h' (.sl d off 0 cp 4) (.isl (L.map rlA)):=fun c v hR hm hr=>by
 cases List.eq_nil_of_length_eq_zero h0
 obtain ⟨_,_,cap,rfl,_,h5,h6,_⟩:=AQ1.1 hr
 exact AG5.2 ⟨_,cap,rfl,Nat.zero_le _,h6,fun hne=>absurd rfl hne⟩
section
variable {s:Sy}
noncomputable def skel (s:Sy) (o:Nat) (ho:o=66624) (hlen:s.l.length≤100000):{ T:Nat→Prop // (∀ p,p≤1024→T p)→AD5 23 [] s.b (.agg (vsA s.saveR)) s.b }:=by
 refine ⟨?T,fun step=>?h⟩
 case h =>
  have step:=R7.mk step
  refine AD5.mk (E8 D9 b23 rfl ?_) H8 H8 (fun x hx=>by cases hx) J3
  unfold c23
  unfold Sy.b
  rw [saveR_B2]
  rw [← ho]
  have hst:=U9 (K:=s.K) (G:=s.G) (B:=s.B) ho (p9 (l:=s.l) (C:=s.C) (H:=s.H))
  have hru:=X8 (K:=s.K) (G:=s.G) (B:=s.B) (l:=s.l) (C:=s.C) (H:=s.H) ho
  by_cases hl0:s.l.length=0
  ·(refine wtk ?_;repeat' (first|with_reducible refine And.intro ?_ ?_|intro hsp))
   (refine H9 [0,2] (fun (p:Nat)=>[(3,.ptr 2 0),(4,.int .i64 (p:Nat))]) (fun (p:Nat)=>⟨[(0,.cells (refK s.K s.G s.B (stA s.l s.C s.H))),(1,.cells [.nils,.nils,.nils,.nils,.int .i64 0,.int .i64 0,.int .i64 0,.int .i64 0,.int .i64 0,.int .i64 0,.int .i64 0,.int .i64 0,.int .i64 0,.int .i64 0,.int .i64 0,.int .i64 0,.int .i64 0,.int .i64 0]),(2,.cells [AN9 10 3 (I6 s.K p).length,AN9 11 1 (O9 s.G p).length,AN9 12 65 (AE5 s.B2 p).length,.isl (s.l.map rlA),.int .i64 (s.C 0),.int .i64 (s.C 1),.int .i64 (s.C 2),.int .i64 (s.C 3),.int .i64 (s.C 4),.int .i64 (s.C 5),.int .i64 (s.C 6),.int .i64 (s.H 0),.int .i64 (s.H 1),.int .i64 (s.H 2),.int .i64 (s.H 3),.int .i64 (s.H 4),.int .i64 (s.H 5),.int .i64 (s.H 6)])]++(AE8 10 rnA (I6 s.K p)++(AE8 11 inA (O9 s.G p)++(AE8 12 dtA (AE5 s.B2 p)++[]))),13⟩) (fun (p:Nat)=>p≤1024) (fun (p:Nat)=>1024 - p) (0) [] rfl (fun _=>by first|exact Nat.zero_le _|(dsimp only;omega)) ?_ (by ((try (conv=>whnf));exact AJ2)) ?_)
   ·exact Nat.zero_le _
   exact step.out
  ·(refine wtk ?_;repeat' (first|with_reducible refine And.intro ?_ ?_|intro hsp))
   (refine H9 [0,2] (fun (p:Nat)=>[(3,.ptr 2 0),(4,.int .i64 (p:Nat))]) (fun (p:Nat)=>⟨[(0,.cells (refK s.K s.G s.B (stA s.l s.C s.H))),(1,.cells [.nils,.nils,.nils,.nils,.int .i64 0,.int .i64 0,.int .i64 0,.int .i64 0,.int .i64 0,.int .i64 0,.int .i64 0,.int .i64 0,.int .i64 0,.int .i64 0,.int .i64 0,.int .i64 0,.int .i64 0,.int .i64 0]),(2,.cells [AN9 10 3 (I6 s.K p).length,AN9 11 1 (O9 s.G p).length,AN9 12 65 (AE5 s.B2 p).length,.isl (s.l.map rlA),.int .i64 (s.C 0),.int .i64 (s.C 1),.int .i64 (s.C 2),.int .i64 (s.C 3),.int .i64 (s.C 4),.int .i64 (s.C 5),.int .i64 (s.C 6),.int .i64 (s.H 0),.int .i64 (s.H 1),.int .i64 (s.H 2),.int .i64 (s.H 3),.int .i64 (s.H 4),.int .i64 (s.H 5),.int .i64 (s.H 6)])]++(AE8 10 rnA (I6 s.K p)++(AE8 11 inA (O9 s.G p)++(AE8 12 dtA (AE5 s.B2 p)++[]))),13⟩) (fun (p:Nat)=>p≤1024) (fun (p:Nat)=>1024 - p) (0) [] rfl (fun _=>by first|exact Nat.zero_le _|(dsimp only;omega)) ?_ (by ((try (conv=>whnf));exact AJ2)) ?_)
   ·exact Nat.zero_le _
   exact step.out
end
section
variable {s:Sy} {o:Nat} {ho:o=66624} {hlen:s.l.length≤100000} {p:Nat}
theorem rd_end (hp:p=1024):(skel s o ho hlen).1 p:=by
 have hL0:=Y9 (K:=s.K) (n:=p)
 have hL1:=Z0 (G:=s.G) (n:=p)
 have hL2:=Z5 (B:=s.B2) (n:=p)
 have hst:=U9 (K:=s.K) (G:=s.G) (B:=s.B) ho (p9 (l:=s.l) (C:=s.C) (H:=s.H))
 have hru:=X8 (K:=s.K) (G:=s.G) (B:=s.B) (l:=s.l) (C:=s.C) (H:=s.H) ho
 subst hp
 unfold skel
 dsimp only
 (refine wtk ?_;repeat' (first|with_reducible refine And.intro ?_ ?_|intro hsp))
 all_goals exact end_save3 (K4 D7)
theorem rd_free_h (hp4:p < 1024) (h0:s.K p=0) (hu:p % 16=0∧s.G (p / 16)=true):(skel s o ho hlen).1 p:=by
 have hL0:=Y9 (K:=s.K) (n:=p)
 have hL1:=Z0 (G:=s.G) (n:=p)
 have hL2:=Z5 (B:=s.B2) (n:=p)
 have hst:=U9 (K:=s.K) (G:=s.G) (B:=s.B) ho (p9 (l:=s.l) (C:=s.C) (H:=s.H))
 have hru:=X8 (K:=s.K) (G:=s.G) (B:=s.B) (l:=s.l) (C:=s.C) (H:=s.H) ho
 have hk:(refK s.K s.G s.B (stA s.l s.C s.H))[p]? = some (.int .i64 (s.K p)):=Q9 hp4
 have hh:(refK s.K s.G s.B (stA s.l s.C s.H))[1024+p / 16]? = some (.bool (s.G (p / 16))):=p8 (by omega)
 have hw16:=AY8 (q:=p) (by omega)
 have ht16:((p:Nat):Int).tmod 16=((p % 16:Nat):Int):=by rw [Int.tmod_eq_emod_of_nonneg (by omega)];omega
 have hby:=j3 (K:=s.K) (G:=s.G) (B:=s.B) (P:=stA s.l s.C s.H) hp4
 have hyl:=by_len (s.B p)
 have hyz:=AN4 (s.B p)
 generalize hy:byA (s.B p)=y at hby hyl hyz
 have e0:I6 s.K (p+1)=I6 s.K p:=if_pos h0
 have e2:=AW9 (s:=s) (p:=p) fun h=>by rw [h0] at h;exact absurd h.1 (by decide)
 have e1:O9 s.G (p+1)=O9 s.G p++[((p:Nat):Int)]:=if_pos hu
 rw [hu.2] at hh
 unfold skel
 dsimp only
 (refine wtk ?_;repeat' (first|with_reducible refine And.intro ?_ ?_|intro hsp))
 all_goals exact D8 (p+1) [(11,14)] (by (try dsimp only);omega) (by first|omega|(dsimp only;omega)) rfl (by ((try dsimp only);rw [e0,e1,e2]);exact AJ2)
theorem rd_free (hp4:p < 1024) (h0:s.K p=0) (hu:¬ (p % 16=0∧s.G (p / 16)=true)):(skel s o ho hlen).1 p:=by
 have hL0:=Y9 (K:=s.K) (n:=p)
 have hL1:=Z0 (G:=s.G) (n:=p)
 have hL2:=Z5 (B:=s.B2) (n:=p)
 have hst:=U9 (K:=s.K) (G:=s.G) (B:=s.B) ho (p9 (l:=s.l) (C:=s.C) (H:=s.H))
 have hru:=X8 (K:=s.K) (G:=s.G) (B:=s.B) (l:=s.l) (C:=s.C) (H:=s.H) ho
 have hk:(refK s.K s.G s.B (stA s.l s.C s.H))[p]? = some (.int .i64 (s.K p)):=Q9 hp4
 have hh:(refK s.K s.G s.B (stA s.l s.C s.H))[1024+p / 16]? = some (.bool (s.G (p / 16))):=p8 (by omega)
 have hw16:=AY8 (q:=p) (by omega)
 have ht16:((p:Nat):Int).tmod 16=((p % 16:Nat):Int):=by rw [Int.tmod_eq_emod_of_nonneg (by omega)];omega
 have hby:=j3 (K:=s.K) (G:=s.G) (B:=s.B) (P:=stA s.l s.C s.H) hp4
 have hyl:=by_len (s.B p)
 have hyz:=AN4 (s.B p)
 generalize hy:byA (s.B p)=y at hby hyl hyz
 have e0:I6 s.K (p+1)=I6 s.K p:=if_pos h0
 have e2:=AW9 (s:=s) (p:=p) fun h=>by rw [h0] at h;exact absurd h.1 (by decide)
 have e1:O9 s.G (p+1)=O9 s.G p:=if_neg hu
 unfold skel
 dsimp only
 by_cases h16:p % 16=0
 ·have hG:s.G (p / 16)=false:=by
   cases h:s.G (p / 16) with
   | false=>rfl
   | true=>exact absurd ⟨h16,h⟩ hu
  rw [hG] at hh
  (refine wtk ?_;repeat' (first|with_reducible refine And.intro ?_ ?_|intro hsp))
  all_goals exact D8 (p+1) [] (by (try dsimp only);omega) (by first|omega|(dsimp only;omega)) rfl (by ((try dsimp only);rw [e0,e1,e2]);exact AJ2)
 ·(refine wtk ?_;repeat' (first|with_reducible refine And.intro ?_ ?_|intro hsp))
  all_goals exact D8 (p+1) [] (by (try dsimp only);omega) (by first|omega|(dsimp only;omega)) rfl (by ((try dsimp only);rw [e0,e1,e2]);exact AJ2)
end
section
variable {s:Sy} {o:Nat} {ho:o=66624} {hlen:s.l.length≤100000} {p:Nat}
theorem rd_new_00 (hp4:p < 1024) (hp0:0 < p) (h0:¬ s.K p=0) (hb:¬ (0 < p∧s.K (p - 1)=s.K p)) (hu:¬ (p % 16=0∧s.G (p / 16)=true)) (hd:¬ (s.K p=2∧¬ AH7 (s.B p))):(skel s o ho hlen).1 p:=by
 have hL0:=Y9 (K:=s.K) (n:=p)
 have hL1:=Z0 (G:=s.G) (n:=p)
 have hL2:=Z5 (B:=s.B2) (n:=p)
 have hst:=U9 (K:=s.K) (G:=s.G) (B:=s.B) ho (p9 (l:=s.l) (C:=s.C) (H:=s.H))
 have hru:=X8 (K:=s.K) (G:=s.G) (B:=s.B) (l:=s.l) (C:=s.C) (H:=s.H) ho
 have hk:(refK s.K s.G s.B (stA s.l s.C s.H))[p]? = some (.int .i64 (s.K p)):=Q9 hp4
 have hh:(refK s.K s.G s.B (stA s.l s.C s.H))[1024+p / 16]? = some (.bool (s.G (p / 16))):=p8 (by omega)
 have hw16:=AY8 (q:=p) (by omega)
 have ht16:((p:Nat):Int).tmod 16=((p % 16:Nat):Int):=by rw [Int.tmod_eq_emod_of_nonneg (by omega)];omega
 have hby:=j3 (K:=s.K) (G:=s.G) (B:=s.B) (P:=stA s.l s.C s.H) hp4
 have hyl:=by_len (s.B p)
 have hyz:=AN4 (s.B p)
 generalize hy:byA (s.B p)=y at hby hyl hyz
 have e0:I6 s.K (p+1)=I6 s.K p++[⟨((p:Nat):Int),1,s.K p⟩]:=by
  show (if s.K p=0 then _ else if 0 < p∧s.K (p - 1)=s.K p then bump (I6 s.K p) else _)=_
  rw [if_neg h0,if_neg hb]
 have hk1:(refK s.K s.G s.B (stA s.l s.C s.H))[(((p:Nat):Int) - 1).toNat]? = some (.int .i64 (s.K (p - 1))):=by rw [show (((p:Nat):Int) - 1).toNat=p - 1 by omega];exact Q9 (by omega)
 have hp1:IntKind.i64.wrap (((p:Nat):Int) - 1)=((p - 1:Nat):Int):=by rw [IntWalk.i64_in _ ⟨by omega,by omega⟩];omega
 have hne:¬ s.K (p - 1)=s.K p:=fun h=>hb ⟨hp0,h⟩
 have e1:O9 s.G (p+1)=O9 s.G p:=if_neg hu
 have e2:=AW9 hd
 unfold skel
 dsimp only
 (refine wtk ?_;repeat' (first|with_reducible refine And.intro ?_ ?_|intro hsp))
 all_goals first|(exfalso;exact hu ⟨(by first|omega|fail),(by first|assumption|fail)⟩)|skip
 all_goals first|(exfalso;exact hd ⟨(by first|assumption|fail),(by first|assumption|fail)⟩)|skip
 all_goals first|(exfalso;exact hne (by first|assumption|fail))|(exfalso;omega)|skip
 all_goals exact D8 (p+1) [(10,42)] (by (try dsimp only);omega) (by first|omega|(dsimp only;omega)) rfl (by ((try dsimp only);rw [e0,e1,e2]);exact AJ2)
end
section
variable {s:Sy} {o:Nat} {ho:o=66624} {hlen:s.l.length≤100000} {p:Nat}
theorem rd_new_01 (hp4:p < 1024) (hp0:0 < p) (h0:¬ s.K p=0) (hb:¬ (0 < p∧s.K (p - 1)=s.K p)) (hu:¬ (p % 16=0∧s.G (p / 16)=true)) (hd:s.K p=2∧¬ AH7 (s.B p)):(skel s o ho hlen).1 p:=by
 have hL0:=Y9 (K:=s.K) (n:=p)
 have hL1:=Z0 (G:=s.G) (n:=p)
 have hL2:=Z5 (B:=s.B2) (n:=p)
 have hst:=U9 (K:=s.K) (G:=s.G) (B:=s.B) ho (p9 (l:=s.l) (C:=s.C) (H:=s.H))
 have hru:=X8 (K:=s.K) (G:=s.G) (B:=s.B) (l:=s.l) (C:=s.C) (H:=s.H) ho
 have hk:(refK s.K s.G s.B (stA s.l s.C s.H))[p]? = some (.int .i64 (s.K p)):=Q9 hp4
 have hh:(refK s.K s.G s.B (stA s.l s.C s.H))[1024+p / 16]? = some (.bool (s.G (p / 16))):=p8 (by omega)
 have hw16:=AY8 (q:=p) (by omega)
 have ht16:((p:Nat):Int).tmod 16=((p % 16:Nat):Int):=by rw [Int.tmod_eq_emod_of_nonneg (by omega)];omega
 have hby:=j3 (K:=s.K) (G:=s.G) (B:=s.B) (P:=stA s.l s.C s.H) hp4
 have hyl:=by_len (s.B p)
 have hyz:=AN4 (s.B p)
 generalize hy:byA (s.B p)=y at hby hyl hyz
 have e0:I6 s.K (p+1)=I6 s.K p++[⟨((p:Nat):Int),1,s.K p⟩]:=by
  show (if s.K p=0 then _ else if 0 < p∧s.K (p - 1)=s.K p then bump (I6 s.K p) else _)=_
  rw [if_neg h0,if_neg hb]
 have hk1:(refK s.K s.G s.B (stA s.l s.C s.H))[(((p:Nat):Int) - 1).toNat]? = some (.int .i64 (s.K (p - 1))):=by rw [show (((p:Nat):Int) - 1).toNat=p - 1 by omega];exact Q9 (by omega)
 have hp1:IntKind.i64.wrap (((p:Nat):Int) - 1)=((p - 1:Nat):Int):=by rw [IntWalk.i64_in _ ⟨by omega,by omega⟩];omega
 have hne:¬ s.K (p - 1)=s.K p:=fun h=>hb ⟨hp0,h⟩
 have e1:O9 s.G (p+1)=O9 s.G p:=if_neg hu
 have e2:=AY5 hd
 obtain ⟨hd1,hd2⟩:=hd
 unfold skel
 dsimp only
 (refine wtk ?_;repeat' (first|with_reducible refine And.intro ?_ ?_|intro hsp))
 all_goals first|(exfalso;exact hu ⟨(by first|omega|fail),(by first|assumption|fail)⟩)|skip
 all_goals first|(exfalso;exact hne (by first|assumption|fail))|(exfalso;omega)|skip
 all_goals exact D8 (p+1) [(10,42),(12,56)] (by (try dsimp only);omega) (by first|omega|(dsimp only;omega)) rfl (by ((try dsimp only);rw [e0,e1,e2]);exact AJ2)
end
section
variable {s:Sy} {o:Nat} {ho:o=66624} {hlen:s.l.length≤100000} {p:Nat}
theorem rd_new_10 (hp4:p < 1024) (hp0:0 < p) (h0:¬ s.K p=0) (hb:¬ (0 < p∧s.K (p - 1)=s.K p)) (hu:p % 16=0∧s.G (p / 16)=true) (hd:¬ (s.K p=2∧¬ AH7 (s.B p))):(skel s o ho hlen).1 p:=by
 have hL0:=Y9 (K:=s.K) (n:=p)
 have hL1:=Z0 (G:=s.G) (n:=p)
 have hL2:=Z5 (B:=s.B2) (n:=p)
 have hst:=U9 (K:=s.K) (G:=s.G) (B:=s.B) ho (p9 (l:=s.l) (C:=s.C) (H:=s.H))
 have hru:=X8 (K:=s.K) (G:=s.G) (B:=s.B) (l:=s.l) (C:=s.C) (H:=s.H) ho
 have hk:(refK s.K s.G s.B (stA s.l s.C s.H))[p]? = some (.int .i64 (s.K p)):=Q9 hp4
 have hh:(refK s.K s.G s.B (stA s.l s.C s.H))[1024+p / 16]? = some (.bool (s.G (p / 16))):=p8 (by omega)
 have hw16:=AY8 (q:=p) (by omega)
 have ht16:((p:Nat):Int).tmod 16=((p % 16:Nat):Int):=by rw [Int.tmod_eq_emod_of_nonneg (by omega)];omega
 have hby:=j3 (K:=s.K) (G:=s.G) (B:=s.B) (P:=stA s.l s.C s.H) hp4
 have hyl:=by_len (s.B p)
 have hyz:=AN4 (s.B p)
 generalize hy:byA (s.B p)=y at hby hyl hyz
 have e0:I6 s.K (p+1)=I6 s.K p++[⟨((p:Nat):Int),1,s.K p⟩]:=by
  show (if s.K p=0 then _ else if 0 < p∧s.K (p - 1)=s.K p then bump (I6 s.K p) else _)=_
  rw [if_neg h0,if_neg hb]
 have hk1:(refK s.K s.G s.B (stA s.l s.C s.H))[(((p:Nat):Int) - 1).toNat]? = some (.int .i64 (s.K (p - 1))):=by rw [show (((p:Nat):Int) - 1).toNat=p - 1 by omega];exact Q9 (by omega)
 have hp1:IntKind.i64.wrap (((p:Nat):Int) - 1)=((p - 1:Nat):Int):=by rw [IntWalk.i64_in _ ⟨by omega,by omega⟩];omega
 have hne:¬ s.K (p - 1)=s.K p:=fun h=>hb ⟨hp0,h⟩
 have e1:O9 s.G (p+1)=O9 s.G p++[((p:Nat):Int)]:=if_pos hu
 rw [hu.2] at hh
 have e2:=AW9 hd
 unfold skel
 dsimp only
 (refine wtk ?_;repeat' (first|with_reducible refine And.intro ?_ ?_|intro hsp))
 all_goals first|(exfalso;exact hd ⟨(by first|assumption|fail),(by first|assumption|fail)⟩)|skip
 all_goals first|(exfalso;exact hne (by first|assumption|fail))|(exfalso;omega)|skip
 all_goals exact D8 (p+1) [(10,42),(11,46)] (by (try dsimp only);omega) (by first|omega|(dsimp only;omega)) rfl (by ((try dsimp only);rw [e0,e1,e2]);exact AJ2)
end
section
variable {s:Sy} {o:Nat} {ho:o=66624} {hlen:s.l.length≤100000} {p:Nat}
theorem rd_new_11 (hp4:p < 1024) (hp0:0 < p) (h0:¬ s.K p=0) (hb:¬ (0 < p∧s.K (p - 1)=s.K p)) (hu:p % 16=0∧s.G (p / 16)=true) (hd:s.K p=2∧¬ AH7 (s.B p)):(skel s o ho hlen).1 p:=by
 have hL0:=Y9 (K:=s.K) (n:=p)
 have hL1:=Z0 (G:=s.G) (n:=p)
 have hL2:=Z5 (B:=s.B2) (n:=p)
 have hst:=U9 (K:=s.K) (G:=s.G) (B:=s.B) ho (p9 (l:=s.l) (C:=s.C) (H:=s.H))
 have hru:=X8 (K:=s.K) (G:=s.G) (B:=s.B) (l:=s.l) (C:=s.C) (H:=s.H) ho
 have hk:(refK s.K s.G s.B (stA s.l s.C s.H))[p]? = some (.int .i64 (s.K p)):=Q9 hp4
 have hh:(refK s.K s.G s.B (stA s.l s.C s.H))[1024+p / 16]? = some (.bool (s.G (p / 16))):=p8 (by omega)
 have hw16:=AY8 (q:=p) (by omega)
 have ht16:((p:Nat):Int).tmod 16=((p % 16:Nat):Int):=by rw [Int.tmod_eq_emod_of_nonneg (by omega)];omega
 have hby:=j3 (K:=s.K) (G:=s.G) (B:=s.B) (P:=stA s.l s.C s.H) hp4
 have hyl:=by_len (s.B p)
 have hyz:=AN4 (s.B p)
 generalize hy:byA (s.B p)=y at hby hyl hyz
 have e0:I6 s.K (p+1)=I6 s.K p++[⟨((p:Nat):Int),1,s.K p⟩]:=by
  show (if s.K p=0 then _ else if 0 < p∧s.K (p - 1)=s.K p then bump (I6 s.K p) else _)=_
  rw [if_neg h0,if_neg hb]
 have hk1:(refK s.K s.G s.B (stA s.l s.C s.H))[(((p:Nat):Int) - 1).toNat]? = some (.int .i64 (s.K (p - 1))):=by rw [show (((p:Nat):Int) - 1).toNat=p - 1 by omega];exact Q9 (by omega)
 have hp1:IntKind.i64.wrap (((p:Nat):Int) - 1)=((p - 1:Nat):Int):=by rw [IntWalk.i64_in _ ⟨by omega,by omega⟩];omega
 have hne:¬ s.K (p - 1)=s.K p:=fun h=>hb ⟨hp0,h⟩
 have e1:O9 s.G (p+1)=O9 s.G p++[((p:Nat):Int)]:=if_pos hu
 rw [hu.2] at hh
 have e2:=AY5 hd
 obtain ⟨hd1,hd2⟩:=hd
 unfold skel
 dsimp only
 (refine wtk ?_;repeat' (first|with_reducible refine And.intro ?_ ?_|intro hsp))
 all_goals first|(exfalso;exact hne (by first|assumption|fail))|(exfalso;omega)|skip
 all_goals exact D8 (p+1) [(10,42),(11,46),(12,58)] (by (try dsimp only);omega) (by first|omega|(dsimp only;omega)) rfl (by ((try dsimp only);rw [e0,e1,e2]);exact AJ2)
end
section
variable {s:Sy} {o:Nat} {ho:o=66624} {hlen:s.l.length≤100000} {p:Nat}
theorem rd_nul_00 (hp4:p < 1024) (hp0:¬ 0 < p) (h0:¬ s.K p=0) (hb:¬ (0 < p∧s.K (p - 1)=s.K p)) (hu:¬ (p % 16=0∧s.G (p / 16)=true)) (hd:¬ (s.K p=2∧¬ AH7 (s.B p))):(skel s o ho hlen).1 p:=by
 have hL0:=Y9 (K:=s.K) (n:=p)
 have hL1:=Z0 (G:=s.G) (n:=p)
 have hL2:=Z5 (B:=s.B2) (n:=p)
 have hst:=U9 (K:=s.K) (G:=s.G) (B:=s.B) ho (p9 (l:=s.l) (C:=s.C) (H:=s.H))
 have hru:=X8 (K:=s.K) (G:=s.G) (B:=s.B) (l:=s.l) (C:=s.C) (H:=s.H) ho
 have hk:(refK s.K s.G s.B (stA s.l s.C s.H))[p]? = some (.int .i64 (s.K p)):=Q9 hp4
 have hh:(refK s.K s.G s.B (stA s.l s.C s.H))[1024+p / 16]? = some (.bool (s.G (p / 16))):=p8 (by omega)
 have hw16:=AY8 (q:=p) (by omega)
 have ht16:((p:Nat):Int).tmod 16=((p % 16:Nat):Int):=by rw [Int.tmod_eq_emod_of_nonneg (by omega)];omega
 have hby:=j3 (K:=s.K) (G:=s.G) (B:=s.B) (P:=stA s.l s.C s.H) hp4
 have hyl:=by_len (s.B p)
 have hyz:=AN4 (s.B p)
 generalize hy:byA (s.B p)=y at hby hyl hyz
 have e0:I6 s.K (p+1)=I6 s.K p++[⟨((p:Nat):Int),1,s.K p⟩]:=by
  show (if s.K p=0 then _ else if 0 < p∧s.K (p - 1)=s.K p then bump (I6 s.K p) else _)=_
  rw [if_neg h0,if_neg hb]
 have e1:O9 s.G (p+1)=O9 s.G p:=if_neg hu
 have e2:=AW9 hd
 unfold skel
 dsimp only
 (refine wtk ?_;repeat' (first|with_reducible refine And.intro ?_ ?_|intro hsp))
 all_goals first|(exfalso;exact hu ⟨(by first|omega|fail),(by first|assumption|fail)⟩)|skip
 all_goals first|(exfalso;exact hd ⟨(by first|assumption|fail),(by first|assumption|fail)⟩)|skip
 all_goals first|(exfalso;omega)|skip
 all_goals exact D8 (p+1) [(10,42)] (by (try dsimp only);omega) (by first|omega|(dsimp only;omega)) rfl (by ((try dsimp only);rw [e0,e1,e2]);exact AJ2)
end
section
variable {s:Sy} {o:Nat} {ho:o=66624} {hlen:s.l.length≤100000} {p:Nat}
theorem rd_nul_01 (hp4:p < 1024) (hp0:¬ 0 < p) (h0:¬ s.K p=0) (hb:¬ (0 < p∧s.K (p - 1)=s.K p)) (hu:¬ (p % 16=0∧s.G (p / 16)=true)) (hd:s.K p=2∧¬ AH7 (s.B p)):(skel s o ho hlen).1 p:=by
 have hL0:=Y9 (K:=s.K) (n:=p)
 have hL1:=Z0 (G:=s.G) (n:=p)
 have hL2:=Z5 (B:=s.B2) (n:=p)
 have hst:=U9 (K:=s.K) (G:=s.G) (B:=s.B) ho (p9 (l:=s.l) (C:=s.C) (H:=s.H))
 have hru:=X8 (K:=s.K) (G:=s.G) (B:=s.B) (l:=s.l) (C:=s.C) (H:=s.H) ho
 have hk:(refK s.K s.G s.B (stA s.l s.C s.H))[p]? = some (.int .i64 (s.K p)):=Q9 hp4
 have hh:(refK s.K s.G s.B (stA s.l s.C s.H))[1024+p / 16]? = some (.bool (s.G (p / 16))):=p8 (by omega)
 have hw16:=AY8 (q:=p) (by omega)
 have ht16:((p:Nat):Int).tmod 16=((p % 16:Nat):Int):=by rw [Int.tmod_eq_emod_of_nonneg (by omega)];omega
 have hby:=j3 (K:=s.K) (G:=s.G) (B:=s.B) (P:=stA s.l s.C s.H) hp4
 have hyl:=by_len (s.B p)
 have hyz:=AN4 (s.B p)
 generalize hy:byA (s.B p)=y at hby hyl hyz
 have e0:I6 s.K (p+1)=I6 s.K p++[⟨((p:Nat):Int),1,s.K p⟩]:=by
  show (if s.K p=0 then _ else if 0 < p∧s.K (p - 1)=s.K p then bump (I6 s.K p) else _)=_
  rw [if_neg h0,if_neg hb]
 have e1:O9 s.G (p+1)=O9 s.G p:=if_neg hu
 have e2:=AY5 hd
 obtain ⟨hd1,hd2⟩:=hd
 unfold skel
 dsimp only
 (refine wtk ?_;repeat' (first|with_reducible refine And.intro ?_ ?_|intro hsp))
 all_goals first|(exfalso;exact hu ⟨(by first|omega|fail),(by first|assumption|fail)⟩)|skip
 all_goals first|(exfalso;omega)|skip
 all_goals exact D8 (p+1) [(10,42),(12,56)] (by (try dsimp only);omega) (by first|omega|(dsimp only;omega)) rfl (by ((try dsimp only);rw [e0,e1,e2]);exact AJ2)
end
section
variable {s:Sy} {o:Nat} {ho:o=66624} {hlen:s.l.length≤100000} {p:Nat}
theorem rd_nul_10 (hp4:p < 1024) (hp0:¬ 0 < p) (h0:¬ s.K p=0) (hb:¬ (0 < p∧s.K (p - 1)=s.K p)) (hu:p % 16=0∧s.G (p / 16)=true) (hd:¬ (s.K p=2∧¬ AH7 (s.B p))):(skel s o ho hlen).1 p:=by
 have hL0:=Y9 (K:=s.K) (n:=p)
 have hL1:=Z0 (G:=s.G) (n:=p)
 have hL2:=Z5 (B:=s.B2) (n:=p)
 have hst:=U9 (K:=s.K) (G:=s.G) (B:=s.B) ho (p9 (l:=s.l) (C:=s.C) (H:=s.H))
 have hru:=X8 (K:=s.K) (G:=s.G) (B:=s.B) (l:=s.l) (C:=s.C) (H:=s.H) ho
 have hk:(refK s.K s.G s.B (stA s.l s.C s.H))[p]? = some (.int .i64 (s.K p)):=Q9 hp4
 have hh:(refK s.K s.G s.B (stA s.l s.C s.H))[1024+p / 16]? = some (.bool (s.G (p / 16))):=p8 (by omega)
 have hw16:=AY8 (q:=p) (by omega)
 have ht16:((p:Nat):Int).tmod 16=((p % 16:Nat):Int):=by rw [Int.tmod_eq_emod_of_nonneg (by omega)];omega
 have hby:=j3 (K:=s.K) (G:=s.G) (B:=s.B) (P:=stA s.l s.C s.H) hp4
 have hyl:=by_len (s.B p)
 have hyz:=AN4 (s.B p)
 generalize hy:byA (s.B p)=y at hby hyl hyz
 have e0:I6 s.K (p+1)=I6 s.K p++[⟨((p:Nat):Int),1,s.K p⟩]:=by
  show (if s.K p=0 then _ else if 0 < p∧s.K (p - 1)=s.K p then bump (I6 s.K p) else _)=_
  rw [if_neg h0,if_neg hb]
 have e1:O9 s.G (p+1)=O9 s.G p++[((p:Nat):Int)]:=if_pos hu
 rw [hu.2] at hh
 have e2:=AW9 hd
 unfold skel
 dsimp only
 (refine wtk ?_;repeat' (first|with_reducible refine And.intro ?_ ?_|intro hsp))
 all_goals first|(exfalso;exact hd ⟨(by first|assumption|fail),(by first|assumption|fail)⟩)|skip
 all_goals first|(exfalso;omega)|skip
 all_goals exact D8 (p+1) [(10,42),(11,46)] (by (try dsimp only);omega) (by first|omega|(dsimp only;omega)) rfl (by ((try dsimp only);rw [e0,e1,e2]);exact AJ2)
end
section
variable {s:Sy} {o:Nat} {ho:o=66624} {hlen:s.l.length≤100000} {p:Nat}
theorem rd_nul_11 (hp4:p < 1024) (hp0:¬ 0 < p) (h0:¬ s.K p=0) (hb:¬ (0 < p∧s.K (p - 1)=s.K p)) (hu:p % 16=0∧s.G (p / 16)=true) (hd:s.K p=2∧¬ AH7 (s.B p)):(skel s o ho hlen).1 p:=by
 have hL0:=Y9 (K:=s.K) (n:=p)
 have hL1:=Z0 (G:=s.G) (n:=p)
 have hL2:=Z5 (B:=s.B2) (n:=p)
 have hst:=U9 (K:=s.K) (G:=s.G) (B:=s.B) ho (p9 (l:=s.l) (C:=s.C) (H:=s.H))
 have hru:=X8 (K:=s.K) (G:=s.G) (B:=s.B) (l:=s.l) (C:=s.C) (H:=s.H) ho
 have hk:(refK s.K s.G s.B (stA s.l s.C s.H))[p]? = some (.int .i64 (s.K p)):=Q9 hp4
 have hh:(refK s.K s.G s.B (stA s.l s.C s.H))[1024+p / 16]? = some (.bool (s.G (p / 16))):=p8 (by omega)
 have hw16:=AY8 (q:=p) (by omega)
 have ht16:((p:Nat):Int).tmod 16=((p % 16:Nat):Int):=by rw [Int.tmod_eq_emod_of_nonneg (by omega)];omega
 have hby:=j3 (K:=s.K) (G:=s.G) (B:=s.B) (P:=stA s.l s.C s.H) hp4
 have hyl:=by_len (s.B p)
 have hyz:=AN4 (s.B p)
 generalize hy:byA (s.B p)=y at hby hyl hyz
 have e0:I6 s.K (p+1)=I6 s.K p++[⟨((p:Nat):Int),1,s.K p⟩]:=by
  show (if s.K p=0 then _ else if 0 < p∧s.K (p - 1)=s.K p then bump (I6 s.K p) else _)=_
  rw [if_neg h0,if_neg hb]
 have e1:O9 s.G (p+1)=O9 s.G p++[((p:Nat):Int)]:=if_pos hu
 rw [hu.2] at hh
 have e2:=AY5 hd
 obtain ⟨hd1,hd2⟩:=hd
 unfold skel
 dsimp only
 (refine wtk ?_;repeat' (first|with_reducible refine And.intro ?_ ?_|intro hsp))
 all_goals first|(exfalso;omega)|skip
 all_goals exact D8 (p+1) [(10,42),(11,46),(12,58)] (by (try dsimp only);omega) (by first|omega|(dsimp only;omega)) rfl (by ((try dsimp only);rw [e0,e1,e2]);exact AJ2)
end
section
variable {s:Sy} {o:Nat} {ho:o=66624} {hlen:s.l.length≤100000} {p:Nat}
theorem rd_bmp_00 (hp4:p < 1024) (h0:¬ s.K p=0) (hb:0 < p∧s.K (p - 1)=s.K p) (hu:¬ (p % 16=0∧s.G (p / 16)=true)) (hd:¬ (s.K p=2∧¬ AH7 (s.B p))):(skel s o ho hlen).1 p:=by
 have hL0:=Y9 (K:=s.K) (n:=p)
 have hL1:=Z0 (G:=s.G) (n:=p)
 have hL2:=Z5 (B:=s.B2) (n:=p)
 have hst:=U9 (K:=s.K) (G:=s.G) (B:=s.B) ho (p9 (l:=s.l) (C:=s.C) (H:=s.H))
 have hru:=X8 (K:=s.K) (G:=s.G) (B:=s.B) (l:=s.l) (C:=s.C) (H:=s.H) ho
 have hk:(refK s.K s.G s.B (stA s.l s.C s.H))[p]? = some (.int .i64 (s.K p)):=Q9 hp4
 have hh:(refK s.K s.G s.B (stA s.l s.C s.H))[1024+p / 16]? = some (.bool (s.G (p / 16))):=p8 (by omega)
 have hw16:=AY8 (q:=p) (by omega)
 have ht16:((p:Nat):Int).tmod 16=((p % 16:Nat):Int):=by rw [Int.tmod_eq_emod_of_nonneg (by omega)];omega
 have hby:=j3 (K:=s.K) (G:=s.G) (B:=s.B) (P:=stA s.l s.C s.H) hp4
 have hyl:=by_len (s.B p)
 have hyz:=AN4 (s.B p)
 generalize hy:byA (s.B p)=y at hby hyl hyz
 obtain ⟨L,r,hR,er⟩:∃ (L:List Rn) (r:Rn),I6 s.K p=L++[r]∧r.n≤(p:Nat)∧1≤r.n:=by
  obtain ⟨L,m,e,m1,m2⟩:=AQ4 (K:=s.K) hb.1 (by rw [hb.2];exact h0)
  exact ⟨L,_,e,by dsimp only;omega,by dsimp only;omega⟩
 have e0:I6 s.K (p+1)=L++[⟨r.p,r.n+1,r.k⟩]:=by
  show (if s.K p=0 then _ else if 0 < p∧s.K (p - 1)=s.K p then bump (I6 s.K p) else _)=_
  rw [if_neg h0,if_pos hb,hR,AP7]
 have hk1:(refK s.K s.G s.B (stA s.l s.C s.H))[(((p:Nat):Int) - 1).toNat]? = some (.int .i64 (s.K (p - 1))):=by rw [show (((p:Nat):Int) - 1).toNat=p - 1 by omega];exact Q9 (by omega)
 have hp1:IntKind.i64.wrap (((p:Nat):Int) - 1)=((p - 1:Nat):Int):=by rw [IntWalk.i64_in _ ⟨by omega,by omega⟩];omega
 have hlL:(L++[r]).length=L.length+1:=by simp
 rw [hR,hlL] at hL0
 have hn0:L.length+1 ≠ 0:=by omega
 have hn1:(L++[r]).length ≠ 0:=by omega
 have hix:(((L.length+1:Nat):Int) - 1).toNat=L.length:=by omega
 have hg:(flat rnA (L++[r]))[(((L.length+1:Nat):Int) - 1).toNat * 3+1]? = some (.int .i64 r.n):=by rw [hix];exact An0 rfl
 have hs:(flat rnA (L++[r])).set ((((L.length+1:Nat):Int) - 1).toNat * 3+1) (.int .i64 (r.n+1))=flat rnA (L++[⟨r.p,r.n+1,r.k⟩]):=by rw [hix];exact Am9 rfl
 have hfl:(flat rnA (L++[r])).length=(L.length+1) * 3:=by rw [AJ4,hlL]
 rw [hb.2] at hk1
 have e1:O9 s.G (p+1)=O9 s.G p:=if_neg hu
 have e2:=AW9 hd
 unfold skel
 dsimp only
 rw [hR,hlL,AZ0 hn0,AM8 hn1]
 (refine wtk ?_;repeat' (first|with_reducible refine And.intro ?_ ?_|intro hsp))
 all_goals first|(exfalso;exact hu ⟨(by first|omega|fail),(by first|assumption|fail)⟩)|skip
 all_goals first|(exfalso;exact hd ⟨(by first|assumption|fail),(by first|assumption|fail)⟩)|skip
 all_goals first|(exfalso;omega)|skip
 all_goals exact D8 (p+1) [] (by (try dsimp only);omega) (by first|omega|(dsimp only;omega)) rfl (by ((try dsimp only);rw [e0,e1,e2]);exact AJ2)
end
section
variable {s:Sy} {o:Nat} {ho:o=66624} {hlen:s.l.length≤100000} {p:Nat}
theorem rd_bmp_01 (hp4:p < 1024) (h0:¬ s.K p=0) (hb:0 < p∧s.K (p - 1)=s.K p) (hu:¬ (p % 16=0∧s.G (p / 16)=true)) (hd:s.K p=2∧¬ AH7 (s.B p)):(skel s o ho hlen).1 p:=by
 have hL0:=Y9 (K:=s.K) (n:=p)
 have hL1:=Z0 (G:=s.G) (n:=p)
 have hL2:=Z5 (B:=s.B2) (n:=p)
 have hst:=U9 (K:=s.K) (G:=s.G) (B:=s.B) ho (p9 (l:=s.l) (C:=s.C) (H:=s.H))
 have hru:=X8 (K:=s.K) (G:=s.G) (B:=s.B) (l:=s.l) (C:=s.C) (H:=s.H) ho
 have hk:(refK s.K s.G s.B (stA s.l s.C s.H))[p]? = some (.int .i64 (s.K p)):=Q9 hp4
 have hh:(refK s.K s.G s.B (stA s.l s.C s.H))[1024+p / 16]? = some (.bool (s.G (p / 16))):=p8 (by omega)
 have hw16:=AY8 (q:=p) (by omega)
 have ht16:((p:Nat):Int).tmod 16=((p % 16:Nat):Int):=by rw [Int.tmod_eq_emod_of_nonneg (by omega)];omega
 have hby:=j3 (K:=s.K) (G:=s.G) (B:=s.B) (P:=stA s.l s.C s.H) hp4
 have hyl:=by_len (s.B p)
 have hyz:=AN4 (s.B p)
 generalize hy:byA (s.B p)=y at hby hyl hyz
 obtain ⟨L,r,hR,er⟩:∃ (L:List Rn) (r:Rn),I6 s.K p=L++[r]∧r.n≤(p:Nat)∧1≤r.n:=by
  obtain ⟨L,m,e,m1,m2⟩:=AQ4 (K:=s.K) hb.1 (by rw [hb.2];exact h0)
  exact ⟨L,_,e,by dsimp only;omega,by dsimp only;omega⟩
 have e0:I6 s.K (p+1)=L++[⟨r.p,r.n+1,r.k⟩]:=by
  show (if s.K p=0 then _ else if 0 < p∧s.K (p - 1)=s.K p then bump (I6 s.K p) else _)=_
  rw [if_neg h0,if_pos hb,hR,AP7]
 have hk1:(refK s.K s.G s.B (stA s.l s.C s.H))[(((p:Nat):Int) - 1).toNat]? = some (.int .i64 (s.K (p - 1))):=by rw [show (((p:Nat):Int) - 1).toNat=p - 1 by omega];exact Q9 (by omega)
 have hp1:IntKind.i64.wrap (((p:Nat):Int) - 1)=((p - 1:Nat):Int):=by rw [IntWalk.i64_in _ ⟨by omega,by omega⟩];omega
 have hlL:(L++[r]).length=L.length+1:=by simp
 rw [hR,hlL] at hL0
 have hn0:L.length+1 ≠ 0:=by omega
 have hn1:(L++[r]).length ≠ 0:=by omega
 have hix:(((L.length+1:Nat):Int) - 1).toNat=L.length:=by omega
 have hg:(flat rnA (L++[r]))[(((L.length+1:Nat):Int) - 1).toNat * 3+1]? = some (.int .i64 r.n):=by rw [hix];exact An0 rfl
 have hs:(flat rnA (L++[r])).set ((((L.length+1:Nat):Int) - 1).toNat * 3+1) (.int .i64 (r.n+1))=flat rnA (L++[⟨r.p,r.n+1,r.k⟩]):=by rw [hix];exact Am9 rfl
 have hfl:(flat rnA (L++[r])).length=(L.length+1) * 3:=by rw [AJ4,hlL]
 rw [hb.2] at hk1
 have e1:O9 s.G (p+1)=O9 s.G p:=if_neg hu
 have e2:=AY5 hd
 obtain ⟨hd1,hd2⟩:=hd
 unfold skel
 dsimp only
 rw [hR,hlL,AZ0 hn0,AM8 hn1]
 (refine wtk ?_;repeat' (first|with_reducible refine And.intro ?_ ?_|intro hsp))
 all_goals first|(exfalso;exact hu ⟨(by first|omega|fail),(by first|assumption|fail)⟩)|skip
 all_goals first|(exfalso;omega)|skip
 all_goals exact D8 (p+1) [(12,42)] (by (try dsimp only);omega) (by first|omega|(dsimp only;omega)) rfl (by ((try dsimp only);rw [e0,e1,e2]);exact AJ2)
end
section
variable {s:Sy} {o:Nat} {ho:o=66624} {hlen:s.l.length≤100000} {p:Nat}
theorem rd_bmp_10 (hp4:p < 1024) (h0:¬ s.K p=0) (hb:0 < p∧s.K (p - 1)=s.K p) (hu:p % 16=0∧s.G (p / 16)=true) (hd:¬ (s.K p=2∧¬ AH7 (s.B p))):(skel s o ho hlen).1 p:=by
 have hL0:=Y9 (K:=s.K) (n:=p)
 have hL1:=Z0 (G:=s.G) (n:=p)
 have hL2:=Z5 (B:=s.B2) (n:=p)
 have hst:=U9 (K:=s.K) (G:=s.G) (B:=s.B) ho (p9 (l:=s.l) (C:=s.C) (H:=s.H))
 have hru:=X8 (K:=s.K) (G:=s.G) (B:=s.B) (l:=s.l) (C:=s.C) (H:=s.H) ho
 have hk:(refK s.K s.G s.B (stA s.l s.C s.H))[p]? = some (.int .i64 (s.K p)):=Q9 hp4
 have hh:(refK s.K s.G s.B (stA s.l s.C s.H))[1024+p / 16]? = some (.bool (s.G (p / 16))):=p8 (by omega)
 have hw16:=AY8 (q:=p) (by omega)
 have ht16:((p:Nat):Int).tmod 16=((p % 16:Nat):Int):=by rw [Int.tmod_eq_emod_of_nonneg (by omega)];omega
 have hby:=j3 (K:=s.K) (G:=s.G) (B:=s.B) (P:=stA s.l s.C s.H) hp4
 have hyl:=by_len (s.B p)
 have hyz:=AN4 (s.B p)
 generalize hy:byA (s.B p)=y at hby hyl hyz
 obtain ⟨L,r,hR,er⟩:∃ (L:List Rn) (r:Rn),I6 s.K p=L++[r]∧r.n≤(p:Nat)∧1≤r.n:=by
  obtain ⟨L,m,e,m1,m2⟩:=AQ4 (K:=s.K) hb.1 (by rw [hb.2];exact h0)
  exact ⟨L,_,e,by dsimp only;omega,by dsimp only;omega⟩
 have e0:I6 s.K (p+1)=L++[⟨r.p,r.n+1,r.k⟩]:=by
  show (if s.K p=0 then _ else if 0 < p∧s.K (p - 1)=s.K p then bump (I6 s.K p) else _)=_
  rw [if_neg h0,if_pos hb,hR,AP7]
 have hk1:(refK s.K s.G s.B (stA s.l s.C s.H))[(((p:Nat):Int) - 1).toNat]? = some (.int .i64 (s.K (p - 1))):=by rw [show (((p:Nat):Int) - 1).toNat=p - 1 by omega];exact Q9 (by omega)
 have hp1:IntKind.i64.wrap (((p:Nat):Int) - 1)=((p - 1:Nat):Int):=by rw [IntWalk.i64_in _ ⟨by omega,by omega⟩];omega
 have hlL:(L++[r]).length=L.length+1:=by simp
 rw [hR,hlL] at hL0
 have hn0:L.length+1 ≠ 0:=by omega
 have hn1:(L++[r]).length ≠ 0:=by omega
 have hix:(((L.length+1:Nat):Int) - 1).toNat=L.length:=by omega
 have hg:(flat rnA (L++[r]))[(((L.length+1:Nat):Int) - 1).toNat * 3+1]? = some (.int .i64 r.n):=by rw [hix];exact An0 rfl
 have hs:(flat rnA (L++[r])).set ((((L.length+1:Nat):Int) - 1).toNat * 3+1) (.int .i64 (r.n+1))=flat rnA (L++[⟨r.p,r.n+1,r.k⟩]):=by rw [hix];exact Am9 rfl
 have hfl:(flat rnA (L++[r])).length=(L.length+1) * 3:=by rw [AJ4,hlL]
 rw [hb.2] at hk1
 have e1:O9 s.G (p+1)=O9 s.G p++[((p:Nat):Int)]:=if_pos hu
 rw [hu.2] at hh
 have e2:=AW9 hd
 unfold skel
 dsimp only
 rw [hR,hlL,AZ0 hn0,AM8 hn1]
 (refine wtk ?_;repeat' (first|with_reducible refine And.intro ?_ ?_|intro hsp))
 all_goals first|(exfalso;exact hd ⟨(by first|assumption|fail),(by first|assumption|fail)⟩)|skip
 all_goals first|(exfalso;omega)|skip
 all_goals exact D8 (p+1) [(11,32)] (by (try dsimp only);omega) (by first|omega|(dsimp only;omega)) rfl (by ((try dsimp only);rw [e0,e1,e2]);exact AJ2)
end
section
variable {s:Sy} {o:Nat} {ho:o=66624} {hlen:s.l.length≤100000} {p:Nat}
theorem rd_bmp_11 (hp4:p < 1024) (h0:¬ s.K p=0) (hb:0 < p∧s.K (p - 1)=s.K p) (hu:p % 16=0∧s.G (p / 16)=true) (hd:s.K p=2∧¬ AH7 (s.B p)):(skel s o ho hlen).1 p:=by
 have hL0:=Y9 (K:=s.K) (n:=p)
 have hL1:=Z0 (G:=s.G) (n:=p)
 have hL2:=Z5 (B:=s.B2) (n:=p)
 have hst:=U9 (K:=s.K) (G:=s.G) (B:=s.B) ho (p9 (l:=s.l) (C:=s.C) (H:=s.H))
 have hru:=X8 (K:=s.K) (G:=s.G) (B:=s.B) (l:=s.l) (C:=s.C) (H:=s.H) ho
 have hk:(refK s.K s.G s.B (stA s.l s.C s.H))[p]? = some (.int .i64 (s.K p)):=Q9 hp4
 have hh:(refK s.K s.G s.B (stA s.l s.C s.H))[1024+p / 16]? = some (.bool (s.G (p / 16))):=p8 (by omega)
 have hw16:=AY8 (q:=p) (by omega)
 have ht16:((p:Nat):Int).tmod 16=((p % 16:Nat):Int):=by rw [Int.tmod_eq_emod_of_nonneg (by omega)];omega
 have hby:=j3 (K:=s.K) (G:=s.G) (B:=s.B) (P:=stA s.l s.C s.H) hp4
 have hyl:=by_len (s.B p)
 have hyz:=AN4 (s.B p)
 generalize hy:byA (s.B p)=y at hby hyl hyz
 obtain ⟨L,r,hR,er⟩:∃ (L:List Rn) (r:Rn),I6 s.K p=L++[r]∧r.n≤(p:Nat)∧1≤r.n:=by
  obtain ⟨L,m,e,m1,m2⟩:=AQ4 (K:=s.K) hb.1 (by rw [hb.2];exact h0)
  exact ⟨L,_,e,by dsimp only;omega,by dsimp only;omega⟩
 have e0:I6 s.K (p+1)=L++[⟨r.p,r.n+1,r.k⟩]:=by
  show (if s.K p=0 then _ else if 0 < p∧s.K (p - 1)=s.K p then bump (I6 s.K p) else _)=_
  rw [if_neg h0,if_pos hb,hR,AP7]
 have hk1:(refK s.K s.G s.B (stA s.l s.C s.H))[(((p:Nat):Int) - 1).toNat]? = some (.int .i64 (s.K (p - 1))):=by rw [show (((p:Nat):Int) - 1).toNat=p - 1 by omega];exact Q9 (by omega)
 have hp1:IntKind.i64.wrap (((p:Nat):Int) - 1)=((p - 1:Nat):Int):=by rw [IntWalk.i64_in _ ⟨by omega,by omega⟩];omega
 have hlL:(L++[r]).length=L.length+1:=by simp
 rw [hR,hlL] at hL0
 have hn0:L.length+1 ≠ 0:=by omega
 have hn1:(L++[r]).length ≠ 0:=by omega
 have hix:(((L.length+1:Nat):Int) - 1).toNat=L.length:=by omega
 have hg:(flat rnA (L++[r]))[(((L.length+1:Nat):Int) - 1).toNat * 3+1]? = some (.int .i64 r.n):=by rw [hix];exact An0 rfl
 have hs:(flat rnA (L++[r])).set ((((L.length+1:Nat):Int) - 1).toNat * 3+1) (.int .i64 (r.n+1))=flat rnA (L++[⟨r.p,r.n+1,r.k⟩]):=by rw [hix];exact Am9 rfl
 have hfl:(flat rnA (L++[r])).length=(L.length+1) * 3:=by rw [AJ4,hlL]
 rw [hb.2] at hk1
 have e1:O9 s.G (p+1)=O9 s.G p++[((p:Nat):Int)]:=if_pos hu
 rw [hu.2] at hh
 have e2:=AY5 hd
 obtain ⟨hd1,hd2⟩:=hd
 unfold skel
 dsimp only
 rw [hR,hlL,AZ0 hn0,AM8 hn1]
 (refine wtk ?_;repeat' (first|with_reducible refine And.intro ?_ ?_|intro hsp))
 all_goals first|(exfalso;omega)|skip
 all_goals exact D8 (p+1) [(11,32),(12,44)] (by (try dsimp only);omega) (by first|omega|(dsimp only;omega)) rfl (by ((try dsimp only);rw [e0,e1,e2]);exact AJ2)
end
section
variable {s:Sy} {o:Nat} {ho:o=66624} {hlen:s.l.length≤100000} {p:Nat}
theorem q_saveR (hlen:s.l.length≤100000):AD5 23 [] s.b (.agg (vsA s.saveR)) s.b:=(skel s 66624 rfl hlen).2 fun p hp =>
 if hp4:p < 1024 then
  if h0:s.K p=0 then
   if hu:p % 16=0∧s.G (p / 16)=true then rd_free_h hp4 h0 hu else rd_free hp4 h0 hu
  else if hb:0 < p∧s.K (p - 1)=s.K p then
   if hu:p % 16=0∧s.G (p / 16)=true then
    if hd:s.K p=2∧¬ AH7 (s.B p) then rd_bmp_11 hp4 h0 hb hu hd else rd_bmp_10 hp4 h0 hb hu hd
   else
    if hd:s.K p=2∧¬ AH7 (s.B p) then rd_bmp_01 hp4 h0 hb hu hd else rd_bmp_00 hp4 h0 hb hu hd
  else if hp0:0 < p then
   if hu:p % 16=0∧s.G (p / 16)=true then
    if hd:s.K p=2∧¬ AH7 (s.B p) then rd_new_11 hp4 hp0 h0 hb hu hd else rd_new_10 hp4 hp0 h0 hb hu hd
   else
    if hd:s.K p=2∧¬ AH7 (s.B p) then rd_new_01 hp4 hp0 h0 hb hu hd else rd_new_00 hp4 hp0 h0 hb hu hd
  else
   if hu:p % 16=0∧s.G (p / 16)=true then
    if hd:s.K p=2∧¬ AH7 (s.B p) then rd_nul_11 hp4 hp0 h0 hb hu hd else rd_nul_10 hp4 hp0 h0 hb hu hd
   else
    if hd:s.K p=2∧¬ AH7 (s.B p) then rd_nul_01 hp4 hp0 h0 hb hu hd else rd_nul_00 hp4 hp0 h0 hb hu hd
 else rd_end (by omega)
theorem q_save (hg:GoodS s):AD5 23 [] s.b (.agg (vsA s.save)) s.b:=by
 have e:s.saveR=s.save:=saveR_eq ⟨hg.kind,hg.huge,hg.zero,hg.cK,hg.cB⟩
 rw [← e]
 exact q_saveR (by have:=(AX0 hg.hv).2.1;omega)
end
end Go.Proofs.YtphggldkligldaaGreat
