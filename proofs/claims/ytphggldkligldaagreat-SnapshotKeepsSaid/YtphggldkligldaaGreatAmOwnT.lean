/-
 Several slices of their own that grow: they stand one behind the other at the heap's end. No program in sight.
-/
import Derived.Test.YtphggldkligldaaGreatAmWt
set_option linter.unusedSimpArgs false
set_option linter.unusedVariables false
namespace Go.Am
section
variable {α:Type} {f:α→List AV} {L:List α} {d i:Nat} {r:List (Nat × AObj)}
theorem del_tS {k:List (Nat × AObj)→Prop} (h:delK r d k):delK (ownH d f L++r) d k:=by
 by_cases hz:L.length=0
 ·rw [ownH_z hz];exact h
 ·rw [ownH_s hz];simp only [List.cons_append,List.nil_append,delK];rw [show Nat.beq d d=true by simp];exact h
theorem del_tO {k:List (Nat × AObj)→Prop} (hi:Nat.beq i d=false) (h:delK r i fun r'=>k (ownH d f L++r')):delK (ownH d f L++r) i k:=by
 by_cases hz:L.length=0
 ·rw [ownH_z hz] at h ⊢;exact h
 ·rw [ownH_s hz] at h ⊢;simp only [List.cons_append,List.nil_append,delK,hi] at h ⊢;exact h
theorem lk_tN (hz:L.length=0):lk (ownH d f L++r) i=lk r i:=by rw [ownH_z hz];rfl
theorem lk_tA {r':List (Nat × AObj)} (h:i ≠ d):lk (r'++ownH d f L) i=lk r' i:=by
 by_cases hz:L.length=0
 ·rw [ownH_z hz,List.append_nil]
 ·rw [ownH_s hz]
  induction r' with
  | nil=>simp [lk,h]
  | cons p r' ih=>obtain ⟨j,o⟩:=p;simp only [List.cons_append,lk];rw [ih]
theorem lk_ownO (h:i ≠ d):lk (ownH d f L) i=none:=by
 have:=lk_tA (f:=f) (L:=L) (r':=[]) h
 exact this
theorem del_n {k:List (Nat × AObj)→Prop} (h:k []):delK [] i k:=h
end
structure TlO (P:Program) (σ:Nat→Nat) (h h':Hp) (ks:List Nat) (tl:List (Nat × AObj)):Prop where
 key:∀ j o,lk tl j=some o→j ∈ ks
 sub:∀ j o,lk tl j=some o→∃ o',lk h.l (σ j)=some o'
 wko:SubH σ h h'→WkO P σ h h' tl
section
variable {P:Program} {σ:Nat→Nat} {h h':Hp} {ks:List Nat} {r:List (Nat × AObj)} {α:Type} {f:α→List AV} {L:List α} {i n:Nat}
theorem tl_nil:TlO P σ h h' [] []:=⟨fun j o hj=>(by cases hj),fun j o hj=>(by cases hj),fun _=>wko_nil⟩
theorem tl_cons (hp:∀ c,∀ x ∈ f c,Plain x) (h4:Nat.blt i h'.next=true) (h3:L.length ≠ 0→lk h.l (σ i)=some (.cells (flat f L))) (hr:TlO P σ h h' ks r):TlO P σ h h' (i::ks) (ownH i f L++r):=by
 refine ⟨fun j o hj=>?_,fun j o hj=>?_,fun hs=>wko_app (wko_own (blt_lt h4) hp hs h3) (hr.wko hs)⟩
 ·rcases lk_app hj with hj|hj
  ·obtain ⟨rfl,_⟩:=lk_own_key hj;exact List.mem_cons_self ..
  ·exact List.mem_cons_of_mem _ (hr.key j o hj)
 ·rcases lk_app hj with hj|hj
  ·obtain ⟨rfl,hz⟩:=lk_own_key hj;exact ⟨_,h3 hz⟩
  ·exact hr.sub j o hj
theorem lk_keys:∀ {ks:List Nat} {j:Nat},j ∈ ks→∃ o,lk (ks.map fun k=>(k,AObj.cells [])) j=some o
 | k::ks,j,hj=>by
  simp only [List.map_cons,lk]
  by_cases e:j=k
  ·exact ⟨_,if_pos e⟩
  ·rw [if_neg e]
   rcases List.mem_cons.1 hj with e2|hj
   ·exact absurd e2 e
   ·exact lk_keys hj
theorem lk_up2 {tl:List (Nat × AObj)} (hk:∀ j o,lk tl j=some o→j ∈ ks) {j:Nat} {o:AObj}:∀ {l0:List (Nat × AObj)},lk (l0++tl) j=some o→∃ o',lk (l0++ks.map fun k=>(k,AObj.cells [])) j=some o'
 | [],hj=>lk_keys (hk j o hj)
 | (q,x)::l0,hj=>by
  simp only [List.cons_append,lk] at hj ⊢
  split
  ·exact ⟨_,rfl⟩
  ·rename_i e;rw [if_neg e] at hj;exact lk_up2 hk hj
theorem weak_t {ren:List (Nat × Nat)} {sf sf':SF} {l0 tl:List (Nat × AObj)} {nx:Nat} (h1:nodB ((l0.map fun p=>rn ren p.1)++ks.map (rn ren))=true) (h2:subB (rn ren) h.l l0=true) (ht:TlO P (rn ren) h ⟨l0++tl,nx⟩ ks tl)
  (hf:SubH (rn ren) h ⟨l0++tl,nx⟩→WkF P (rn ren) h ⟨l0++tl,nx⟩ sf sf') (ho:SubH (rn ren) h ⟨l0++tl,nx⟩→WkO P (rn ren) h ⟨l0++tl,nx⟩ l0):WeakX P ren n sf h sf' ⟨l0++tl,nx⟩:=by
 have hs:SubH (rn ren) h ⟨l0++tl,nx⟩:=fun j o hj=>by
  rcases lk_app hj with hj|hj
  ·exact subH_of (h:=h) (h':=⟨l0,nx⟩) h2 j o hj
  ·exact ht.sub j o hj
 have h5:OneOf (rn ren) (l0++ks.map fun k=>(k,AObj.cells [])):=oneOf_of (by rw [List.map_append,List.map_map];exact h1)
 have h6:OneOf (rn ren) (l0++tl):=fun a b o o' ha hb e=>by
  obtain ⟨_,ha⟩:=lk_up2 ht.key ha
  obtain ⟨_,hb⟩:=lk_up2 ht.key hb
  exact h5 a b _ _ ha hb e
 exact ⟨weak_of h6 (wkl_sd (wkf_sget (hf hs))) (wko_app (ho hs) (ht.wko hs))⟩
end
end Go.Am
