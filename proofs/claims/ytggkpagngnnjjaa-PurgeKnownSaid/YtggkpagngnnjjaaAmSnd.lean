/-
  One operation of the abstract machine stands for the model's. No program in sight.
-/
import Derived.Test.YtggkpagngnnjjaaAmSndI
set_option linter.unusedSimpArgs false
set_option linter.unusedVariables false
namespace Go.Am
/-- The names that a change makes. -/
def newOf (up : Up) (id : Nat) : List Nat := if up.any (fun p => p.1 == id) then [id] else []
section
variable {P : Program} {c : Cx} {G : Gl} {fr : List AV} {a : Act}
theorem done_of {s : Sem Value} {r : Result Next} {x : AV} (hR : Rel P c) (h : ∃ val, s.run P c.w = .ok val c.w ∧ RR c x val) (hr : r = (s.run P c.w).andThen fun v w => .ok (.value v) w) : Done P c r x [] [] := by
  obtain ⟨val, h1, h2⟩ := h
  exact Done.pure hR (by rw [hr, h1]; rfl) h2
theorem run_v (s : Sem Value) (w : World) : (do pure (Next.value (← s)) : Sem Next).run P w = (s.run P w).andThen fun v w => .ok (.value v) w := by
  simp only [Sem.run_bind]
  cases s.run P w <;> rfl
theorem bnd_of {G : Gl} {o : Option Operand} {y : Option AX} {b : Option Nat} (hF : FR c fr a.tmps) (hG : RelG G c) (hc : coxO o = some y) (hv : (evO (ax G fr) y).bind bndV = some b) : (b = none ∧ o.map a.eval = none) ∨ ∃ k n, b = some n ∧ o.map a.eval = some (.int k n) := by
  cases o with
  | none => cases hc; simp [evO, bndV] at hv; exact .inl ⟨hv.symm, rfl⟩
  | some x =>
    simp only [coxO, Option.map_eq_some_iff] at hc
    obtain ⟨z, hz, rfl⟩ := hc
    simp only [evO, Option.bind_eq_some_iff, Option.map_eq_some_iff] at hv
    obtain ⟨q, ⟨v, hv1, rfl⟩, hb⟩ := hv
    rcases bnd_spec hb (.inr ⟨v, a.eval x, rfl, rfl, cox_rr hF hG hz hv1⟩) with ⟨_, h⟩ | ⟨k, n, h1, h2⟩
    · cases h
    · exact .inr ⟨k, n, h1, h2⟩
theorem guard_plain {op : BinOp} {t : TypeId} {x y : Operand} {u v : Value} {w : World} (h : (∀ cs, u ≠ .agg cs) ∧ u ≠ .nilIface) : (eqGuard op t x y u v).run P w = .ok () w := by
  obtain ⟨h1, h2⟩ := h
  cases op <;> first
    | rfl
    | (cases u <;> first
        | exact absurd rfl (h1 _)
        | exact absurd rfl h2
        | rfl
        | (cases v <;> rfl))
theorem not_iface {x : AV} {u : Value} (h : RR c x u) (hx : x ≠ .undef) : u ≠ .nilIface := by
  cases x <;> first
    | exact absurd rfl hx
    | (simp only [RR_int, RR_bool, RR_str, RR_nilp, RR_nilf] at h; subst h; simp; done)
    | (obtain ⟨_, rfl⟩ := RR_nils.1 h; simp; done)
    | (obtain ⟨_, rfl⟩ := RR_ptr.1 h; simp; done)
    | (obtain ⟨_, rfl⟩ := RR_yld.1 h; simp; done)
    | (obtain ⟨_, rfl⟩ := RR_mapr.1 h; simp; done)
    | (obtain ⟨_, _, _, rfl, _⟩ := RR_sl.1 h; simp; done)
    | (obtain ⟨_, _, rfl, _⟩ := RR_isl.1 h; simp; done)
    | (obtain ⟨_, _, rfl, _⟩ := RR_iptr.1 h; simp; done)
    | (obtain ⟨_, _, rfl, _⟩ := RR_fn.1 h; simp; done)
    | (obtain ⟨_, rfl, _⟩ := RR_agg.1 h; simp; done)
    | (obtain ⟨_, rfl, _⟩ := RR_tup.1 h; simp; done)
theorem args_one {args : Array Operand} {x : AX} (h : args.toList.mapM cox = some [x]) : ∃ o, args = #[o] ∧ cox o = some x := by
  obtain ⟨m1, m2⟩ := mapM_some h
  match hq : args.toList with
  | [o] =>
    rw [hq] at m2
    obtain ⟨y, g1, g2⟩ := m2 0 x rfl
    simp at g1
    subst g1
    exact ⟨_, by rw [← Array.toArray_toList (xs := args), hq], g2⟩
  | [] => rw [hq] at m1; simp at m1
  | _ :: _ :: _ => rw [hq] at m1; simp at m1
theorem args_cons {args : Array Operand} {x : AX} {l : List AX} (h : args.toList.mapM cox = some (x :: l)) : ∃ o os, args.toList = o :: os ∧ cox o = some x ∧ os.mapM cox = some l := by
  match hq : args.toList with
  | o :: os =>
    rw [hq] at h
    simp only [List.mapM_cons, Option.bind_eq_bind, Option.bind_eq_some_iff] at h
    obtain ⟨y, hy, ys, hys, h2⟩ := h
    cases h2
    exact ⟨o, os, rfl, hy, hys⟩
  | [] => rw [hq] at h; simp at h
theorem eqp_form {ng fn : Bool} {x y r : AV} {u : Value} (hx : RR c x u) (h : eqpV ng fn x y = some r) : (∀ cs, u ≠ .agg cs) ∧ u ≠ .nilIface := by
  have : ∃ b, nilK fn x = some b := by
    unfold eqpV at h
    split at h
    · exact ⟨_, by assumption⟩
    · exact ⟨_, by assumption⟩
    · cases h
  obtain ⟨b, hb⟩ := this
  rcases nilK_spec hx hb with ⟨_, p, rfl, _⟩ | ⟨_, ⟨rfl, _⟩ | ⟨_, _, _, rfl, _⟩⟩ <;> exact ⟨fun _ h => (by cases h), fun h => (by cases h)⟩
/-- **One operation, but for calls.** -/
theorem snd {o : Oper} {ao : AOp} {id : Nat} {v : AV} {up : Up} {rd : List Nat} (hF : FR c fr a.tmps) (hG : RelG G c) (hR : Rel P c) (hid : ¬ c.U id) (hc : cop P o.op = some ao) (hv : evalA (ax G fr) c.at_ id ao = some (v, up, rd)) :
    Done P c ((execOp a.eval o).run P c.w) v up (newOf up id) := by
  have pure0 : up = [] → Done P c ((execOp a.eval o).run P c.w) v up [] → Done P c ((execOp a.eval o).run P c.w) v up (newOf up id) := fun h hd => by subst h; exact hd
  cases hop : o.op <;> rw [hop] at hc <;> simp only [cop] at hc <;> try (cases hc; done)
  case move x =>
    simp only [Option.map_eq_some_iff] at hc
    obtain ⟨y, hy, rfl⟩ := hc
    exact pure0 (pureR_some hv).2.1 (snd_mv hF hG hR (.inl hop) hy hv)
  case assign x =>
    simp only [Option.map_eq_some_iff] at hc
    obtain ⟨y, hy, rfl⟩ := hc
    exact pure0 (pureR_some hv).2.1 (snd_mv hF hG hR (.inr hop) hy hv)
  case pick x y z =>
    split at hc
    · rename_i x' y' z' h1 h2 h3
      cases hc
      refine pure0 ?_ (snd_pick hF hG hR hop h1 h2 h3 hv)
      simp only [evalA] at hv
      split at hv
      · exact (pureR_some hv).2.1
      · cases hv
    · cases hc
  case alloc e =>
    simp only [Option.map_eq_some_iff] at hc
    obtain ⟨z, hz, rfl⟩ := hc
    cases hv
    simp only [newOf, List.any_cons, List.any_nil, beq_self_eq_true, Bool.or_false, if_true]
    exact snd_new hR hid hop hz
  case box e x =>
    simp only [Option.map_eq_some_iff] at hc
    obtain ⟨y, hy, rfl⟩ := hc
    simp only [evalA] at hv
    split at hv
    · rename_i u hu
      split at hv
      · rename_i hf
        cases hv
        simp only [newOf, List.any_cons, List.any_nil, beq_self_eq_true, Bool.or_false, if_true]
        exact snd_box hF hG hR hid hop hy hu hf
      · cases hv
    · cases hv
  case build t ps =>
    obtain ⟨h1, h2⟩ := snd_build hF hG hR hop (by simpa only [cop] using hc) hv
    exact pure0 h2 h1
  case buildSlice t n ps =>
    split at hc
    · rename_i e hu
      split at hc
      · rename_i s z hs hz
        split at hc
        · rename_i hcond
          simp only [Option.map_eq_some_iff] at hc
          obtain ⟨l, hl, rfl⟩ := hc
          have hd := snd_bslice hF hG hR hid hop hu hs hz hcond.1 hcond.2.1 hcond.2.2 hl hv
          have : newOf up id = [id] := by
            simp only [evalA] at hv
            split at hv
            · split at hv
              · cases hv; simp [newOf]
              · cases hv
            · cases hv
          rw [this]; exact hd
        · cases hc
      · cases hc
    · cases hc
  case load t x =>
    split at hc
    · rename_i b n y h1 h2 h3
      cases hc
      refine pure0 ?_ (snd_load hF hG hR hop h1 h2 h3 hv)
      simp only [evalA] at hv
      split at hv
      · split at hv
        · cases hv; rfl
        · cases hv
      · cases hv
    · cases hc
  case store t x y =>
    split at hc
    · rename_i n x' y' h1 h2 h3
      cases hc
      have hd := snd_store hF hG hR hop h1 h2 h3 hv
      have : newOf up id = [] := by
        simp only [evalA] at hv
        split at hv
        · rename_i p u hp hu
          have hr := cox_rr hF hG h2 hp
          split at hv
          · rename_i up' rd' hw
            cases hv
            unfold storeV at hw
            split at hw
            · split at hw
              · split at hw
                · cases hw
                  have : _ ≠ id := fun e => hid (e ▸ (RR_ptr.1 hr).1)
                  simp [newOf, this]
                · cases hw
              · cases hw
            · cases hw
          · cases hv
        · cases hv
      rw [this]; exact hd
    · cases hc
  case nilCheck x =>
    simp only [Option.map_eq_some_iff] at hc
    obtain ⟨y, hy, rfl⟩ := hc
    obtain ⟨u, hu, hf, rfl, rfl⟩ := ev1_some hv
    have hr := cox_rr hF hG hy hu
    obtain ⟨rfl, p, hp⟩ := snd_nchk hr hf
    exact Done.pure (val := a.eval x) hR (by simp [execOp, hop, hp]) hr
  case binOp op t x y t' =>
    split at hc
    · rename_i x' y' h1 h2
      have go : ∀ (f : AV → AV → Option AV), ev2 (ax G fr x') (ax G fr y') f = some (v, up, rd) → (∀ p q, RR c p (a.eval x) → RR c q (a.eval y) → f p q = some v → (∃ val, (binOp op t (a.eval x) (a.eval y)).run P c.w = .ok val c.w ∧ RR c v val) ∧ (eqGuard op t x y (a.eval x) (a.eval y)).run P c.w = .ok () c.w) →
          Done P c ((execOp a.eval o).run P c.w) v up (newOf up id) := fun f hf hfin => by
        obtain ⟨p, q, hp, hq, hpq, rfl, rfl⟩ := ev2_some hf
        obtain ⟨⟨val, h3, h4⟩, h5⟩ := hfin p q (cox_rr hF hG h1 hp) (cox_rr hF hG h2 hq) hpq
        exact Done.pure hR (by simp [execOp, hop, h5, h3]) h4
      have bin : ∀ p q, RR c p (a.eval x) → RR c q (a.eval y) → binV op p q = some v → (∃ val, (binOp op t (a.eval x) (a.eval y)).run P c.w = .ok val c.w ∧ RR c v val) ∧ (eqGuard op t x y (a.eval x) (a.eval y)).run P c.w = .ok () c.w := fun p q hp hq hpq => by
        refine ⟨snd_bin hp hq hpq, guard_plain ?_⟩
        cases p <;> simp only [binV] at hpq <;> try (cases hpq; done)
        simp only [RR_int] at hp
        rw [hp]; exact ⟨fun _ h => (by cases h), fun h => (by cases h)⟩
      split at hc
      · rename_i heq
        split at hc
        · cases hc; exact go _ hv bin
        · cases hc; exact go _ hv bin
        · rename_i ht
          cases hc
          refine go _ hv fun p q hp hq hpq => ⟨snd_eqb ht heq hp hq hpq, guard_plain ?_⟩
          cases p <;> simp only [eqbV] at hpq <;> try (cases hpq; done)
          simp only [RR_bool] at hp
          rw [hp]; exact ⟨fun _ h => (by cases h), fun h => (by cases h)⟩
        · rename_i e ht
          cases hc
          exact go _ hv fun p q hp hq hpq => ⟨snd_eqp ht (.inl ⟨rfl, e, rfl⟩) heq hp hq hpq, guard_plain (eqp_form hp hpq)⟩
        · rename_i e1 e2 e3 ht
          cases hc
          exact go _ hv fun p q hp hq hpq => ⟨snd_eqp ht (.inr ⟨rfl, _, _, _, rfl⟩) heq hp hq hpq, guard_plain (eqp_form hp hpq)⟩
        · rename_i fs ht
          split at hc
          · rename_i hcond
            simp only [Option.map_eq_some_iff] at hc
            obtain ⟨ks, hks, rfl⟩ := hc
            simp only [Bool.and_eq_true, Bool.not_eq_true'] at hcond
            refine go _ hv fun p q hp hq hpq => ?_
            obtain ⟨xs, ys, val, hx', hy', h3, h4⟩ := snd_eqs ht hks hcond.1 heq hp hq hpq
            exact ⟨⟨val, h3, h4⟩, by rw [hx', hy']; exact run_eqGuard_agg c.w op t x y xs ys hcond.2⟩
          · cases hc
        · cases hc
      · cases hc; exact go _ hv bin
    · cases hc
  case unOp op t x =>
    simp only [Option.map_eq_some_iff] at hc
    obtain ⟨y, hy, rfl⟩ := hc
    obtain ⟨u, hu, hf, rfl, rfl⟩ := ev1_some hv
    exact done_of hR (snd_un (cox_rr hF hG hy hu) hf) (by simp only [execOp, hop]; exact run_v _ _)
  case convert s d x =>
    split at hc
    · rename_i ds k hs hd
      simp only [Option.map_eq_some_iff] at hc
      obtain ⟨y, hy, rfl⟩ := hc
      obtain ⟨u, hu, hf, rfl, rfl⟩ := ev1_some hv
      exact done_of hR (snd_conv hs hd (cox_rr hF hG hy hu) hf) (by simp only [execOp, hop]; exact run_v _ _)
    · cases hc
  case fieldAddr s x i =>
    split at hc
    · rename_i fs y hs hy
      simp only [Option.bind_eq_some_iff] at hc
      obtain ⟨f, hf, n, hn, hc⟩ := hc
      split at hc
      · cases hc
      · rename_i hn0
        cases hc
        obtain ⟨u, hu, hfv, rfl, rfl⟩ := ev1_some hv
        exact done_of hR (snd_faddr hs hf hn hn0 (cox_rr hF hG hy hu) hfv) (by simp only [execOp, hop]; exact run_v _ _)
    · cases hc
  case field s x i =>
    split at hc
    · rename_i fs y hs hy
      simp only [Option.bind_eq_some_iff, Option.map_eq_some_iff] at hc
      obtain ⟨f, hf, n, hn, b, hb, rfl⟩ := hc
      obtain ⟨u, hu, hfv, rfl, rfl⟩ := ev1_some hv
      exact done_of hR (snd_fld hs hf hn hb (cox_rr hF hG hy hu) hfv) (by simp only [execOp, hop]; exact run_v _ _)
    · cases hc
  case indexAddr t x i =>
    split at hc
    · rename_i n e y j ht hy hj
      simp only [Option.map_eq_some_iff] at hc
      obtain ⟨s, hs, rfl⟩ := hc
      obtain ⟨p, q, hp, hq, hpq, rfl, rfl⟩ := ev2_some hv
      exact done_of hR (snd_iaddrA ht hs (cox_rr hF hG hy hp) (cox_rr hF hG hj hq) hpq) (by simp only [execOp, hop]; exact run_v _ _)
    · rename_i e y j ht hy hj
      simp only [Option.map_eq_some_iff] at hc
      obtain ⟨s, hs, rfl⟩ := hc
      obtain ⟨p, q, hp, hq, hpq, rfl, rfl⟩ := ev2_some hv
      exact done_of hR (snd_iaddrS ht hs (cox_rr hF hG hy hp) (cox_rr hF hG hj hq) hpq) (by simp only [execOp, hop]; exact run_v _ _)
    · cases hc
  case index t x i =>
    split at hc
    · rename_i n e y j ht hy hj
      simp only [Option.bind_eq_some_iff, Option.map_eq_some_iff] at hc
      obtain ⟨s, hs, b, hb, rfl⟩ := hc
      obtain ⟨p, q, hp, hq, hpq, rfl, rfl⟩ := ev2_some hv
      exact done_of hR (snd_idx ht hs hb (cox_rr hF hG hy hp) (cox_rr hF hG hj hq) hpq) (by simp only [execOp, hop]; exact run_v _ _)
    · cases hc
  case slice t x lo hi mx =>
    split at hc
    · rename_i y lo' hi' mx' hy hlo hhi hmx
      split at hc
      · rename_i e _ ht
        split at hc
        · cases hc
        · rename_i hcond
          simp only [Option.map_eq_some_iff] at hc
          obtain ⟨s, hs, rfl⟩ := hc
          simp only [evalA] at hv
          split at hv
          · rename_i xv l h m hxv hl hh hm
            obtain ⟨hvv, rfl, rfl⟩ := pureR_some hv
            have bl := bnd_of hF hG hlo hl
            have bh := bnd_of hF hG hhi hh
            have bm := bnd_of hF hG hmx hm
            refine done_of hR (snd_slS ht hs (cox_rr hF hG hy hxv) bl bh bm (fun hms => ?_) hvv) (by simp only [execOp, hop]; exact run_v _ _)
            cases hi with
            | some hi => rcases bh with ⟨_, h⟩ | ⟨k, n, rfl, _⟩ <;> first | rfl | cases h
            | none =>
              cases hhi
              cases mx with
              | some mx =>
                simp only [coxO, Option.map_eq_some_iff] at hmx
                obtain ⟨z, _, rfl⟩ := hmx
                simp at hcond
              | none => rcases bm with ⟨rfl, _⟩ | ⟨k, n, _, h⟩ <;> first | cases hms | cases h
          · cases hv
      · rename_i n e ht
        simp only [Option.map_eq_some_iff] at hc
        obtain ⟨s, hs, rfl⟩ := hc
        simp only [evalA] at hv
        split at hv
        · rename_i xv l h hxv hl hh
          split at hv
          · rename_i r rd' hr
            cases hv
            have hmn : mx = none := by
              cases mx with
              | none => rfl
              | some m => simp [coxO, Option.map_eq_some_iff] at hmx
            subst hmn
            exact done_of hR (snd_slA hR ht hs (cox_rr hF hG hy hxv) (bnd_of hF hG hlo hl) (bnd_of hF hG hhi hh) hr) (by simp only [execOp, hop]; exact run_v _ _)
          · cases hv
        · cases hv
      · cases hc
    · cases hc
  case makeFunc fn fs cs =>
    cases fn with
    | func f =>
      simp only [cop] at hc
      split at hc
      · rename_i fs' cs' hfs hcs
        cases hc
        simp only [evalA] at hv
        split at hv
        · rename_i l1 l2 h1 h2
          cases hv
          obtain ⟨k1, k2⟩ := vals_of hF hG hfs h1
          obtain ⟨k3, k4⟩ := vals_of hF hG hcs h2
          exact Done.pure (val := .func (.func f) (fs.map a.eval) (cs.map a.eval)) hR (by simp [execOp, hop, Instr.makeFunc]) (RR_fn.2 ⟨_, _, rfl, ⟨by simp [k1], k2.imp (fun _ _ h => h) fun j u hj => by simpa using hj⟩, by simp [k3], k4.imp (fun _ _ h => h) fun j u hj => by simpa using hj⟩)
        · cases hv
      · cases hc
    | _ => simp [cop] at hc
  case makeSlice t l k =>
    split at hc
    · rename_i e l' k' ht hl hk
      split at hc
      · rename_i s b z hs hb hz
        split at hc
        · rename_i hzl
          cases hc
          simp only [evalA] at hv
          split at hv
          · rename_i lv kv hlv hkv
            split at hv
            · rename_i r up' hr
              cases hv
              obtain ⟨cs, rfl, val, vs, h1, h2, h3⟩ := snd_mks hR hid ht hs hb hz hzl (cox_rr hF hG hl hlv) (cox_rr hF hG hk hkv) hr
              simp only [newOf, List.any_cons, List.any_nil, beq_self_eq_true, Bool.or_false, if_true]
              exact done_new hR hid h2 (by simp [execOp, hop, h1]) h3
            · cases hv
          · cases hv
        · cases hc
      · cases hc
    · cases hc
  case extract x i =>
    simp only [Option.map_eq_some_iff] at hc
    obtain ⟨y, hy, rfl⟩ := hc
    obtain ⟨u, hu, hf, rfl, rfl⟩ := ev1_some hv
    have hr := cox_rr hF hG hy hu
    unfold extV at hf
    split at hf
    · obtain ⟨vs, h1, h2, h3⟩ := RR_tup.1 hr
      obtain ⟨w, hw, hvw⟩ := h3 i v hf
      have hw' : vs[i]? = some w := hw
      exact Done.pure (val := w) hR (by simp [execOp, hop, Instr.extract, h1, hw']) hvw
    · cases hf
  case call cl =>
    split at hc
    · split at hc
      · cases hc; cases hv
      · cases hc
    · rename_i b hb
      split at hc
      · rename_i s x t u hargs hts
        split at hc
        · rename_i e e' ht hu
          split at hc
          · rename_i n b hn hby
            split at hc
            · rename_i hcond
              cases hc
              obtain ⟨hn0, rfl, hzl⟩ := hcond
              simp only [evalA] at hv
              split at hv
              · rename_i sv xv hs hx
                have hal : ∃ o1 o2, cl.args = #[o1, o2] ∧ cox o1 = some s ∧ cox o2 = some x := by
                  obtain ⟨m1, m2⟩ := mapM_some hargs
                  match hq : cl.args.toList with
                  | [o1, o2] =>
                    rw [hq] at m2
                    obtain ⟨y1, g1, g2⟩ := m2 0 s rfl
                    obtain ⟨y2, g3, g4⟩ := m2 1 x rfl
                    simp at g1 g3
                    subst g1; subst g3
                    exact ⟨_, _, by rw [← Array.toArray_toList (xs := cl.args), hq], g2, g4⟩
                  | [] => rw [hq] at m1; simp at m1
                  | [_] => rw [hq] at m1; simp at m1
                  | _ :: _ :: _ :: _ => rw [hq] at m1; simp at m1
                obtain ⟨o1, o2, hargs', g1, g2⟩ := hal
                have hat : cl.argTypes = #[t, t] := by rw [← Array.toArray_toList (xs := cl.argTypes), hts]
                obtain ⟨val, c', h1, h2, h3, h4, h5, h6⟩ := snd_append (ty := o.type) hR hid ht hn hby hzl hn0 (cox_rr hF hG g1 hs) (cox_rr hF hG g2 hx) hv
                refine ⟨c', .inl ⟨val, ?_, h2⟩, h3, h4, h5, fun i => ?_⟩
                · simp [execOp, hop, resolve, hb, hargs', hat, invoke, builtin, h1]
                · rw [h6]
                  unfold newOf
                  split
                  · rename_i h; simp [h]
                  · rename_i h; simp [h]
              · cases hv
            · cases hc
          · cases hc
        · cases hc
      · rename_i x t hargs hts
        split at hc
        · rename_i e ht
          cases hc
          obtain ⟨o1, hargs', g1⟩ := args_one hargs
          have hat : cl.argTypes = #[t] := by rw [← Array.toArray_toList (xs := cl.argTypes), hts]
          obtain ⟨u, hu, hf, rfl, rfl⟩ := ev1_some hv
          have hr := cox_rr hF hG g1 hu
          have key : ∃ A n k, a.eval o1 = .slice A n k ∧ v = .int .i64 n := by
            unfold lenV at hf
            split at hf <;> cases hf
            · obtain ⟨_, _, _, h, _⟩ := RR_sl.1 hr; exact ⟨_, _, _, h, rfl⟩
            · obtain ⟨_, _, h, _⟩ := RR_isl.1 hr; exact ⟨_, _, _, h, rfl⟩
            · obtain ⟨_, h⟩ := RR_nils.1 hr; exact ⟨_, _, _, h, rfl⟩
          obtain ⟨A, n, k, h1, rfl⟩ := key
          exact Done.pure (val := .int .i64 n) hR (by simp [execOp, hop, resolve, hb, hargs', hat, invoke, builtin, Builtin.len_, run_underlying ht, h1, goInt]) (RR_int.2 rfl)
        · cases hc
      · rename_i x t hargs hts
        split at hc
        · rename_i e ht
          split at hc
          · rename_i n z hn hz
            split at hc
            · rename_i hcond
              cases hc
              obtain ⟨o1, hargs', g1⟩ := args_one hargs
              have hat : cl.argTypes = #[t] := by rw [← Array.toArray_toList (xs := cl.argTypes), hts]
              simp only [evalA] at hv
              split at hv
              · rename_i u hu
                split at hv
                · rename_i up' rd' hw
                  cases hv
                  have hr := cox_rr hF hG g1 hu
                  obtain ⟨c', h1, h2, h3, h4, h5⟩ := snd_clear (ty := o.type) hR ht hz (by omega) hr hw
                  refine ⟨c', .inl ⟨.tuple #[], by simp [execOp, hop, resolve, hb, hargs', hat, invoke, builtin, h1], RR_tup.2 ⟨#[], rfl, rfl, fun j x hx => by simp at hx⟩⟩, h2, h3, h4, fun i => ?_⟩
                  rw [h5]
                  have : newOf up id = [] := by
                    unfold clearV at hw
                    split at hw
                    · cases hw; rfl
                    · split at hw
                      · split at hw
                        · cases hw
                          have : _ ≠ id := fun e => hid (e ▸ (RR_sl.1 hr).1)
                          simp [newOf, this]
                        · cases hw
                      · cases hw
                    · cases hw; rfl
                    · cases hw
                  simp [this]
                · cases hv
              · cases hv
            · cases hc
          · cases hc
        · cases hc
      · rename_i x l hargs
        cases hc
        obtain ⟨o1, os, hargs', g1, g2⟩ := args_cons hargs
        simp only [evalA] at hv
        split at hv
        · rename_i xv lv hx hl
          obtain ⟨hm, rfl, rfl⟩ := pureR_some hv
          obtain ⟨k1, k2⟩ := vals_of hF hG g2 hl
          obtain ⟨val, h1, h2⟩ := snd_mm (P := P) (mx := false) (vs := os.map a.eval) (cox_rr hF hG g1 hx) (by simp [k1]) k2 hm
          exact Done.pure hR (by simp at h1; simp [execOp, hop, resolve, hb, invoke, builtin, Builtin.min_, hargs', h1]) h2
        · cases hv
      · rename_i x l hargs
        cases hc
        obtain ⟨o1, os, hargs', g1, g2⟩ := args_cons hargs
        simp only [evalA] at hv
        split at hv
        · rename_i xv lv hx hl
          obtain ⟨hm, rfl, rfl⟩ := pureR_some hv
          obtain ⟨k1, k2⟩ := vals_of hF hG g2 hl
          obtain ⟨val, h1, h2⟩ := snd_mm (P := P) (mx := true) (vs := os.map a.eval) (cox_rr hF hG g1 hx) (by simp [k1]) k2 hm
          exact Done.pure hR (by simp at h1; simp [execOp, hop, resolve, hb, invoke, builtin, Builtin.max_, hargs', h1]) h2
        · cases hv
      · cases hc
    · cases hc
end
end Go.Am
