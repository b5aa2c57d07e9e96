/-
  Calls that are walked into; ranges over functions that are walked into. No program in sight.
-/
import Derived.Test.YtnddcnnangjgeaaAmOwnB
set_option linter.unusedSimpArgs false
set_option linter.unusedVariables false
namespace Go.Am
section
variable {P : Program} {G : Gl}
/-- A result as it is, and the store as it is. -/
theorem finS_id {N : Nat} {K : AV → Hp → Prop} {l : List AV} {h : Hp} (hN : N ≤ h.next) (hk : K (packV l) h) : finS P N K h (some l) :=
  ⟨id, _, h, weak_refl, fun _ _ => rfl, hN, hk⟩
/-- The result as it is; of the store some blocks are kept, by other names. -/
theorem finS_ren {N : Nat} {K : AV → Hp → Prop} {l : List AV} {r : AV} {h h' : Hp} (ren : List (Nat × Nat)) (hk : keepsB N ren = true) (hN : N ≤ h'.next) (hw : Weak P (rn ren) [packV l] h [r] h') (hK : K r h') : finS P N K h (some l) :=
  ⟨rn ren, r, h', hw, keeps_rn hk, hN, hK⟩
theorem goCall_in {d : Option Nat} {os : List AOper} {Q : List AV → Hp → Prop} {fr : List AV} {h : Hp} {f n : Nat} {ac : ACode} {rs : List ARes} {fs args cs : List AV} (hmix : P.follows .mixedOrders = true) (hb : Body P f ac rs n)
    (hw : wpc P G none h.next ac (finQ P rs h.next fun v h' => runS P G os Q (setO fr d v) h') ((fs ++ args ++ cs) ++ List.replicate (n - (fs ++ args ++ cs).length) .undef) h) : goCall P G d os Q fr h (.fn f fs cs) args := callV_body hmix hb hw
theorem range_in {rd : Option Nat} {N : Nat} {Q : Exit → List AV → Hp → Prop} {fr : List AV} {h : Hp} {f : AX} {ps : List Nat} {as bd : ACode} {g n : Nat} {ac : ACode} {rs : List ARes} {fs cs : List AV} (hmix : P.follows .mixedOrders = true) (hb : Body P g ac rs n) (hf : ax G fr f = some (.fn g fs cs)) (hin : inLoop h rd)
    (hw : ∀ frl asl bdl, frl = fr → asl = as → bdl = bd → wpc P G none (h.next + 1) ac (finQ P rs (h.next + 1) fun _ h2 => rangeQ h.next fr Q h2) ((fs ++ [AV.yld h.next] ++ cs) ++ List.replicate (n - (fs ++ [AV.yld h.next] ++ cs).length) .undef) ⟨put h.l h.next (some (.loop .ready none frl ps asl bdl)), h.next + 1⟩) : wpc P G rd N (.rangeF f ps as bd) Q fr h :=
  ⟨g, fs, cs, hf, hb.ok, hin, callV_body hmix hb (hw fr as bd rfl rfl rfl)⟩
/-- Behind a range over a function: it came to its end. -/
theorem range_end {l : Nat} {fr : List AV} {Q : Exit → List AV → Hp → Prop} {h2 : Hp} {fr' : List AV} {ps : List Nat} {as bd : ACode} (hl : lk h2.l l = some (.loop .ready none fr' ps as bd)) (hq : Q .normal fr ⟨put h2.l l (some (.loop .exhausted none fr' ps as bd)), h2.next⟩) : rangeQ l fr Q h2 :=
  ⟨.ready, none, fr', ps, as, bd, hl, (fun h => by cases h), hq⟩
theorem goDCall_yld {anc : List (List Nat)} {n k : Nat} {Q : List AV → Hp → Prop} {fr : List AV} {h : Hp} {d : Option Nat} {os : List AOper} {l : Nat} {pend : Option Code} {frl : List AV} {ps : List Nat} {as bd : ACode} {args : List AV} (hmix : P.follows .mixedOrders = true) (hl : lk h.l l = some (.loop .ready pend frl ps as bd)) (hlen : args.length = ps.length)
    (hw : wpc P G (some l) h.next as (assignQ P G l h.next bd fun v h' => runD P G anc n os (k + 1) (k + 1) [] Q (setO fr d v) h') (setPs frl ps args) h) : goDCall P G anc n d os k Q fr h (.yld l) args := callV_yld hmix hl hlen hw
theorem goCall_yld {Q : List AV → Hp → Prop} {fr : List AV} {h : Hp} {d : Option Nat} {os : List AOper} {l : Nat} {pend : Option Code} {frl : List AV} {ps : List Nat} {as bd : ACode} {args : List AV} (hmix : P.follows .mixedOrders = true) (hl : lk h.l l = some (.loop .ready pend frl ps as bd)) (hlen : args.length = ps.length)
    (hw : wpc P G (some l) h.next as (assignQ P G l h.next bd fun v h' => runS P G os Q (setO fr d v) h') (setPs frl ps args) h) : goCall P G d os Q fr h (.yld l) args := callV_yld hmix hl hlen hw
/-- The assignments are done: the body begins. -/
theorem assign_done {l N : Nat} {bd : ACode} {K : AV → Hp → Prop} {fr1 : List AV} {h1 : Hp} {pend : Option Code} {fr : List AV} {ps : List Nat} {as bd' : ACode} (hl : lk h1.l l = some (.loop .ready pend fr ps as bd')) (hw : wpc P G (some l) N bd (roundQ l K) fr1 ⟨put h1.l l (some (.loop .busy pend fr ps as bd')), h1.next⟩) : assignQ P G l N bd K .normal fr1 h1 :=
  ⟨rfl, pend, fr, ps, as, bd', hl, hw⟩
/-- A round is done. -/
theorem round_done {l : Nat} {K : AV → Hp → Prop} {fr1 : List AV} {h : Hp} {pend : Option Code} {fr : List AV} {ps : List Nat} {as bd : ACode} (hl : lk h.l l = some (.loop .busy pend fr ps as bd)) (hK : K (.bool true) ⟨put h.l l (some (.loop .ready none fr ps as bd)), h.next⟩) : roundQ l K .normal fr1 h :=
  ⟨pend, fr, ps, as, bd, hl, hK⟩
end
end Go.Am
