/-
  The abstract machine as a program that can be run: what it comes to, the model's code comes to. No program in sight.
-/
import Derived.Test.YtnddcnnangjgeaaAmRo
set_option linter.unusedSimpArgs false
set_option linter.unusedVariables false
namespace Go.Am
abbrev CallF := AV → List AV → Hp → Option (AV × Hp)
abbrev CallP := Nat → List AV → Hp → Option (AV × List Nat)
/-- One operation. -/
def stepE (cl : CallF) (G : Gl) (o : AOp) (fr : List AV) (h : Hp) : Option (AV × Hp) :=
  match o with
  | .call f args => match ax G fr f, valsV (ax G fr) args with
    | some fv, some avs => cl fv avs h
    | _, _ => none
  | o => match evalA (ax G fr) (lk h.l) h.next o with
    | some (v, up, _) => some (v, h.app up)
    | none => none
def runSE (cl : CallF) (G : Gl) : List AOper → List AV → Hp → Option (List AV × Hp)
  | [], fr, h => some (fr, h)
  | o :: os, fr, h => match o.guard with
    | none => match stepE cl G o.op fr h with
      | some (v, h') => runSE cl G os (setO fr o.dst v) h'
      | none => none
    | some (t, b) => match (fr[t]?).bind gval with
      | some (some p) => if p = b then (match stepE cl G o.op fr h with
          | some (v, h') => runSE cl G os (setO fr o.dst v) h'
          | none => none) else runSE cl G os (setO fr o.dst (.tup [])) h
      | some none => runSE cl G os (setO fr o.dst (.tup [])) h
      | none => none
/-- An operation of a region that draws: its value, what it changes and reads. -/
def stepDE (cp : CallP) (G : Gl) (o : AOp) (fr : List AV) (h : Hp) : Option (AV × Up × List Nat) :=
  match o with
  | .call f args => match ax G fr f, valsV (ax G fr) args with
    | some (.fn g fs cs), some avs => (cp g (fs ++ avs ++ cs) h).map fun r => (r.1, [], r.2)
    | _, _ => none
  | o => evalA (ax G fr) (lk h.l) h.next o
def wantE (fr : List AV) (o : AOper) : Option Bool := match o.guard with
  | none => some true
  | some (t, b) => match (fr[t]?).bind gval with
    | some p => some (p == some b)
    | none => none
def runDE (cl : CallF) (cp : CallP) (G : Gl) (anc : List (List Nat)) (n : Nat) : List AOper → Nat → Nat → List Ent → List AV → Hp → Option (List AV × Hp)
  | [], _, b, log, fr, h => if chk anc b log then some (fr, h) else none
  | o :: os, k, b, log, fr, h =>
    if o.op.isCall && pivot anc n k then
      if chk anc b log then match wantE fr o with
        | some true => match stepE cl G o.op fr h with
          | some (v, h') => runDE cl cp G anc n os (k + 1) (k + 1) [] (setO fr o.dst v) h'
          | none => none
        | some false => runDE cl cp G anc n os (k + 1) (k + 1) [] (setO fr o.dst (.tup [])) h
        | none => none
      else none
    else match wantE fr o with
      | some true => match stepDE cp G o.op fr h with
        | some (v, up, rd) => runDE cl cp G anc n os (k + 1) b (log ++ [entOf o true up rd]) (setO fr o.dst v) (h.appD up)
        | none => none
      | some false => runDE cl cp G anc n os (k + 1) b (log ++ [entOf o false [] []]) (setO fr o.dst (.tup [])) (h.appD [])
      | none => none
def inLoopB (h : Hp) : Option Nat → Bool
  | none => true
  | some l => match lk h.l l with
    | some (.loop ..) => true
    | _ => false
def exec (fok : Nat → Bool) (cl : CallF) (cp : CallP) (G : Gl) (rd : Option Nat) (N : Nat) : Nat → ACode → List AV → Hp → Option (Exit × List AV × Hp)
  | 0, _, _, _ => none
  | n + 1, c, fr, h => match c with
    | .skip => some (.normal, fr, h)
    | .reg ops => match runSE cl G ops fr h with
      | some (fr', h') => some (.normal, fr', h')
      | none => none
    | .regD ops pre => if ordOk pre 0 then match runDE cl cp G (ancs pre) pre.length ops 0 0 [] fr h with
      | some (fr', h') => some (.normal, fr', h')
      | none => none
      else none
    | .seq a b => match exec fok cl cp G rd N n a fr h with
      | some (.normal, fr', h') => exec fok cl cp G rd N n b fr' h'
      | r => r
    | .cond c a b => match ax G fr c with
      | some (.bool true) => exec fok cl cp G rd N n a fr h
      | some (.bool false) => exec fok cl cp G rd N n b fr h
      | _ => none
    | .block id c => match exec fok cl cp G rd N n c fr h with
      | some (.exit j, fr', h') => if j = id then some (.normal, fr', h') else some (.exit j, fr', h')
      | r => r
    | .loop c => if N ≤ h.next then match exec fok cl cp G rd N n c fr h with
      | some (.normal, fr', h') => exec fok cl cp G rd N n (.loop c) fr' h'
      | r => r
      else none
    | .rangeF f ps as bd => match ax G fr f with
      | some (.fn g fs cs) => if (fok g && inLoopB h rd) = true then
          match cl (.fn g fs cs) [.yld h.next] ⟨put h.l h.next (some (.loop .ready none fr ps as bd)), h.next + 1⟩ with
          | some (_, h2) => match lk h2.l h.next with
            | some (.loop .busy _ _ _ _ _) => none
            | some (.loop _ none fr' ps' as' bd') => some (.normal, fr, ⟨put h2.l h.next (some (.loop .exhausted none fr' ps' as' bd')), h2.next⟩)
            | some (.loop _ (some (.exit id)) fr' ps' as' bd') => some (.exit id, fr, ⟨put h2.l h.next (some (.loop .exhausted (some (.exit id)) fr' ps' as' bd')), h2.next⟩)
            | some (.loop _ (some .ret) fr' ps' as' bd') => some (.ret, fr, ⟨put h2.l h.next (some (.loop .exhausted (some .ret) fr' ps' as' bd')), h2.next⟩)
            | _ => none
          | none => none
        else none
      | _ => none
    | .exit id => some (.exit id, fr, h)
    | .ret => some (.ret, fr, h)
/-- A function: its code, its results, how many slots; or what is known of it. -/
inductive FnE where
  | code (ac : ACode) (rs : List ARes) (k : Nat)
  | orc (F : List AV → Hp → Option (AV × Hp))
def FnE.isCode : Option FnE → Bool
  | some (.code _ _ _) => true
  | _ => false
abbrev Tab := Nat → Option FnE
def resE (rs : List ARes) (N : Nat) : Option (Exit × List AV × Hp) → Option (AV × Hp)
  | some (.normal, fr, h) => if N ≤ h.next then match resVs fr (lk h.l) rs with | some l => some (packV l, h) | none => none else none
  | some (.ret, fr, h) => if N ≤ h.next then match resVs fr (lk h.l) rs with | some l => some (packV l, h) | none => none else none
  | _ => none
def roundE (l : Nat) : Option (Exit × List AV × Hp) → Option (AV × Hp)
  | some (e, _, h) => match lk h.l l with
    | some (.loop .busy _ fr ps as bd) => match e with
      | .normal => some (.bool true, ⟨put h.l l (some (.loop .ready none fr ps as bd)), h.next⟩)
      | .ret => some (.bool false, ⟨put h.l l (some (.loop .done (some .ret) fr ps as bd)), h.next⟩)
      | .exit id => some (.bool false, ⟨put h.l l (some (.loop .done (some (.exit id)) fr ps as bd)), h.next⟩)
      | _ => none
    | _ => none
  | none => none
/-- A call that just reads what it is given: of values, or with a result that is new. -/
def pureE (isC : Nat → Bool) (cl : CallF) : CallP := fun g avs h => if isC g then match frzL (frzV 9 (lk h.l)) avs with
  | some (avs', rd) => match cl (.fn g [] []) avs' ⟨[], 0⟩ with
    | some (r, h0) => if scalB 9 r || (rd.isEmpty && plainB 9 r) then some (r, rd) else match (if rd.isEmpty then frzV 9 (lk h0.l) r else none) with
      | some (r', _) => some (r', [])
      | none => match cl (.fn g [] []) avs ⟨restr h.l rd, h.next⟩ with
        | some (r, h1) => (roB ⟨restr h.l rd, h.next⟩ avs r h1).map fun r' => (r', (restr h.l rd).map (·.1))
        | none => none
    | none => none
  | none => none
  else none
/-- A call of a function's value. -/
def callE (T : Tab) (G : Gl) : Nat → CallF
  | 0, _, _, _ => none
  | n + 1, fv, args, h =>
    let cp : CallP := pureE (fun g => FnE.isCode (T g)) (callE T G n)
    let fok : Nat → Bool := fun g => FnE.isCode (T g)
    match fv with
    | .fn f fs cs => match T f with
      | some (.code ac rs k) => resE rs h.next (exec fok (callE T G n) cp G none h.next n ac ((fs ++ args ++ cs) ++ List.replicate (k - (fs ++ args ++ cs).length) .undef) h)
      | some (.orc F) => F (fs ++ args ++ cs) h
      | none => none
    | .yld l => match lk h.l l with
      | some (.loop .ready _ fr ps as bd) => if args.length = ps.length then match exec fok (callE T G n) cp G (some l) h.next n as (setPs fr ps args) h with
        | some (.normal, fr1, h1) => match lk h1.l l with
          | some (.loop .ready pend fr' ps' as' bd') => roundE l (exec fok (callE T G n) cp G (some l) h.next n bd fr1 ⟨put h1.l l (some (.loop .busy pend fr' ps' as' bd')), h1.next⟩)
          | _ => none
        | _ => none
        else none
      | _ => none
    | _ => none
end Go.Am
