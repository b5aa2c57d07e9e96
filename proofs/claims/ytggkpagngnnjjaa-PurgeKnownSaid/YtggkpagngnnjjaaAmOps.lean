/-
  What each operation of the abstract machine gives. No program in sight.
-/
import Derived.Test.YtggkpagngnnjjaaAmCop
set_option linter.unusedSimpArgs false
set_option linter.unusedVariables false
namespace Go.Am

abbrev At := Nat → Option AObj
abbrev Up := List (Nat × Option AObj)
def upd (at_ : At) : Up → At
  | [] => at_
  | (i, o) :: r => fun j => if j = i then o else upd at_ r j
/-- Cells with others written over them from a place on. -/
def over (cs : List AV) : Nat → List AV → List AV
  | _, [] => cs
  | o, v :: vs => over (cs.set o v) (o + 1) vs
def cellsAt (at_ : At) (i : Nat) : Option (List AV) := match at_ i with
  | some (.cells cs) => some cs
  | _ => none
def AV.flat : AV → Bool
  | .agg _ => true
  | v => v.one
def fillL (z : List AV) : List (Nat × Nat × AV) → Option (List AV)
  | [] => some z
  | (o, s, v) :: r => if v.flat ∧ v.cells.length = s ∧ o + s ≤ z.length then fillL (over z o v.cells) r else none
def partsV (ev : AX → Option AV) : List (Nat × Nat × AX) → Option (List (Nat × Nat × AV))
  | [] => some []
  | (o, s, x) :: r => match ev x, partsV ev r with
    | some v, some l => some ((o, s, v) :: l)
    | _, _ => none
def valsV (ev : AX → Option AV) : List AX → Option (List AV)
  | [] => some []
  | x :: r => match ev x, valsV ev r with
    | some v, some l => some (v :: l)
    | _, _ => none
def pickV : AV → AV → AV → Option AV
  | .bool t, .bool p, .bool q => some (.bool (if t then p else q))
  | .bool t, .int k p, .int k' q => if k = k' then some (.int k (if t then p else q)) else none
  | .bool t, x, y => some (if t then x else y)
  | _, _, _ => none
def partV (ag : Bool) (off n : Nat) (cs : List AV) : Option AV :=
  if ag then (if off + n ≤ cs.length then some (.agg ((cs.drop off).take n)) else none) else cs[off]?
def loadV (at_ : At) (ag : Bool) (n : Nat) : AV → Option (AV × List Nat)
  | .ptr i o => match cellsAt at_ i with
    | some cs => (partV ag o n cs).map fun v => (v, [i])
    | none => none
  | .iptr cs => (partV ag 0 n cs).map fun v => (v, [])
  | _ => none
def storeV (at_ : At) (n : Nat) (v : AV) : AV → Option (Up × List Nat)
  | .ptr i o => match cellsAt at_ i with
    | some cs => if v.flat ∧ v.cells.length = n ∧ 0 < n ∧ o + n ≤ cs.length then some ([(i, some (.cells (over cs o v.cells)))], [i]) else none
    | none => none
  | _ => none
def nchkV : AV → Option AV
  | .ptr i o => some (.ptr i o)
  | .iptr cs => some (.iptr cs)
  | _ => none
def binV (op : BinOp) : AV → AV → Option AV
  | .int k a, .int k' b =>
    match op with
    | .shl => if b < 0 then none else some (.int k (k.wrap (a * 2 ^ (min b.toNat k.bits))))
    | .shr => if b < 0 then none else some (.int k (a.fdiv (2 ^ (min b.toNat k.bits))))
    | .add => if k = k' then some (.int k (k.wrap (a + b))) else none
    | .sub => if k = k' then some (.int k (k.wrap (a - b))) else none
    | .mul => if k = k' then some (.int k (k.wrap (a * b))) else none
    | .quo => if k = k' ∧ b ≠ 0 then some (.int k (k.wrap (a.tdiv b))) else none
    | .rem => if k = k' ∧ b ≠ 0 then some (.int k (a.tmod b)) else none
    | .and => if k = k' then some (.int k (bits .and k a b)) else none
    | .or => if k = k' then some (.int k (bits .or k a b)) else none
    | .xor => if k = k' then some (.int k (bits .xor k a b)) else none
    | .andNot => if k = k' then some (.int k (bits .andNot k a b)) else none
    | .eql => if k = k' then some (.bool (a == b)) else none
    | .neq => if k = k' then some (.bool (a != b)) else none
    | .lss => if k = k' then some (.bool (decide (a < b))) else none
    | .leq => if k = k' then some (.bool (decide (a ≤ b))) else none
    | .gtr => if k = k' then some (.bool (decide (a > b))) else none
    | .geq => if k = k' then some (.bool (decide (a ≥ b))) else none
  | _, _ => none
def eqbV (ng : Bool) : AV → AV → Option AV
  | .bool a, .bool b => some (.bool (if ng then !(a == b) else (a == b)))
  | _, _ => none
/-- Is it nil? (Of functions, or of pointers.) -/
def nilK (fn : Bool) : AV → Option Bool
  | .nilp => if fn then none else some true
  | .ptr _ _ => if fn then none else some false
  | .iptr _ => if fn then none else some false
  | .nilf => if fn then some true else none
  | .fn _ _ _ => if fn then some false else none
  | _ => none
def eqpV (ng fn : Bool) (x y : AV) : Option AV := match nilK fn x, nilK fn y with
  | some true, some b => some (.bool (if ng then !b else b))
  | some b, some true => some (.bool (if ng then !b else b))
  | _, _ => none
def eqL : List Bool → List AV → List AV → Option Bool
  | [], [], [] => some true
  | false :: ks, .int k a :: r, .int k' b :: s => if k = k' then (eqL ks r s).map fun t => (a == b) && t else none
  | true :: ks, .bool a :: r, .bool b :: s => (eqL ks r s).map fun t => (a == b) && t
  | _, _, _ => none
def eqsV (ng : Bool) (ks : List Bool) : AV → AV → Option AV
  | .agg r, .agg s => (eqL ks r s).map fun b => .bool (if ng then !b else b)
  | _, _ => none
def unV (op : UnOp) : AV → Option AV
  | .int k n => match op with
    | .neg => some (.int k (k.wrap (0 - n)))
    | .xor => some (.int k (bits .xor k (if k.signed then -1 else k.max) n))
    | _ => none
  | .bool b => match op with | .not => some (.bool !b) | _ => none
  | _ => none
def convV (k : IntKind) : AV → Option AV
  | .int _ n => some (.int k (k.wrap n))
  | _ => none
def faddrV (off : Nat) : AV → Option AV
  | .ptr i o => some (.ptr i (o + off))
  | .iptr cs => some (.iptr (cs.drop off))
  | _ => none
def fldV (ag : Bool) (off n : Nat) : AV → Option AV
  | .agg cs => partV ag off n cs
  | _ => none
def iaddrAV (len sz : Nat) : AV → AV → Option AV
  | .ptr i o, .int _ n => if 0 ≤ n ∧ n < (len : Int) then some (.ptr i (o + n.toNat * sz)) else none
  | .iptr cs, .int _ n => if 0 ≤ n ∧ n < (len : Int) then some (.iptr (cs.drop (n.toNat * sz))) else none
  | _, _ => none
def iaddrSV (sz : Nat) : AV → AV → Option AV
  | .sl id off len _ sz', .int _ n => if sz = sz' ∧ 0 ≤ n ∧ n < (len : Int) then some (.ptr id (off + n.toNat * sz)) else none
  | .isl els, .int _ n => if 0 ≤ n then (els[n.toNat]?).bind fun el => if el.length = sz then some (.iptr el) else none else none
  | _, _ => none
def idxV (ag : Bool) (len sz : Nat) : AV → AV → Option AV
  | .agg cs, .int _ n => if 0 ≤ n ∧ n < (len : Int) then partV ag (n.toNat * sz) sz cs else none
  | _, _ => none
/-- A bound of a slice: none, or a number that is not negative. -/
def bndV : Option AV → Option (Option Nat)
  | none => some none
  | some (.int _ n) => if 0 ≤ n then some (some n.toNat) else none
  | _ => none
def slSV (sz : Nat) : AV → Option Nat → Option Nat → Option Nat → Option AV
  | .sl id off len cp sz', lo, hi, mx =>
    let m := mx.getD cp
    let h := hi.getD len
    let l := lo.getD 0
    if sz = sz' ∧ l ≤ h ∧ h ≤ m ∧ m ≤ cp then
      if l < m then some (.sl id (off + l * sz) (h - l) (m - l) sz) else if mx.isSome then some .nils else some (.isl [])
    else none
  | .isl els, lo, hi, mx =>
    let m := mx.getD els.length
    let h := hi.getD els.length
    let l := lo.getD 0
    if l ≤ h ∧ h ≤ m ∧ m ≤ els.length ∧ (l = 0 ∨ els.all (fun e => e.length == sz) = true) then
      if mx.isSome ∧ l = m then some .nils else some (.isl ((els.take h).drop l))
    else none
  | .nils, lo, hi, mx => if lo.getD 0 = 0 ∧ hi.getD 0 = 0 ∧ mx.getD 0 = 0 then some .nils else none
  | _, _, _, _ => none
def slAV (at_ : At) (n sz : Nat) : AV → Option Nat → Option Nat → Option (AV × List Nat)
  | .ptr id off, lo, hi => match cellsAt at_ id with
    | some cs =>
      let h := hi.getD n
      let l := lo.getD 0
      if l ≤ h ∧ h ≤ n ∧ n ≤ maxLen ∧ off + n * sz ≤ cs.length ∧ 0 < n * sz then
        if l < n then some (.sl id (off + l * sz) (h - l) (n - l) sz, [id]) else some (.nils, [id])
      else none
    | none => none
  | _, _, _ => none
def mksV (id sz bytes : Nat) (z : List AV) : AV → AV → Option (AV × Up)
  | .int .i64 l, .int .i64 c => if 0 ≤ l ∧ l ≤ c ∧ c ≤ 1000000000 ∧ (bytes : Int) * c ≤ 140737488355328 then some (.sl id 0 l.toNat c.toNat sz, [(id, some (.cells (List.replicate c.toNat z).flatten))]) else none
  | _, _ => none
def extV (i : Nat) : AV → Option AV
  | .tup vs => vs[i]?
  | _ => none
def lenV : AV → Option AV
  | .sl _ _ len _ _ => some (.int .i64 len)
  | .isl els => some (.int .i64 els.length)
  | .nils => some (.int .i64 0)
  | _ => none
/-- What is appended: cells, how many elements, and the block that is read. -/
def srcV (at_ : At) (sz : Nat) : AV → Option (List AV × Nat × List Nat)
  | .nils => some ([], 0, [])
  | .isl els => if els.all (fun e => e.length == sz) then some (els.flatten, els.length, []) else none
  | .sl id off len _ sz' => match cellsAt at_ id with
    | some cs => if sz = sz' ∧ off + len * sz ≤ cs.length then some ((cs.drop off).take (len * sz), len, [id]) else none
    | none => none
  | _ => none
def appV (at_ : At) (id sz bytes : Nat) (s x : AV) : Option (AV × Up × List Nat) :=
  match srcV at_ sz x with
  | some (src, n, rd) => match s with
    | .nils => if n = 0 then some (.nils, [], rd) else if n * bytes ≤ 140737488355328 ∧ n ≤ 1000000000000 then some (.sl id 0 n n sz, [(id, some (.cells src))], rd) else none
    | .sl d off len cp sz' => match cellsAt at_ d with
      | some cs =>
        if sz = sz' ∧ off + len * sz ≤ cs.length then
          if len + n ≤ cp then (if off + (len + n) * sz ≤ cs.length then some (.sl d off (len + n) cp sz, [(d, some (.cells (over cs (off + len * sz) src)))], d :: rd) else none)
          else if (len + n) * bytes ≤ 140737488355328 ∧ len + n ≤ 1000000000000 then some (.sl id 0 (len + n) (len + n) sz, [(d, none), (id, some (.cells ((cs.drop off).take (len * sz) ++ src)))], d :: rd) else none
        else none
      | none => none
    | _ => none
  | none => none
def clearV (at_ : At) (z : List AV) : AV → Option (Up × List Nat)
  | .nils => some ([], [])
  | .sl id off len _ sz => match cellsAt at_ id with
    | some cs => if sz = z.length ∧ off + len * sz ≤ cs.length then some ([(id, some (.cells (over cs off (List.replicate len z).flatten)))], [id]) else none
    | none => none
  | .isl [] => some ([], [])
  | _ => none
def mmV (mx : Bool) (x : AV) : List AV → Option AV
  | [] => some x
  | y :: r => match x, y with
    | .int k a, .int k' b => if k = k' then mmV mx (.int k (if mx then (if b > a then b else a) else (if b < a then b else a))) r else none
    | _, _ => none
def pureR (o : Option AV) : Option (AV × Up × List Nat) := match o with
  | some v => some (v, [], [])
  | none => none
def ev1 (o : Option AV) (f : AV → Option AV) : Option (AV × Up × List Nat) := match o with
  | some v => pureR (f v)
  | none => none
def ev2 (o p : Option AV) (f : AV → AV → Option AV) : Option (AV × Up × List Nat) := match o, p with
  | some v, some u => pureR (f v u)
  | _, _ => none
def evO (ev : AX → Option AV) : Option AX → Option (Option AV)
  | none => some none
  | some x => (ev x).map some
/-- The value of an operation, what it changes in the store, and what it reads there; id is the name of what it makes. -/
def evalA (ev : AX → Option AV) (at_ : At) (id : Nat) : AOp → Option (AV × Up × List Nat)
  | .mv x => pureR (ev x)
  | .pick c a b => match ev c, ev a, ev b with | some c, some a, some b => pureR (pickV c a b) | _, _, _ => none
  | .new z => some (.ptr id 0, [(id, some (.cells z))], [])
  | .box x => match ev x with | some v => if v.flat then some (.ptr id 0, [(id, some (.cells v.cells))], []) else none | none => none
  | .build z ps => match partsV ev ps with | some l => pureR ((fillL z l).map .agg) | none => none
  | .bslice sz n z ps => match partsV ev ps with
    | some l => match fillL z l with | some cs => some (.sl id 0 n n sz, [(id, some (.cells cs))], []) | none => none
    | none => none
  | .load ag n x => match ev x with
    | some v => match loadV at_ ag n v with | some (u, rd) => some (u, [], rd) | none => none
    | none => none
  | .store n a v => match ev a, ev v with
    | some p, some v => match storeV at_ n v p with | some (up, rd) => some (.undef, up, rd) | none => none
    | _, _ => none
  | .nchk x => ev1 (ev x) nchkV
  | .bin op x y => ev2 (ev x) (ev y) (binV op)
  | .eqb ng x y => ev2 (ev x) (ev y) (eqbV ng)
  | .eqp ng fn x y => ev2 (ev x) (ev y) (eqpV ng fn)
  | .eqs ng ks x y => ev2 (ev x) (ev y) (eqsV ng ks)
  | .un op x => ev1 (ev x) (unV op)
  | .conv k x => ev1 (ev x) (convV k)
  | .faddr off x => ev1 (ev x) (faddrV off)
  | .fld ag off n x => ev1 (ev x) (fldV ag off n)
  | .iaddrA len sz x i => ev2 (ev x) (ev i) (iaddrAV len sz)
  | .iaddrS sz x i => ev2 (ev x) (ev i) (iaddrSV sz)
  | .idx ag len sz x i => ev2 (ev x) (ev i) (idxV ag len sz)
  | .slS sz x lo hi mx => match ev x, (evO ev lo).bind bndV, (evO ev hi).bind bndV, (evO ev mx).bind bndV with
    | some x, some lo, some hi, some mx => pureR (slSV sz x lo hi mx)
    | _, _, _, _ => none
  | .slA n sz x lo hi => match ev x, (evO ev lo).bind bndV, (evO ev hi).bind bndV with
    | some x, some lo, some hi => match slAV at_ n sz x lo hi with | some (v, rd) => some (v, [], rd) | none => none
    | _, _, _ => none
  | .mkfn f fs cs => match valsV ev fs, valsV ev cs with | some fs, some cs => some (.fn f fs cs, [], []) | _, _ => none
  | .mks sz bytes z l c => match ev l, ev c with
    | some l, some c => match mksV id sz bytes z l c with | some (v, up) => some (v, up, []) | none => none
    | _, _ => none
  | .ext x i => ev1 (ev x) (extV i)
  | .append sz bytes s x => match ev s, ev x with | some s, some x => appV at_ id sz bytes s x | _, _ => none
  | .len x => ev1 (ev x) lenV
  | .clear z x => match ev x with
    | some v => match clearV at_ z v with | some (up, rd) => some (.tup [], up, rd) | none => none
    | none => none
  | .minmax mx x xs => match ev x, valsV ev xs with | some x, some l => pureR (mmV mx x l) | _, _ => none
  | .call _ _ => none
end Go.Am
