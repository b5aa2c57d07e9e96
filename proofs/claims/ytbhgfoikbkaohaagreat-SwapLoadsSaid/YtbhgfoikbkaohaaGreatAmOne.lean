/-
 The abstract machine: values without addresses,a store of named blocks,and how they stand for values and memory of the model. No program in sight.
 From the model's code to the abstract machine's: the types' words written out. No program in sight.
 What each operation of the abstract machine gives. No program in sight.
-/
import Derived.CallsIn
import Derived.Below
import Derived.Laws.Bits
set_option linter.unusedSimpArgs false
set_option linter.unusedVariables false
namespace Go.Am

inductive AV where
 | undef
 | int (k:IntKind) (n:Int)
 | bool (b:Bool)
 | str (s:ByteArray)
 | nilp
 | nilf
 | nils
 | ptr (id off:Nat)
 | iptr (cs:List AV)
 | sl (id off len cp sz:Nat)
 | isl (els:List (List AV))
 | agg (cs:List AV)
 | tup (cs:List AV)
 | fn (f:Nat) (first cap:List AV)
 | yld (l:Nat)
 | mapr (id:Nat)
instance:Inhabited AV:=⟨.undef⟩

def AV.cells:AV→List AV
 | .agg cs=>cs
 | v=>[v]

inductive AX where
 | t (n:Nat)
 | k (v:AV)
 | g (n:Nat)
inductive AOp where
 | mv (x:AX)
 | pick (c a b:AX)
 | new (z:List AV)
 | box (x:AX)
 | build (z:List AV) (ps:List (Nat × Nat × AX))
 | bslice (sz n:Nat) (z:List AV) (ps:List (Nat × Nat × AX))
 | load (ag:Bool) (n:Nat) (x:AX)
 | store (n:Nat) (a v:AX)
 | nchk (x:AX)
 | bin (op:BinOp) (x y:AX)
 | eqb (ng:Bool) (x y:AX)
 | eqp (ng fn:Bool) (x y:AX)
 | eqs (ng:Bool) (ks:List Nat) (x y:AX)
 | eqn (ng:Bool) (x:AX)
 | un (op:UnOp) (x:AX)
 | conv (k:IntKind) (x:AX)
 | faddr (off:Nat) (x:AX)
 | fld (ag:Bool) (off n:Nat) (x:AX)
 | iaddrA (len sz:Nat) (x i:AX)
 | iaddrS (sz:Nat) (x i:AX)
 | idx (ag:Bool) (len sz:Nat) (x i:AX)
 | slS (sz:Nat) (x:AX) (lo hi mx:Option AX)
 | slA (n sz:Nat) (x:AX) (lo hi:Option AX)
 | mkfn (f:Nat) (fs cs:List AX)
 | mks (sz bytes:Nat) (z:List AV) (l c:AX)
 | ext (x:AX) (i:Nat)
 | append (sz bytes:Nat) (s x:AX)
 | len (x:AX)
 | clear (z:List AV) (x:AX)
 | minmax (mx:Bool) (x:AX) (xs:List AX)
 | mkmap
 | mlook (ok ag:Bool) (ks:List Nat) (z:AV) (m k:AX)
 | mset (ag:Bool) (ks:List Nat) (m k v:AX)
 | mdel (ag:Bool) (ks:List Nat) (m k:AX)
 | mlen (m:AX)
 | call (f:AX) (args:List AX)
structure L6 where
 dst:Option Nat
 op:AOp
 guard:Option (Nat × Bool):=none
inductive ACode where
 | skip
 | reg (ops:List L6)
 | regD (ops:List L6) (pre:List (List Nat))
 | seq (a b:ACode)
 | cond (c:AX) (a b:ACode)
 | block (id:Nat) (c:ACode)
 | loop (c:ACode)
 | rangeF (f:AX) (ps:List Nat) (assign body:ACode)
 | exit (id:Nat)
 | ret

inductive AObj where
 | cells (cs:List AV)
 | loop (st:LoopState) (pend:Option Code) (fr:List AV) (ps:List Nat) (assign body:ACode)
 | maps (es:List (AV × AV))

structure Cx where
 U:Nat→Prop
 at_:Nat→Option AObj
 mu:Nat→Nat × Nat
 w:World
 hid:Nat→Prop

structure Cx.Froz (c:Cx) (b:Nat):Prop where
 lt:b < c.w.heap.size
 nm:∀ id o,c.at_ id=some o→(c.mu id).1 ≠ b
 nh:¬ c.hid b
def csize (w:World) (b:Nat):Nat:=match w.heap[b]? with|some (.cells a _ _)=>a.size|_=>0

def RCs (p:AV→Value→Prop) (xs:List AV) (look:Nat→Option Value):Prop:=∀ j x,xs[j]? = some x→∃ u,look j=some u∧p x u

def One (v:Value):Prop:=(∀ cs,v ≠ .agg cs)∧∀ vs,v ≠ .tuple vs
def AV.one:AV→Bool
 | .undef=>false
 | .agg _=>false
 | .tup _=>false
 | _=>true
abbrev RC1 (p:AV→Value→Prop) (xs:List AV) (look:Nat→Option Value):Prop:=RCs (fun x u=>p x u∧One u) xs look

def R (c:Cx):Nat→AV→Value→Prop
 | _,.undef,_=>True
 | _,.int k n,v=>v = .int k n
 | _,.bool b,v=>v = .bool b
 | _,.str s,v=>v = .string s
 | _,.nilp,v=>v = .pointer none
 | _,.nilf,v=>v = .nilFunc
 | _,.nils,v=>∃ A,v = .slice A 0 0
 | _,.ptr id off,v=>c.U id∧v = .pointer (some ⟨(c.mu id).1,(c.mu id).2+off,none⟩)
 | _,.sl id off len cp sz,v=>c.U id∧(c.mu id).1 < c.w.heap.size∧∃ cap,v = .slice (some ⟨(c.mu id).1,(c.mu id).2+off,none⟩) len cap∧len≤cp∧cp≤cap∧cap≤maxLen∧(c.mu id).2+off+cap * sz≤csize c.w (c.mu id).1
 | _,.yld l,v=>c.U l∧v = .func (.yield (c.mu l).1) #[] #[]
 | _,.mapr l,v=>c.U l∧v = .map (some (c.mu l).1)
 | d+1,.isl els,v=>∃ A cap,v = .slice A els.length cap∧els.length≤cap∧cap≤maxLen∧(els ≠ []→∃ b off sz,A=some ⟨b,off,none⟩∧c.Froz b ∧
   ∀ (k:Nat) el,els[k]? = some el→el.length=sz∧RC1 (R c d) el fun j=>c.w.cell? ⟨b,off+k * sz+j,none⟩)
 | d+1,.iptr cs,v=>∃ b off,v = .pointer (some ⟨b,off,none⟩)∧c.Froz b∧RC1 (R c d) cs fun j=>c.w.cell? ⟨b,off+j,none⟩
 | d+1,.agg cs,v=>∃ vs:Array Value,v = .agg vs∧vs.size=cs.length∧RC1 (R c d) cs fun j=>vs[j]?
 | d+1,.tup cs,v=>∃ vs:Array Value,v = .tuple vs∧vs.size=cs.length∧RCs (R c d) cs fun j=>vs[j]?
 | d+1,.fn f fs cs,v=>∃ vf vc:Array Value,v = .func (.func f) vf vc∧(vf.size=fs.length∧RCs (R c d) fs fun j=>vf[j]?)∧(vc.size=cs.length∧RCs (R c d) cs fun j=>vc[j]?)
 | 0,_,_=>False

theorem RCs.imp {p q:AV→Value→Prop} {xs:List AV} {look look':Nat→Option Value} (h:RCs p xs look) (hp:∀ x v,p x v→q x v) (hl:∀ j u,look j=some u→look' j=some u):RCs q xs look':=fun j x hx=>by
 obtain ⟨u,hu,hxu⟩:=h j x hx
 exact ⟨u,hl j u hu,hp _ _ hxu⟩
theorem R.mono {c:Cx}:∀ {d d':Nat},d≤d'→∀ {x:AV} {v:Value},R c d x v→R c d' x v
 | 0,d',_,x,v,h=>by cases x<;>first|(simp only [R] at h;done)|(cases d'<;>exact h)
 | d+1,0,hd,_,_,_=>absurd hd (by omega)
 | d+1,d'+1,hd,x,v,h=>by
  have ih:∀ x v,R c d x v→R c d' x v:=fun x v hx=>R.mono (by omega) hx
  have ih1:∀ x v,R c d x v∧One v→R c d' x v∧One v:=fun x v hx=>⟨ih x v hx.1,hx.2⟩
  cases x with
  | isl els =>
   obtain ⟨A,cap,h1,h2,h3,h4⟩:=h
   refine ⟨A,cap,h1,h2,h3,fun hne=>?_⟩
   obtain ⟨b,off,sz,h5,h6,h7⟩:=h4 hne
   exact ⟨b,off,sz,h5,h6,fun k el hk=>⟨(h7 k el hk).1,(h7 k el hk).2.imp ih1 fun _ _ h=>h⟩⟩
  | iptr cs=>obtain ⟨b,off,h1,h2,h3⟩:=h;exact ⟨b,off,h1,h2,h3.imp ih1 fun _ _ h=>h⟩
  | agg cs=>obtain ⟨vs,h1,h2,h3⟩:=h;exact ⟨vs,h1,h2,h3.imp ih1 fun _ _ h=>h⟩
  | tup cs=>obtain ⟨vs,h1,h2,h3⟩:=h;exact ⟨vs,h1,h2,h3.imp ih fun _ _ h=>h⟩
  | fn f fs cs=>obtain ⟨vf,vc,h1,⟨h2,h3⟩,h4,h5⟩:=h;exact ⟨vf,vc,h1,⟨h2,h3.imp ih fun _ _ h=>h⟩,h4,h5.imp ih fun _ _ h=>h⟩
  | _=>exact h

def RR (c:Cx) (x:AV) (v:Value):Prop:=∃ d,R c d x v
theorem RCs.bound {c:Cx}:∀ {xs:List AV} {look:Nat→Option Value},RCs (RR c) xs look→∃ d,RCs (R c d) xs look
 | [],_,_=>⟨0,fun j x hx=>by simp at hx⟩
 | y::ys,look,h=>by
  obtain ⟨u,hu,d1,hd1⟩:=h 0 y rfl
  obtain ⟨d2,h2⟩:=RCs.bound (xs:=ys) (look:=fun j=>look (j+1)) fun j x hx=>h (j+1) x (by simpa using hx)
  refine ⟨max d1 d2,fun j x hx=>?_⟩
  cases j with
  | zero=>simp at hx;subst hx;exact ⟨u,hu,R.mono (Nat.le_max_left ..) hd1⟩
  | succ j=>obtain ⟨u,hu,hxu⟩:=h2 j x (by simpa using hx);exact ⟨u,hu,R.mono (Nat.le_max_right ..) hxu⟩
theorem RCs.bound1 {c:Cx}:∀ {xs:List AV} {look:Nat→Option Value},RC1 (RR c) xs look→∃ d,RC1 (R c d) xs look
 | [],_,_=>⟨0,fun j x hx=>by simp at hx⟩
 | y::ys,look,h=>by
  obtain ⟨u,hu,⟨d1,hd1⟩,h1⟩:=h 0 y rfl
  obtain ⟨d2,h2⟩:=RCs.bound1 (xs:=ys) (look:=fun j=>look (j+1)) fun j x hx=>h (j+1) x (by simpa using hx)
  refine ⟨max d1 d2,fun j x hx=>?_⟩
  cases j with
  | zero=>simp at hx;subst hx;exact ⟨u,hu,R.mono (Nat.le_max_left ..) hd1,h1⟩
  | succ j=>obtain ⟨u,hu,hxu,ho⟩:=h2 j x (by simpa using hx);exact ⟨u,hu,R.mono (Nat.le_max_right ..) hxu,ho⟩
theorem RCs.up1 {c:Cx} {d d':Nat} {xs:List AV} {look:Nat→Option Value} (h:RC1 (R c d) xs look) (hd:d≤d'):RC1 (R c d') xs look:=h.imp (fun _ _ h=>⟨R.mono hd h.1,h.2⟩) fun _ _ h=>h
theorem RCs.rr1 {c:Cx} {d:Nat} {xs:List AV} {look:Nat→Option Value} (h:RC1 (R c d) xs look):RC1 (RR c) xs look:=h.imp (fun _ _ h=>⟨⟨d,h.1⟩,h.2⟩) fun _ _ h=>h
theorem RCs.up {c:Cx} {d d':Nat} {xs:List AV} {look:Nat→Option Value} (h:RCs (R c d) xs look) (hd:d≤d'):RCs (R c d') xs look:=h.imp (fun _ _=>R.mono hd) fun _ _ h=>h
theorem RCs.rr {c:Cx} {d:Nat} {xs:List AV} {look:Nat→Option Value} (h:RCs (R c d) xs look):RCs (RR c) xs look:=h.imp (fun _ _ h=>⟨d,h⟩) fun _ _ h=>h

section forms
variable {c:Cx} {v:Value}
@[simp] theorem RR_undef:RR c .undef v:=⟨0,by simp [R]⟩
@[simp] theorem RR_int {k:IntKind} {n:Int}:RR c (.int k n) v ↔ v = .int k n:=⟨fun ⟨d,h⟩=>by cases d<;>exact h,fun h=>⟨0,h⟩⟩
@[simp] theorem RR_bool {b:Bool}:RR c (.bool b) v ↔ v = .bool b:=⟨fun ⟨d,h⟩=>by cases d<;>exact h,fun h=>⟨0,h⟩⟩
@[simp] theorem RR_str {b:ByteArray}:RR c (.str b) v ↔ v = .string b:=⟨fun ⟨d,h⟩=>by cases d<;>exact h,fun h=>⟨0,h⟩⟩
@[simp] theorem RR_nilp:RR c .nilp v ↔ v = .pointer none:=⟨fun ⟨d,h⟩=>by cases d<;>exact h,fun h=>⟨0,h⟩⟩
@[simp] theorem RR_nilf:RR c .nilf v ↔ v = .nilFunc:=⟨fun ⟨d,h⟩=>by cases d<;>exact h,fun h=>⟨0,h⟩⟩
@[simp] theorem RR_nils:RR c .nils v ↔ ∃ A,v = .slice A 0 0:=⟨fun ⟨d,h⟩=>by cases d<;>exact h,fun h=>⟨0,h⟩⟩
theorem AC9 {id off:Nat}:RR c (.ptr id off) v ↔ c.U id∧v = .pointer (some ⟨(c.mu id).1,(c.mu id).2+off,none⟩):=⟨fun ⟨d,h⟩=>by cases d<;>exact h,fun h=>⟨0,h⟩⟩
theorem AK9 {id off len cp sz:Nat}:RR c (.sl id off len cp sz) v ↔ c.U id∧(c.mu id).1 < c.w.heap.size∧∃ cap,v = .slice (some ⟨(c.mu id).1,(c.mu id).2+off,none⟩) len cap∧len≤cp∧cp≤cap∧cap≤maxLen∧(c.mu id).2+off+cap * sz≤csize c.w (c.mu id).1:=⟨fun ⟨d,h⟩=>by cases d<;>exact h,fun h=>⟨0,h⟩⟩
theorem BH8 {l:Nat}:RR c (.yld l) v ↔ c.U l∧v = .func (.yield (c.mu l).1) #[] #[]:=⟨fun ⟨d,h⟩=>by cases d<;>exact h,fun h=>⟨0,h⟩⟩
theorem AK6 {l:Nat}:RR c (.mapr l) v ↔ c.U l∧v = .map (some (c.mu l).1):=⟨fun ⟨d,h⟩=>by cases d<;>exact h,fun h=>⟨0,h⟩⟩
theorem AB4 {cs:List AV}:RR c (.agg cs) v ↔ ∃ vs:Array Value,v = .agg vs∧vs.size=cs.length∧RC1 (RR c) cs fun j=>vs[j]? :=
  ⟨fun ⟨d, h⟩ => by cases d with | zero => simp only [R] at h | succ d => obtain ⟨vs, h1, h2, h3⟩ := h; exact ⟨vs, h1, h2, h3.rr1⟩,
   fun ⟨vs,h1,h2,h3⟩=>let ⟨d,h4⟩:=h3.bound1;⟨d+1,vs,h1,h2,h4⟩⟩
theorem AH3 {cs:List AV}:RR c (.tup cs) v ↔ ∃ vs:Array Value,v = .tuple vs∧vs.size=cs.length∧RCs (RR c) cs fun j=>vs[j]? :=
  ⟨fun ⟨d, h⟩ => by cases d with | zero => simp only [R] at h | succ d => obtain ⟨vs, h1, h2, h3⟩ := h; exact ⟨vs, h1, h2, h3.rr⟩,
   fun ⟨vs,h1,h2,h3⟩=>let ⟨d,h4⟩:=h3.bound;⟨d+1,vs,h1,h2,h4⟩⟩
theorem AS6 {f:Nat} {fs cs:List AV}:RR c (.fn f fs cs) v ↔ ∃ vf vc:Array Value,v = .func (.func f) vf vc∧(vf.size=fs.length∧RCs (RR c) fs fun j=>vf[j]?)∧(vc.size=cs.length∧RCs (RR c) cs fun j=>vc[j]?) :=
  ⟨fun ⟨d, h⟩ => by cases d with | zero => simp only [R] at h | succ d => obtain ⟨vf, vc, h1, ⟨h2, h3⟩, h4, h5⟩ := h; exact ⟨vf, vc, h1, ⟨h2, h3.rr⟩, h4, h5.rr⟩,
   fun ⟨vf,vc,h1,⟨h2,h3⟩,h4,h5⟩=>let ⟨d,h6⟩:=h3.bound;let ⟨e,h7⟩:=h5.bound;⟨max d e+1,vf,vc,h1,⟨h2,h6.up (Nat.le_max_left ..)⟩,h4,h7.up (Nat.le_max_right ..)⟩⟩
theorem AH0 {cs:List AV}:RR c (.iptr cs) v ↔ ∃ b off,v = .pointer (some ⟨b,off,none⟩)∧c.Froz b∧RC1 (RR c) cs fun j=>c.w.cell? ⟨b,off+j,none⟩ :=
  ⟨fun ⟨d, h⟩ => by cases d with | zero => simp only [R] at h | succ d => obtain ⟨b, off, h1, h2, h3⟩ := h; exact ⟨b, off, h1, h2, h3.rr1⟩,
   fun ⟨b,off,h1,h2,h3⟩=>let ⟨d,h4⟩:=h3.bound1;⟨d+1,b,off,h1,h2,h4⟩⟩
theorem BG9 {w:World}:∀ (els:List (List AV)) (b o sz:Nat),(∀ (k:Nat) el,els[k]? = some el→el.length=sz∧RC1 (RR c) el fun j=>w.cell? ⟨b,o+k * sz+j,none⟩) →
  ∃ d,∀ (k:Nat) el,els[k]? = some el→el.length=sz∧RC1 (R c d) el fun j=>w.cell? ⟨b,o+k * sz+j,none⟩
 | [],_,_,_,_=>⟨0,fun k el h=>by simp at h⟩
 | e::els,b,o,sz,h=>by
  obtain ⟨h0,h1⟩:=h 0 e rfl
  obtain ⟨d1,hd1⟩:=h1.bound1
  obtain ⟨d2,hd2⟩:=BG9 els b (o+sz) sz fun k el hk=>by
   have:=h (k+1) el (by simpa using hk)
   refine ⟨this.1,this.2.imp (fun _ _ h=>h) fun j u hj=>?_⟩
   rw [show o+sz+k * sz+j=o+(k+1) * sz+j by rw [Nat.succ_mul];omega];exact hj
  refine ⟨max d1 d2,fun k el hk=>?_⟩
  cases k with
  | zero=>simp at hk;subst hk;exact ⟨h0,hd1.up1 (Nat.le_max_left ..)⟩
  | succ k =>
   have:=hd2 k el (by simpa using hk)
   refine ⟨this.1,(this.2.up1 (Nat.le_max_right ..)).imp (fun _ _ h=>h) fun j u hj=>?_⟩
   rw [show o+(k+1) * sz+j=o+sz+k * sz+j by rw [Nat.succ_mul];omega];exact hj
theorem AD0 {els:List (List AV)}:RR c (.isl els) v ↔ ∃ A cap,v = .slice A els.length cap∧els.length≤cap∧cap≤maxLen∧(els ≠ []→∃ b off sz,A=some ⟨b,off,none⟩∧c.Froz b ∧
   ∀ (k:Nat) el,els[k]? = some el→el.length=sz∧RC1 (RR c) el fun j=>c.w.cell? ⟨b,off+k * sz+j,none⟩):=by
 constructor
 ·rintro ⟨d,h⟩
  cases d with
  | zero=>simp only [R] at h
  | succ d =>
   obtain ⟨A,cap,h1,h2,h3,h4⟩:=h
   refine ⟨A,cap,h1,h2,h3,fun hne=>?_⟩
   obtain ⟨b,off,sz,h5,h6,h7⟩:=h4 hne
   exact ⟨b,off,sz,h5,h6,fun k el hk=>⟨(h7 k el hk).1,(h7 k el hk).2.rr1⟩⟩
 ·rintro ⟨A,cap,h1,h2,h3,h4⟩
  by_cases hne:els=[]
  ·subst hne;exact ⟨1,A,cap,h1,h2,h3,fun h=>absurd rfl h⟩
  ·obtain ⟨b,off,sz,h5,h6,h7⟩:=h4 hne
   obtain ⟨d,h8⟩:=BG9 els b off sz h7
   exact ⟨d+1,A,cap,h1,h2,h3,fun _=>⟨b,off,sz,h5,h6,h8⟩⟩
theorem RR.one {x:AV} (h:RR c x v) (hx:x.one=true):One v:=by
 cases x<;>first
  | (simp [AV.one] at hx;done)
  | (simp only [RR_int,RR_bool,RR_str,RR_nilp,RR_nilf] at h;subst h;exact ⟨fun _ e=>(by cases e),fun _ e=>(by cases e)⟩)
  | (obtain ⟨A,rfl⟩:=RR_nils.1 h;exact ⟨fun _ e=>(by cases e),fun _ e=>(by cases e)⟩)
  | (obtain ⟨_,rfl⟩:=AC9.1 h;exact ⟨fun _ e=>(by cases e),fun _ e=>(by cases e)⟩)
  | (obtain ⟨_,rfl⟩:=BH8.1 h;exact ⟨fun _ e=>(by cases e),fun _ e=>(by cases e)⟩)
  | (obtain ⟨_,rfl⟩:=AK6.1 h;exact ⟨fun _ e=>(by cases e),fun _ e=>(by cases e)⟩)
  | (obtain ⟨_,_,_,rfl,_⟩:=AK9.1 h;exact ⟨fun _ e=>(by cases e),fun _ e=>(by cases e)⟩)
  | (obtain ⟨_,_,rfl,_⟩:=AD0.1 h;exact ⟨fun _ e=>(by cases e),fun _ e=>(by cases e)⟩)
  | (obtain ⟨_,_,rfl,_⟩:=AH0.1 h;exact ⟨fun _ e=>(by cases e),fun _ e=>(by cases e)⟩)
  | (obtain ⟨_,_,rfl,_⟩:=AS6.1 h;exact ⟨fun _ e=>(by cases e),fun _ e=>(by cases e)⟩)
end forms

structure Ext (c c':Cx):Prop where
 used:∀ id,c.U id→c'.U id
 mu:∀ id,c.U id→c'.mu id=c.mu id
 csz:∀ b,b < c.w.heap.size→csize c'.w b=csize c.w b
 froz:∀ b,c.Froz b→c'.Froz b∧c'.w.heap[b]? = c.w.heap[b]?
 size:c.w.heap.size≤c'.w.heap.size
 hid:∀ b,c'.hid b ↔ c.hid b
 hidh:∀ b,c.hid b→c'.w.heap[b]? = c.w.heap[b]?
 env:c'.w.os=c.w.os∧c'.w.tape=c.w.tape∧c'.w.output=c.w.output
theorem Ext.refl (c:Cx):Ext c c:=⟨fun _ h=>h,fun _ _=>rfl,fun _ _=>rfl,fun _ h=>⟨h,rfl⟩,Nat.le_refl _,fun _=>Iff.rfl,fun _ _=>rfl,rfl,rfl,rfl⟩
theorem Ext.trans {a b c:Cx} (h:Ext a b) (h':Ext b c):Ext a c :=
  ⟨fun id hu => h'.used id (h.used id hu), fun id hu => (h'.mu id (h.used id hu)).trans (h.mu id hu), fun k hk => (h'.csz k (Nat.lt_of_lt_of_le hk h.size)).trans (h.csz k hk),
   fun blk hb=>⟨(h'.froz blk (h.froz blk hb).1).1,(h'.froz blk (h.froz blk hb).1).2.trans (h.froz blk hb).2⟩,Nat.le_trans h.size h'.size,fun b=>(h'.hid b).trans (h.hid b),fun b hb=>(h'.hidh b ((h.hid b).2 hb)).trans (h.hidh b hb),h'.env.1.trans h.env.1,h'.env.2.1.trans h.env.2.1,h'.env.2.2.trans h.env.2.2⟩
structure ExtW (c c':Cx):Prop where
 used:∀ id,c.U id→c'.U id
 mu:∀ id,c.U id→c'.mu id=c.mu id
 csz:∀ b,b < c.w.heap.size→csize c'.w b=csize c.w b
 froz:∀ b,c.Froz b→c'.Froz b∧∀ o v,c.w.cell? ⟨b,o,none⟩=some v→c'.w.cell? ⟨b,o,none⟩=some v
 size:c.w.heap.size≤c'.w.heap.size
theorem Ext.toW {c c':Cx} (e:Ext c c'):ExtW c c':=⟨e.used,e.mu,e.csz,fun b hb=>⟨(e.froz b hb).1,fun o v h=>by
 have:=(e.froz b hb).2
 simp only [World.cell?] at h ⊢
 rw [this];exact h⟩,e.size⟩
theorem R.extW {c c':Cx} (e:ExtW c c'):∀ {d:Nat} {x:AV} {v:Value},R c d x v→R c' d x v:=by
  intro d
  induction d with
  | zero =>
    intro x v h
    cases x<;>first
      | exact h
      | (simp only [R] at h;done)
      | (obtain ⟨h1, h2⟩ := h
         refine ⟨e.used _ h1,?_⟩
         rw [e.mu _ h1]
         first|exact h2|(obtain ⟨h3,cap,h4,h5,h6,h7,h8⟩:=h2;exact ⟨Nat.lt_of_lt_of_le h3 e.size,cap,h4,h5,h6,h7,by rw [e.csz _ h3];exact h8⟩))
  | succ d ih =>
    intro x v h
    have ihc:∀ xs (b o:Nat),c.Froz b→RC1 (R c d) xs (fun j=>c.w.cell? ⟨b,o+j,none⟩)→RC1 (R c' d) xs (fun j=>c'.w.cell? ⟨b,o+j,none⟩):=fun xs b o hb hx =>
      hx.imp (fun _ _ h=>⟨ih h.1,h.2⟩) fun j u hj=>(e.froz b hb).2 _ u hj
    cases x with
    | isl els =>
      obtain ⟨A,cap,h1,h2,h3,h4⟩:=h
      refine ⟨A,cap,h1,h2,h3,fun hne=>?_⟩
      obtain ⟨b,off,sz,h5,h6,h7⟩:=h4 hne
      exact ⟨b,off,sz,h5,(e.froz b h6).1,fun k el hk=>⟨(h7 k el hk).1,ihc _ _ _ h6 (h7 k el hk).2⟩⟩
    | iptr cs=>obtain ⟨b,off,h1,h2,h3⟩:=h;exact ⟨b,off,h1,(e.froz b h2).1,ihc _ _ _ h2 h3⟩
    | agg cs=>obtain ⟨vs,h1,h2,h3⟩:=h;exact ⟨vs,h1,h2,h3.imp (fun _ _ h=>⟨ih h.1,h.2⟩) fun _ _ h=>h⟩
    | tup cs=>obtain ⟨vs,h1,h2,h3⟩:=h;exact ⟨vs,h1,h2,h3.imp (fun _ _=>ih) fun _ _ h=>h⟩
    | fn f fs cs=>obtain ⟨vf,vc,h1,⟨h2,h3⟩,h4,h5⟩:=h;exact ⟨vf,vc,h1,⟨h2,h3.imp (fun _ _=>ih) fun _ _ h=>h⟩,h4,h5.imp (fun _ _=>ih) fun _ _ h=>h⟩
    | undef|int|bool|str|nilp|nilf|nils=>exact h
    | ptr|yld|mapr =>
      obtain ⟨h1,h2⟩:=h
      refine ⟨e.used _ h1,?_⟩
      rw [e.mu _ h1];exact h2
    | sl =>
      obtain ⟨h1,h3,cap,h4,h5,h6,h7,h8⟩:=h
      refine ⟨e.used _ h1,?_⟩
      rw [e.mu _ h1]
      exact ⟨Nat.lt_of_lt_of_le h3 e.size,cap,h4,h5,h6,h7,by rw [e.csz _ h3];exact h8⟩
theorem R.ext {c c':Cx} (e:Ext c c') {d:Nat} {x:AV} {v:Value} (h:R c d x v):R c' d x v:=h.extW e.toW
theorem RR.ext {c c':Cx} (e:Ext c c') {x:AV} {v:Value} (h:RR c x v):RR c' x v:=let ⟨d,hd⟩:=h;⟨d,hd.ext e⟩

theorem RC1.ext {c c':Cx} (e:Ext c c') {xs:List AV} {look:Nat→Option Value} (h:RC1 (RR c) xs look):RC1 (RR c') xs look:=h.imp (fun _ _ h=>⟨h.1.ext e,h.2⟩) fun _ _ h=>h
theorem RR.extW {c c':Cx} (e:ExtW c c') {x:AV} {v:Value} (h:RR c x v):RR c' x v:=let ⟨d,hd⟩:=h;⟨d,hd.extW e⟩
def FR (c:Cx) (fr:List AV) (tmps:Array Value):Prop:=tmps.size=fr.length∧RCs (RR c) fr fun j=>tmps[j]?
theorem FR.ext {c c':Cx} (e:Ext c c') {fr:List AV} {tmps:Array Value} (h:FR c fr tmps):FR c' fr tmps:=⟨h.1,h.2.imp (fun _ _=>RR.ext e) fun _ _ h=>h⟩
theorem FR.set {c:Cx} {fr:List AV} {tmps:Array Value} (h:FR c fr tmps) (t:Nat) {x:AV} {v:Value} (hx:RR c x v):FR c (fr.set t x) (tmps.setIfInBounds t v):=by
 refine ⟨by simpa using h.1,fun j y hy=>?_⟩
 rw [List.getElem?_set] at hy
 split at hy
 ·rename_i e
  subst e
  split at hy
  ·rename_i hlt
   cases hy
   refine ⟨v,?_,hx⟩
   simp [Array.getElem?_setIfInBounds,h.1,hlt]
  ·cases hy
 ·rename_i hne
  obtain ⟨u,hu,hyu⟩:=h.2 j y hy
  exact ⟨u,by show (tmps.setIfInBounds t v)[j]? = some u;rw [Array.getElem?_setIfInBounds_ne hne];exact hu,hyu⟩

end Go.Am
namespace Go.Am

def ofL:Value→Option AV
 | .int k n=>some (.int k n)
 | .bool b=>some (.bool b)
 | .string s=>some (.str s)
 | .pointer none=>some .nilp
 | .nilFunc=>some .nilf
 | .slice none 0 0=>some .nils
 | .map none=>some .undef
 | .func (.func f) fs cs=>if fs.size=0∧cs.size=0 then some (.fn f [] []) else none
 | _=>none
def ofV:Nat→Value→Option AV
 | 0,v=>ofL v
 | _+1,v=>match v with
  | .agg vs=>(vs.toList.mapM ofL).map .agg
  | v=>ofL v
def cox:Operand→Option AX
 | .tmp t=>some (.t t)
 | .const v=>(ofV 9 v).map .k
 | .global g=>some (.g g)
 | .func f=>some (.k (.fn f [] []))
def zeroOf (P:Program) (t:TypeId):Option (List AV):=((P.info? t).bind (·.zero)).bind fun z=>z.cells.toList.mapM ofL
def AJ3 (P:Program) (t:TypeId):Option Nat:=(P.info? t).map (·.size)
def bytesOf (P:Program) (t:TypeId):Option Nat:=(P.info? t).map (·.bytes)
def Aq0 (P:Program) (t:TypeId):Option Bool:=(P.underlying t).map fun
 | .struct _=>true
 | .array _ _=>true
 | _=>false
def AV0 (place:Nat→Option (Nat × Nat)):List (Nat × Operand)→Option (List (Nat × Nat × AX))
 | []=>some []
 | (i,x)::r=>match place i,cox x,AV0 place r with
  | some (o,s),some a,some l=>some ((o,s,a)::l)
  | _,_,_=>none
def coxO:Option Operand→Option (Option AX)
 | none=>some none
 | some x=>(cox x).map some
def AX1 (g:TypeId→Option (List Nat)):List Field→Nat→Option (List Nat)
 | [],_=>some []
 | f::r,i=>if f.name ≠ "_" ∧ f.offset=i then (match g f.type with
  | some l=>(AX1 g r (i+l.length)).map (l ++ ·)
  | none=>none)
  else none
def V7 (P:Program):Nat→TypeId→Option (List Nat)
 | 0,_=>none
 | d+1,t=>match P.underlying t with
  | some (.int _)=>some [0]
  | some .bool=>some [1]
  | some .string=>some [2]
  | some (.struct fs)=>if P.stoodInHeld t=false then (match AX1 (V7 P d) fs.toList 0 with
   | some l=>if AJ3 P t=some l.length then some l else none
   | none=>none)
   else none
  | some (.array n e)=>(match V7 P d e with
   | some l=>if AJ3 P e=some l.length∧AJ3 P t=some (n * l.length) then some (List.replicate n l).flatten else none
   | none=>none)
  | _=>none
def BM6 (P:Program) (t:TypeId):Option (Bool × List Nat):=match P.underlying t with
 | some (.int _)=>some (false,[0])
 | some (.struct fs)=>if fs.toList.all (fun f=>match P.underlying f.type with|some (.int _)=>true|_=>false) then (V7 P 9 t).map fun ks=>(true,ks) else none
 | _=>none
def zeroV (P:Program) (t:TypeId):Option AV:=((P.info? t).bind (·.zero)).bind (ofV 9)
def cop (P:Program):Op→Option AOp
 | .move x=>(cox x).map .mv
 | .assign x=>(cox x).map .mv
 | .pick c a b=>match cox c,cox a,cox b with|some c,some a,some b=>some (.pick c a b)|_,_,_=>none
 | .alloc e=>(zeroOf P e).map .new
 | .box _ x=>(cox x).map .box
 | .build t ps=>match P.underlying t,zeroOf P t with
  | some (.struct fs),some z=>match fs.toList.mapM (fun f=>(P.info? f.type).map fun i=>(f.offset,i.size)) with
   | some pl=>(AV0 (pl.toArray[·]?) ps.toList).map (.build z)
   | none=>none
  | some (.array _ e),some z=>(AJ3 P e).bind fun s=>(AV0 (fun i=>some (i * s,s)) ps.toList).map (.build z)
  | _,_=>none
 | .buildSlice t n ps=>match P.underlying t with
  | some (.slice e)=>match AJ3 P e,zeroOf P e with
   | some s,some z=>if n * s≤2 ^ 24∧z.length=s∧n≤maxLen then (AV0 (fun i=>some (i * s,s)) ps.toList).map (.bslice s n (List.replicate n z).flatten) else none
   | _,_=>none
  | _=>none
 | .load t x=>match Aq0 P t,AJ3 P t,cox x with|some b,some n,some x=>some (.load b n x)|_,_,_=>none
 | .store t a v=>match AJ3 P t,cox a,cox v with|some n,some a,some v=>some (.store n a v)|_,_,_=>none
 | .nilCheck x=>(cox x).map .nchk
 | .binOp op t x y _=>match cox x,cox y with
  | some x,some y =>
   if op = .eql∨op = .neq then
    match P.underlying t with
    | some (.int _)=>some (.bin op x y)
    | some .string=>some (.bin op x y)
    | some .bool=>some (.eqb (op == .neq) x y)
    | some (.pointer _)=>some (.eqp (op == .neq) false x y)
    | some (.func _ _ _)=>some (.eqp (op == .neq) true x y)
    | some (.slice _)=>(match y with
     | .k .nils=>some (.eqn (op == .neq) x)
     | _=>none)
    | some (.struct _)=>if !P.eqGuardType P.depth t then (V7 P 9 t).map fun ks=>.eqs (op == .neq) ks x y else none
    | some (.array _ _)=>if !P.eqGuardType P.depth t then (V7 P 9 t).map fun ks=>.eqs (op == .neq) ks x y else none
    | _=>none
   else some (.bin op x y)
  | _,_=>none
 | .unOp op _ x=>(cox x).map (.un op)
 | .convert s d x=>match P.underlying s,P.underlying d with
  | some _,some (.int k)=>(cox x).map (.conv k)
  | _,_=>none
 | .fieldAddr s x i=>match P.underlying s,cox x with
  | some (.struct fs),some x=>(fs[i]?).bind fun f=>(AJ3 P f.type).bind fun n=>if n=0 then none else some (.faddr f.offset x)
  | _,_=>none
 | .field s x i=>match P.underlying s,cox x with
  | some (.struct fs),some x=>(fs[i]?).bind fun f=>(AJ3 P f.type).bind fun n=>(Aq0 P f.type).map fun b=>.fld b f.offset n x
  | _,_=>none
 | .indexAddr t x i=>match P.underlying t,cox x,cox i with
  | some (.array n e),some x,some i=>(AJ3 P e).map fun s=>.iaddrA n s x i
  | some (.slice e),some x,some i=>(AJ3 P e).map fun s=>.iaddrS s x i
  | _,_,_=>none
 | .index t x i=>match P.underlying t,cox x,cox i with
  | some (.array n e),some x,some i=>(AJ3 P e).bind fun s=>(Aq0 P e).map fun b=>.idx b n s x i
  | _,_,_=>none
 | .slice t x lo hi mx=>match cox x,coxO lo,coxO hi,coxO mx with
  | some x,some lo,some hi,some mx=>match P.underlying t,mx with
   | some (.slice e),mx=>if mx.isSome && hi.isNone then none else (AJ3 P e).map fun s=>.slS s x lo hi mx
   | some (.array n e),none=>(AJ3 P e).map fun s=>.slA n s x lo hi
   | _,_=>none
  | _,_,_,_=>none
 | .makeFunc (.func f) fs cs=>match fs.toList.mapM cox,cs.toList.mapM cox with|some fs,some cs=>some (.mkfn f fs cs)|_,_=>none
 | .makeSlice t l c=>match P.underlying t,cox l,cox c with
  | some (.slice e),some l,some c=>match AJ3 P e,bytesOf P e,zeroOf P e with
   | some s,some b,some z=>if z.length=s then some (.mks s b z l c) else none
   | _,_,_=>none
  | _,_,_=>none
 | .extract x i=>(cox x).map fun x=>.ext x i
 | .makeMap _ r=>if r.isNone then some .mkmap else none
 | .lookup t x i ok=>match P.underlying t with
  | some (.map k e)=>match BM6 P k,zeroV P e,cox x,cox i with
   | some (ag,ks),some z,some x,some i=>some (.mlook ok ag ks z x i)
   | _,_,_,_=>none
  | _=>none
 | .mapUpdate t m i x=>match P.underlying t with
  | some (.map k _)=>match BM6 P k,cox m,cox i,cox x with
   | some (ag,ks),some m,some i,some x=>some (.mset ag ks m i x)
   | _,_,_,_=>none
  | _=>none
 | .call c=>match c.callee with
  | .value f=>match cox f,c.args.toList.mapM cox with|some f,some l=>some (.call f l)|_,_=>none
  | .builtin b=>match b,c.args.toList.mapM cox,c.argTypes.toList with
   | .append,some [s,x],[t,u]=>match P.underlying t,P.underlying u with
    | some (.slice e),some (.slice _)=>match AJ3 P e,bytesOf P e with|some n,some b=>if 0 < n∧t=u∧(zeroOf P e).map List.length=some n then some (.append n b s x) else none|_,_=>none
    | _,_=>none
   | .len,some [x],[t]=>match P.underlying t with|some (.slice _)=>some (.len x)|some (.map _ _)=>some (.mlen x)|_=>none
   | .delete,some [m,x],[t,_]=>match P.underlying t with
    | some (.map k _)=>(BM6 P k).map fun q=>.mdel q.1 q.2 m x
    | _=>none
   | .clear,some [x],[t]=>match P.underlying t with
    | some (.slice e)=>match AJ3 P e,zeroOf P e with|some n,some z=>if z.length=n∧0 < n then some (.clear z x) else none|_,_=>none
    | _=>none
   | .min,some (x::l),_=>some (.minmax false x l)
   | .max,some (x::l),_=>some (.minmax true x l)
   | _,_,_=>none
  | _=>none
 | _=>none
def Aq7 (P:Program) (ops:Array Oper) (o:Oper):Option L6 :=
 match cop P o.op with
 | none=>none
 | some a=>match o.guard with
  | none=>some { dst:=o.dst,op:=a }
  | some (j,b)=>((ops[j]?).bind (·.dst)).map fun t=>{ dst:=o.dst,op:=a,guard:=some (t,b) }
def BO7 (P:Program) (ops:Array Oper):Option (List L6):=ops.toList.mapM (Aq7 P ops)
def AJ6 (o:Oper):List Nat:=(o.after.toList.filter (Region.binds .any)).map (·.on)
def u6 (P:Program):Code→Option ACode
 | .skip=>some .skip
 | .region _ ops false=>(BO7 P ops).map .reg
 | .region _ ops true=>(BO7 P ops).map fun l=>.regD l (ops.toList.map AJ6)
 | .seq a b=>match u6 P a,u6 P b with|some a,some b=>some (.seq a b)|_,_=>none
 | .cond c a b=>match cox c,u6 P a,u6 P b with|some c,some a,some b=>some (.cond c a b)|_,_,_=>none
 | .block i c=>(u6 P c).map (.block i)
 | .loop c=>(u6 P c).map .loop
 | .rangeFunc f ps a b=>match cox f,u6 P a,u6 P b with|some f,some a,some b=>some (.rangeF f ps.toList a b)|_,_,_=>none
 | .exit i=>some (.exit i)
 | .ret=>some .ret
 | _=>none

def Stamps (a:Array MapEntry) (k:Nat):Prop:=(∀ x ∈ a.toList,x.born < k)∧(a.toList.map (·.born)).Nodup
def Aq8 (P:Program) (c:Cx) (p:Nat × Nat):AObj→Prop
 | .cells cs=>∃ a T,c.w.heap[p.1]? = some (.cells a T (0,0))∧RC1 (RR c) cs fun j=>a[p.2+j]?
 | .loop st pend fr ps assign body=>∃ fn tmps qs dn ca cb,c.w.heap[p.1]? = some (.loop { state:=st,pending:=pend,fn,tmps,params:=qs,assign:=ca,body:=cb,defers:=dn })∧FR c fr tmps∧qs.toList=ps∧u6 P ca=some assign∧u6 P cb=some body
 | .maps es=>∃ (a:Array MapEntry) (clock:Nat),c.w.heap[p.1]? = some (.map a clock)∧(a.size=es.length∧Stamps a clock)∧∀ (j:Nat) (kv:AV × AV),es[j]? = some kv→∃ m:MapEntry,a[j]? = some m∧RR c kv.1 m.key∧RR c kv.2 m.val
structure Rel (P:Program) (c:Cx):Prop where
 used:∀ id o,c.at_ id=some o→c.U id
 inj:∀ id id' o o',c.at_ id=some o→c.at_ id'=some o'→(c.mu id).1=(c.mu id').1→id=id'
 obj:∀ id o,c.at_ id=some o→Aq8 P c (c.mu id) o
 many:∃ N,∀ id,c.U id→id < N
 nohid:∀ id o,c.at_ id=some o→¬ c.hid (c.mu id).1
 hidlt:∀ b,c.hid b→b < c.w.heap.size
theorem Aq8.lt {P:Program} {c:Cx} {p:Nat × Nat} {o:AObj} (h:Aq8 P c p o):p.1 < c.w.heap.size:=by
 rcases Nat.lt_or_ge p.1 c.w.heap.size with hlt|hge
 ·exact hlt
 ·have hn:=Array.getElem?_eq_none hge
  cases o with
  | cells cs=>obtain ⟨a,T,h1,_⟩:=h;rw [hn] at h1;cases h1
  | loop=>obtain ⟨_,_,_,_,_,_,h1,_⟩:=h;rw [hn] at h1;cases h1
  | maps es=>obtain ⟨a,T,h1,_⟩:=h;rw [hn] at h1;cases h1
theorem Aq8.ext {P:Program} {c c':Cx} {p:Nat × Nat} {o:AObj} (e:Ext c c') (hb:c'.w.heap[p.1]? = c.w.heap[p.1]?) (h:Aq8 P c p o):Aq8 P c' p o:=by
 cases o with
 | cells cs=>obtain ⟨a,T,h1,h2⟩:=h;exact ⟨a,T,hb.trans h1,RC1.ext e h2⟩
 | loop=>obtain ⟨fn,tmps,qs,dn,ca,cb,h1,h2,h3⟩:=h;exact ⟨fn,tmps,qs,dn,ca,cb,hb.trans h1,h2.ext e,h3⟩
 | maps es=>obtain ⟨a,k,h1,h2,h3⟩:=h;exact ⟨a,k,hb.trans h1,h2,fun j kv hj=>let ⟨m,h4,h5,h6⟩:=h3 j kv hj;⟨m,h4,h5.ext e,h6.ext e⟩⟩

abbrev Gl:=Nat→Option (List AV)
def AV2 (G:Gl) (c:Cx):Prop:=∀ n cs,G n=some cs→RR c (.iptr cs) (.pointer (some ⟨n,0,none⟩))
theorem AV2.ext {G:Gl} {c c':Cx} (e:Ext c c') (h:AV2 G c):AV2 G c':=fun n cs hn=>(h n cs hn).ext e

def ax (G:Gl) (fr:List AV):AX→Option AV
 | .t n=>fr[n]?
 | .k v=>some v
 | .g n=>(G n).map .iptr
theorem mapM_some {α β:Type} {f:α→Option β}:∀ {l:List α} {r:List β},l.mapM f=some r→r.length=l.length∧∀ (j:Nat) y,r[j]? = some y→∃ x,l[j]? = some x∧f x=some y
 | [],r,h=>by simp at h;subst h;exact ⟨rfl,fun j y hy=>by simp at hy⟩
 | x::l,r,h=>by
  simp only [List.mapM_cons,Option.bind_eq_bind,Option.bind_eq_some_iff] at h
  obtain ⟨y,hy,ys,hys,h2⟩:=h
  cases h2
  obtain ⟨h3,h4⟩:=mapM_some hys
  refine ⟨by simp [h3],fun j z hz=>?_⟩
  cases j with
  | zero=>simp at hz;subst hz;exact ⟨x,rfl,hy⟩
  | succ j=>obtain ⟨u,hu,hfu⟩:=h4 j z (by simpa using hz);exact ⟨u,by simpa using hu,hfu⟩
theorem BE1 {c:Cx} {v:Value} {x:AV} (h:ofL v=some x):RR c x v:=by
  unfold ofL at h
  split at h<;>first
    | (simp only [Option.some.injEq] at h;subst h;simp;done)
    | (split at h
       · rename_i hs
         simp only [Option.some.injEq] at h
         subst h
         exact AS6.2 ⟨_,_,rfl,⟨hs.1,fun j x hx=>by simp at hx⟩,hs.2,fun j x hx=>by simp at hx⟩
       · cases h)
    | (exact absurd h (by simp))
theorem BL4 {v:Value} {x:AV} (h:ofL v=some x):One v:=by
 unfold ofL at h
 split at h<;>first
  | (cases h;done)
  | exact ⟨fun _ e=>(by cases e),fun _ e=>(by cases e)⟩
theorem ofV_rr {c:Cx}:∀ {d:Nat} {v:Value} {x:AV},ofV d v=some x→RR c x v:=by
 intro d
 cases d with
 | zero=>intro v x h;exact BE1 h
 | succ d =>
  intro v x h
  cases v with
  | agg vs =>
   simp only [ofV,Option.map_eq_some_iff] at h
   obtain ⟨r,hr,rfl⟩:=h
   obtain ⟨h1,h2⟩:=mapM_some hr
   refine AB4.2 ⟨_,rfl,by simpa using h1.symm,fun j y hy=>?_⟩
   obtain ⟨u,hu,hfu⟩:=h2 j y hy
   exact ⟨u,by simpa using hu,BE1 hfu,BL4 hfu⟩
  | _=>exact BE1 h
theorem J9 {G:Gl} {c:Cx} {fr:List AV} {a:Act} {o:Operand} {x:AX} {v:AV} (hF:FR c fr a.tmps) (hG:AV2 G c) (h:cox o=some x) (hv:ax G fr x=some v):RR c v (a.eval o):=by
 cases o with
 | tmp t =>
  cases h
  obtain ⟨u,hu,hr⟩:=hF.2 t v hv
  have hu':a.tmps[t]? = some u:=hu
  simp only [Act.eval,Array.getD_eq_getD_getElem?,hu',Option.getD_some]
  exact hr
 | const w =>
  simp only [cox,Option.map_eq_some_iff] at h
  obtain ⟨y,hy,rfl⟩:=h
  cases hv
  exact ofV_rr hy
 | global g =>
  cases h
  simp only [ax,Option.map_eq_some_iff] at hv
  obtain ⟨cs,hcs,rfl⟩:=hv
  exact hG g cs hcs
 | func f =>
  cases h
  cases hv
  exact AS6.2 ⟨_,_,rfl,⟨rfl,fun j x hx=>by simp at hx⟩,rfl,fun j x hx=>by simp at hx⟩
end Go.Am
namespace Go.Am

abbrev At:=Nat→Option AObj
abbrev Up:=List (Nat × Option AObj)
def upd (at_:At):Up→At
 | []=>at_
 | (i,o)::r=>fun j=>if j=i then o else upd at_ r j
def over (cs:List AV):Nat→List AV→List AV
 | _,[]=>cs
 | o,v::vs=>over (cs.set o v) (o+1) vs
def Y2 (at_:At) (i:Nat):Option (List AV):=match at_ i with
 | some (.cells cs)=>some cs
 | _=>none
def AV.flat:AV→Bool
 | .agg _=>true
 | v=>v.one
def Ax2 (z:List AV):List (Nat × Nat × AV)→Option (List AV)
 | []=>some z
 | (o,s,v)::r=>if v.flat∧v.cells.length=s∧o+s≤z.length then Ax2 (over z o v.cells) r else none
def AU6 (ev:AX→Option AV):List (Nat × Nat × AX)→Option (List (Nat × Nat × AV))
 | []=>some []
 | (o,s,x)::r=>match ev x,AU6 ev r with
  | some v,some l=>some ((o,s,v)::l)
  | _,_=>none
def AV9 (ev:AX→Option AV):List AX→Option (List AV)
 | []=>some []
 | x::r=>match ev x,AV9 ev r with
  | some v,some l=>some (v::l)
  | _,_=>none
def pickV:AV→AV→AV→Option AV
 | .bool t,.bool p,.bool q=>some (.bool (if t then p else q))
 | .bool t,.int k p,.int k' q=>if k=k' then some (.int k (if t then p else q)) else none
 | .bool t,x,y=>some (if t then x else y)
 | _,_,_=>none
def AU3 (ag:Bool) (off n:Nat) (cs:List AV):Option AV :=
 if ag then (if off+n≤cs.length then some (.agg ((cs.drop off).take n)) else none) else cs[off]?
def Ae0 (at_:At) (ag:Bool) (n:Nat):AV→Option (AV × List Nat)
 | .ptr i o=>match Y2 at_ i with
  | some cs=>(AU3 ag o n cs).map fun v=>(v,[i])
  | none=>none
 | .iptr cs=>(AU3 ag 0 n cs).map fun v=>(v,[])
 | _=>none
def Af8 (at_:At) (n:Nat) (v:AV):AV→Option (Up × List Nat)
 | .ptr i o=>match Y2 at_ i with
  | some cs=>if v.flat∧v.cells.length=n∧0 < n∧o+n≤cs.length then some ([(i,some (.cells (over cs o v.cells)))],[i]) else none
  | none=>none
 | _=>none
def nchkV:AV→Option AV
 | .ptr i o=>some (.ptr i o)
 | .iptr cs=>some (.iptr cs)
 | _=>none
def BH1 (op:BinOp):AV→AV→Option AV
 | .int k a,.int k' b =>
  match op with
  | .shl=>if b < 0 then none else some (.int k (k.wrap (a * 2 ^ (min b.toNat k.bits))))
  | .shr=>if b < 0 then none else some (.int k (a.fdiv (2 ^ (min b.toNat k.bits))))
  | .add=>if k=k' then some (.int k (k.wrap (a+b))) else none
  | .sub=>if k=k' then some (.int k (k.wrap (a - b))) else none
  | .mul=>if k=k' then some (.int k (k.wrap (a * b))) else none
  | .quo=>if k=k'∧b ≠ 0 then some (.int k (k.wrap (a.tdiv b))) else none
  | .rem=>if k=k'∧b ≠ 0 then some (.int k (a.tmod b)) else none
  | .and=>if k=k' then some (.int k (bits .and k a b)) else none
  | .or=>if k=k' then some (.int k (bits .or k a b)) else none
  | .xor=>if k=k' then some (.int k (bits .xor k a b)) else none
  | .andNot=>if k=k' then some (.int k (bits .andNot k a b)) else none
  | .eql=>if k=k' then some (.bool (a == b)) else none
  | .neq=>if k=k' then some (.bool (a != b)) else none
  | .lss=>if k=k' then some (.bool (decide (a < b))) else none
  | .leq=>if k=k' then some (.bool (decide (a≤b))) else none
  | .gtr=>if k=k' then some (.bool (decide (a > b))) else none
  | .geq=>if k=k' then some (.bool (decide (a ≥ b))) else none
 | _,_=>none
def eqbV (ng:Bool):AV→AV→Option AV
 | .bool a,.bool b=>some (.bool (if ng then !(a == b) else (a == b)))
 | _,_=>none
def nilK (fn:Bool):AV→Option Bool
 | .nilp=>if fn then none else some true
 | .ptr _ _=>if fn then none else some false
 | .iptr _=>if fn then none else some false
 | .nilf=>if fn then some true else none
 | .fn _ _ _=>if fn then some false else none
 | _=>none
def eqpV (ng fn:Bool) (x y:AV):Option AV:=match nilK fn x,nilK fn y with
 | some true,some b=>some (.bool (if ng then !b else b))
 | some b,some true=>some (.bool (if ng then !b else b))
 | _,_=>none
def eq1:Nat→AV→AV→Option Bool
 | 0,.int k a,.int k' b=>if k=k' then some (a == b) else none
 | 1,.bool a,.bool b=>some (a == b)
 | 2,.str a,.str b=>some (a.toList == b.toList)
 | _,_,_=>none
def eqL:List Nat→List AV→List AV→Option Bool
 | [],[],[]=>some true
 | k::ks,x::r,y::s=>(eq1 k x y).bind fun p=>(eqL ks r s).map fun t=>p && t
 | _,_,_=>none
def eqsV (ng:Bool) (ks:List Nat):AV→AV→Option AV
 | .agg r,.agg s=>(eqL ks r s).map fun b=>.bool (if ng then !b else b)
 | _,_=>none
def unV (op:UnOp):AV→Option AV
 | .int k n=>match op with
  | .neg=>some (.int k (k.wrap (0 - n)))
  | .xor=>some (.int k (bits .xor k (if k.signed then -1 else k.max) n))
  | _=>none
 | .bool b=>match op with | .not=>some (.bool !b)|_=>none
 | _=>none
def convV (k:IntKind):AV→Option AV
 | .int _ n=>some (.int k (k.wrap n))
 | _=>none
def BV4 (off:Nat):AV→Option AV
 | .ptr i o=>some (.ptr i (o+off))
 | .iptr cs=>some (.iptr (cs.drop off))
 | _=>none
def fldV (ag:Bool) (off n:Nat):AV→Option AV
 | .agg cs=>AU3 ag off n cs
 | _=>none
def An1 (len sz:Nat):AV→AV→Option AV
 | .ptr i o,.int _ n=>if 0≤n∧n < (len:Int) then some (.ptr i (o+n.toNat * sz)) else none
 | .iptr cs,.int _ n=>if 0≤n∧n < (len:Int) then some (.iptr (cs.drop (n.toNat * sz))) else none
 | _,_=>none
def Ae5 (sz:Nat):AV→AV→Option AV
 | .sl id off len _ sz',.int _ n=>if sz=sz'∧0≤n∧n < (len:Int) then some (.ptr id (off+n.toNat * sz)) else none
 | .isl els,.int _ n=>if 0≤n then (els[n.toNat]?).bind fun el=>if el.length=sz then some (.iptr el) else none else none
 | _,_=>none
def idxV (ag:Bool) (len sz:Nat):AV→AV→Option AV
 | .agg cs,.int _ n=>if 0≤n∧n < (len:Int) then AU3 ag (n.toNat * sz) sz cs else none
 | _,_=>none
def bndV:Option AV→Option (Option Nat)
 | none=>some none
 | some (.int _ n)=>if 0≤n then some (some n.toNat) else none
 | _=>none
def slSV (sz:Nat):AV→Option Nat→Option Nat→Option Nat→Option AV
 | .sl id off len cp sz',lo,hi,mx =>
  let m:=mx.getD cp
  let h:=hi.getD len
  let l:=lo.getD 0
  if sz=sz'∧l≤h∧h≤m∧m≤cp then
   if l < m then some (.sl id (off+l * sz) (h - l) (m - l) sz) else if mx.isSome then some .nils else some (.isl [])
  else none
 | .isl els,lo,hi,mx =>
  let m:=mx.getD els.length
  let h:=hi.getD els.length
  let l:=lo.getD 0
  if l≤h∧h≤m∧m≤els.length∧(l=0∨els.all (fun e=>e.length == sz)=true) then
   if mx.isSome∧l=m then some .nils else some (.isl ((els.take h).drop l))
  else none
 | .nils,lo,hi,mx=>if lo.getD 0=0∧hi.getD 0=0∧mx.getD 0=0 then some .nils else none
 | _,_,_,_=>none
def slAV (at_:At) (n sz:Nat):AV→Option Nat→Option Nat→Option (AV × List Nat)
 | .ptr id off,lo,hi=>match Y2 at_ id with
  | some cs =>
   let h:=hi.getD n
   let l:=lo.getD 0
   if l≤h∧h≤n∧n≤maxLen∧off+n * sz≤cs.length∧0 < n * sz then
    if l < n then some (.sl id (off+l * sz) (h - l) (n - l) sz,[id]) else some (.nils,[id])
   else none
  | none=>none
 | _,_,_=>none
def mksV (id sz bytes:Nat) (z:List AV):AV→AV→Option (AV × Up)
 | .int .i64 l,.int .i64 c=>if 0≤l∧l≤c∧c≤1000000000∧(bytes:Int) * c≤140737488355328 then some (.sl id 0 l.toNat c.toNat sz,[(id,some (.cells (List.replicate c.toNat z).flatten))]) else none
 | _,_=>none
def extV (i:Nat):AV→Option AV
 | .tup vs=>vs[i]?
 | _=>none
def lenV:AV→Option AV
 | .sl _ _ len _ _=>some (.int .i64 len)
 | .isl els=>some (.int .i64 els.length)
 | .nils=>some (.int .i64 0)
 | _=>none
def Av0 (at_:At) (sz:Nat):AV→Option (List AV × Nat × List Nat)
 | .nils=>some ([],0,[])
 | .isl els=>if els.all (fun e=>e.length == sz) then some (els.flatten,els.length,[]) else none
 | .sl id off len _ sz'=>match Y2 at_ id with
  | some cs=>if sz=sz'∧off+len * sz≤cs.length then some ((cs.drop off).take (len * sz),len,[id]) else none
  | none=>none
 | _=>none
def BI3 (at_:At) (id sz bytes:Nat) (s x:AV):Option (AV × Up × List Nat) :=
 match Av0 at_ sz x with
 | some (src,n,rd)=>match s with
  | .nils=>if n=0 then some (.nils,[],rd) else if n * bytes≤140737488355328∧n≤1000000000000 then some (.sl id 0 n n sz,[(id,some (.cells src))],rd) else none
  | .sl d off len cp sz'=>match Y2 at_ d with
   | some cs =>
    if sz=sz'∧off+len * sz≤cs.length then
     if len+n≤cp then (if off+(len+n) * sz≤cs.length then some (.sl d off (len+n) cp sz,[(d,some (.cells (over cs (off+len * sz) src)))],d::rd) else none)
     else if (len+n) * bytes≤140737488355328∧len+n≤1000000000000 then some (.sl id 0 (len+n) (len+n) sz,[(d,none),(id,some (.cells ((cs.drop off).take (len * sz)++src)))],d::rd) else none
    else none
   | none=>none
  | _=>none
 | none=>none
def Ab1 (at_:At) (z:List AV):AV→Option (Up × List Nat)
 | .nils=>some ([],[])
 | .sl id off len _ sz=>match Y2 at_ id with
  | some cs=>if sz=z.length∧off+len * sz≤cs.length then some ([(id,some (.cells (over cs off (List.replicate len z).flatten)))],[id]) else none
  | none=>none
 | .isl []=>some ([],[])
 | _=>none
def AV.isInt:AV→Bool
 | .int _ _=>true
 | _=>false
def BU7 (ag:Bool):AV→Option (List AV)
 | .agg cs=>if ag=true∧cs.all AV.isInt=true then some cs else none
 | .int k n=>if ag=true then none else some [.int k n]
 | _=>none
def AO1 (ag:Bool) (ks:List Nat) (k:List AV):List (AV × AV)→Option (Option Nat)
 | []=>some none
 | e::r=>match BU7 ag e.1 with
  | some k'=>match eqL ks k k' with
   | some true=>some (some 0)
   | some false=>(AO1 ag ks k r).map fun o=>o.map (· + 1)
   | none=>none
  | none=>none
def AN1 (at_:At) (i:Nat):Option (List (AV × AV)):=match at_ i with
 | some (.maps es)=>some es
 | _=>none
def keyV (at_:At) (ag:Bool) (ks:List Nat):AV→AV→Option (Nat × List (AV × AV) × Option Nat)
 | .mapr i,k=>match AN1 at_ i,BU7 ag k with
  | some es,some kc=>if kc.length=ks.length then (AO1 ag ks kc es).map fun o=>(i,es,o) else none
  | _,_=>none
 | _,_=>none
def Aw1 (z:AV) (es:List (AV × AV)) (o:Option Nat):AV:=match o.bind (es[·]?) with
 | some e=>e.2
 | none=>z
def AU7 (at_:At) (ok ag:Bool) (ks:List Nat) (z m k:AV):Option (AV × List Nat) :=
 (keyV at_ ag ks m k).map fun q=>(if ok then .tup [Aw1 z q.2.1 q.2.2,.bool q.2.2.isSome] else Aw1 z q.2.1 q.2.2,[q.1])
def mputV (es:List (AV × AV)) (o:Option Nat) (k v:AV):List (AV × AV):=match o with
 | some j=>es.set j (k,v)
 | none=>es++[(k,v)]
def mcutV (es:List (AV × AV)) (o:Option Nat):List (AV × AV):=match o with
 | some j=>es.eraseIdx j
 | none=>es
def BL6 (at_:At) (ag:Bool) (ks:List Nat) (m k v:AV):Option (Up × List Nat) :=
 (keyV at_ ag ks m k).map fun q=>([(q.1,some (.maps (mputV q.2.1 q.2.2 k v)))],[q.1])
def BL8 (at_:At) (ag:Bool) (ks:List Nat) (m k:AV):Option (Up × List Nat) :=
 (keyV at_ ag ks m k).map fun q=>([(q.1,some (.maps (mcutV q.2.1 q.2.2)))],[q.1])
def BL7 (at_:At):AV→Option (AV × List Nat)
 | .mapr i=>(AN1 at_ i).map fun es=>(.int .i64 es.length,[i])
 | _=>none
def mmV (mx:Bool) (x:AV):List AV→Option AV
 | []=>some x
 | y::r=>match x,y with
  | .int k a,.int k' b=>if k=k' then mmV mx (.int k (if mx then (if b > a then b else a) else (if b < a then b else a))) r else none
  | _,_=>none
def AD2 (o:Option AV):Option (AV × Up × List Nat):=match o with
 | some v=>some (v,[],[])
 | none=>none
def ev1 (o:Option AV) (f:AV→Option AV):Option (AV × Up × List Nat):=match o with
 | some v=>AD2 (f v)
 | none=>none
def ev2 (o p:Option AV) (f:AV→AV→Option AV):Option (AV × Up × List Nat):=match o,p with
 | some v,some u=>AD2 (f v u)
 | _,_=>none
def evO (ev:AX→Option AV):Option AX→Option (Option AV)
 | none=>some none
 | some x=>(ev x).map some
def G7 (ev:AX→Option AV) (at_:At) (id:Nat):AOp→Option (AV × Up × List Nat)
 | .mv x=>AD2 (ev x)
 | .pick c a b=>match ev c,ev a,ev b with|some c,some a,some b=>AD2 (pickV c a b)|_,_,_=>none
 | .new z=>some (.ptr id 0,[(id,some (.cells z))],[])
 | .box x=>match ev x with|some v=>if v.flat then some (.ptr id 0,[(id,some (.cells v.cells))],[]) else none|none=>none
 | .build z ps=>match AU6 ev ps with|some l=>AD2 ((Ax2 z l).map .agg)|none=>none
 | .bslice sz n z ps=>match AU6 ev ps with
  | some l=>match Ax2 z l with|some cs=>some (.sl id 0 n n sz,[(id,some (.cells cs))],[])|none=>none
  | none=>none
 | .load ag n x=>match ev x with
  | some v=>match Ae0 at_ ag n v with|some (u,rd)=>some (u,[],rd)|none=>none
  | none=>none
 | .store n a v=>match ev a,ev v with
  | some p,some v=>match Af8 at_ n v p with|some (up,rd)=>some (.undef,up,rd)|none=>none
  | _,_=>none
 | .nchk x=>ev1 (ev x) nchkV
 | .bin op x y=>ev2 (ev x) (ev y) (BH1 op)
 | .eqb ng x y=>ev2 (ev x) (ev y) (eqbV ng)
 | .eqp ng fn x y=>ev2 (ev x) (ev y) (eqpV ng fn)
 | .eqn _ _=>none
 | .eqs ng ks x y=>ev2 (ev x) (ev y) (eqsV ng ks)
 | .un op x=>ev1 (ev x) (unV op)
 | .conv k x=>ev1 (ev x) (convV k)
 | .faddr off x=>ev1 (ev x) (BV4 off)
 | .fld ag off n x=>ev1 (ev x) (fldV ag off n)
 | .iaddrA len sz x i=>ev2 (ev x) (ev i) (An1 len sz)
 | .iaddrS sz x i=>ev2 (ev x) (ev i) (Ae5 sz)
 | .idx ag len sz x i=>ev2 (ev x) (ev i) (idxV ag len sz)
 | .slS sz x lo hi mx=>match ev x,(evO ev lo).bind bndV,(evO ev hi).bind bndV,(evO ev mx).bind bndV with
  | some x,some lo,some hi,some mx=>AD2 (slSV sz x lo hi mx)
  | _,_,_,_=>none
 | .slA n sz x lo hi=>match ev x,(evO ev lo).bind bndV,(evO ev hi).bind bndV with
  | some x,some lo,some hi=>match slAV at_ n sz x lo hi with|some (v,rd)=>some (v,[],rd)|none=>none
  | _,_,_=>none
 | .mkfn f fs cs=>match AV9 ev fs,AV9 ev cs with|some fs,some cs=>some (.fn f fs cs,[],[])|_,_=>none
 | .mks sz bytes z l c=>match ev l,ev c with
  | some l,some c=>match mksV id sz bytes z l c with|some (v,up)=>some (v,up,[])|none=>none
  | _,_=>none
 | .ext x i=>ev1 (ev x) (extV i)
 | .append sz bytes s x=>match ev s,ev x with|some s,some x=>BI3 at_ id sz bytes s x|_,_=>none
 | .len x=>ev1 (ev x) lenV
 | .clear z x=>match ev x with
  | some v=>match Ab1 at_ z v with|some (up,rd)=>some (.tup [],up,rd)|none=>none
  | none=>none
 | .minmax mx x xs=>match ev x,AV9 ev xs with|some x,some l=>AD2 (mmV mx x l)|_,_=>none
 | .mkmap=>some (.mapr id,[(id,some (.maps []))],[])
 | .mlook ok ag ks z m k=>match ev m,ev k with
  | some m,some k=>match AU7 at_ ok ag ks z m k with|some (v,rd)=>some (v,[],rd)|none=>none
  | _,_=>none
 | .mset ag ks m k v=>match ev m,ev k,ev v with
  | some m,some k,some v=>match BL6 at_ ag ks m k v with|some (up,rd)=>some (.undef,up,rd)|none=>none
  | _,_,_=>none
 | .mdel ag ks m k=>match ev m,ev k with
  | some m,some k=>match BL8 at_ ag ks m k with|some (up,rd)=>some (.tup [],up,rd)|none=>none
  | _,_=>none
 | .mlen m=>match ev m with
  | some v=>match BL7 at_ v with|some (u,rd)=>some (u,[],rd)|none=>none
  | none=>none
 | .call _ _=>none
end Go.Am
