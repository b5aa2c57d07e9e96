/-
 What is only read may be taken for a value: named blocks become values,for a while or for good. No program in sight.
 A call that leaves what it is given as it was,and makes memory of its own: its result becomes a value. No program in sight.
 The abstract machine as a program that can be run: what it comes to,the model's code comes to. No program in sight.
 The abstract machine's runs are sound. No program in sight.
 Tables of functions;closed calls. No program in sight.
 From a pure contract to a row: what a call reads,as abstract values;that it leaves everything as it was. No program in sight.
 Loops told of by what turns in the frame: the other live slots stay,the dead ones are forgotten. No program in sight.
-/
import Derived.Test.YtkahmhmkhfllpaaDoorAmSix
import Derived.ProofKit
import Derived.OpenVars
set_option linter.unusedSimpArgs false
set_option linter.unusedVariables false
namespace Go.Am
def plainB:Nat→AV→Bool
 | _,.undef=>true
 | _,.int _ _=>true
 | _,.bool _=>true
 | _,.str _=>true
 | _,.nilp=>true
 | _,.nilf=>true
 | _,.nils=>true
 | d+1,.iptr cs=>cs.all (plainB d)
 | d+1,.isl els=>els.all fun e=>e.all (plainB d)
 | d+1,.agg cs=>cs.all (plainB d)
 | d+1,.tup cs=>cs.all (plainB d)
 | d+1,.fn _ fs cs=>fs.all (plainB d) && cs.all (plainB d)
 | _,_=>false
theorem plainB_plain:∀ (d:Nat) (x:AV),plainB d x=true→Plain x
 | d,.undef,_=>plain_undef
 | d,.int _ _,_=>plain_int
 | d,.bool _,_=>plain_bool
 | d,.str _,_=>plain_str
 | d,.nilp,_=>plain_nilp
 | d,.nilf,_=>plain_nilf
 | d,.nils,_=>plain_nils
 | d+1,.iptr cs,h=>plain_iptr fun x hx=>plainB_plain d x (by simp only [plainB,List.all_eq_true] at h;exact h x hx)
 | d+1,.isl els,h=>plain_isl fun e he x hx=>plainB_plain d x (by simp only [plainB,List.all_eq_true] at h;exact h e he x hx)
 | d+1,.agg cs,h=>plain_agg fun x hx=>plainB_plain d x (by simp only [plainB,List.all_eq_true] at h;exact h x hx)
 | d+1,.tup cs,h=>plain_tup fun x hx=>plainB_plain d x (by simp only [plainB,List.all_eq_true] at h;exact h x hx)
 | d+1,.fn f fs cs,h=>by
  simp only [plainB,Bool.and_eq_true,List.all_eq_true] at h
  exact plain_fn (fun x hx=>plainB_plain d x (h.1 x hx)) fun x hx=>plainB_plain d x (h.2 x hx)
 | d,.ptr _ _,h=>by cases d<;>cases h
 | d,.sl _ _ _ _ _,h=>by cases d<;>cases h
 | d,.yld _,h=>by cases d<;>cases h
 | d,.mapr _,h=>by cases d<;>cases h
 | 0,.iptr _,h=>by cases h
 | 0,.isl _,h=>by cases h
 | 0,.agg _,h=>by cases h
 | 0,.tup _,h=>by cases h
 | 0,.fn _ _ _,h=>by cases h
def chunks (sz:Nat):Nat→List AV→List (List AV)
 | 0, _ => []
 | n+1,l=>l.take sz::chunks sz n (l.drop sz)
theorem chunks_length {sz:Nat}:∀ {n:Nat} {l:List AV},(chunks sz n l).length=n
 | 0,_=>rfl
 | n+1,l=>by simp [chunks,chunks_length]
theorem chunks_get {sz:Nat}:∀ {n:Nat} {l:List AV} {k:Nat} {el:List AV},(chunks sz n l)[k]? = some el→el=(l.drop (k * sz)).take sz∧k < n
 | 0,_,_,_,h=>by simp [chunks] at h
 | n+1,l,0,el,h=>by simp [chunks] at h;subst h;simp
 | n+1,l,k+1,el,h=>by
  simp only [chunks,List.getElem?_cons_succ] at h
  obtain ⟨h1,h2⟩:=chunks_get h
  refine ⟨?_,by omega⟩
  rw [h1,List.drop_drop,Nat.succ_mul,Nat.add_comm]
def frzL (f:AV→Option (AV × List Nat)):List AV→Option (List AV × List Nat)
 | []=>some ([],[])
 | x::r=>match f x,frzL f r with
  | some (y,a),some (l,b)=>some (y::l,a++b)
  | _,_=>none
def frzV:Nat→At→AV→Option (AV × List Nat)
 | d+1,at_,.ptr i o=>match cellsAt at_ i with
  | some cs=>match frzL (frzV d at_) (cs.drop o) with
   | some (l,r)=>some (.iptr l,i::r)
   | none=>none
  | none=>none
 | d+1,at_,.sl i off len _ sz=>match cellsAt at_ i with
  | some cs=>if off+len * sz≤cs.length then match frzL (frzV d at_) ((cs.drop off).take (len * sz)) with
   | some (l,r)=>some (.isl (chunks sz len l),i::r)
   | none=>none
   else none
  | none=>none
 | d+1,at_,.agg cs=>match frzL (frzV d at_) cs with
  | some (l,r)=>some (.agg l,r)
  | none=>none
 | d+1,at_,.tup cs=>match frzL (frzV d at_) cs with
  | some (l,r)=>some (.tup l,r)
  | none=>none
 | d+1,at_,.fn f fs cs=>match frzL (frzV d at_) fs,frzL (frzV d at_) cs with
  | some (l,r),some (l',r')=>some (.fn f l l',r++r')
  | _,_=>none
 | d,_,x=>if plainB d x then some (x,[]) else none
theorem frzL_spec {f:AV→Option (AV × List Nat)}:∀ {xs ys:List AV} {r:List Nat},frzL f xs=some (ys,r)→ys.length=xs.length∧∀ (j:Nat) y,ys[j]? = some y→∃ x a,xs[j]? = some x∧f x=some (y,a)∧∀ i ∈ a,i ∈ r
 | [],ys,r,h=>by cases h;exact ⟨rfl,fun j y hy=>by simp at hy⟩
 | x::xs,ys,r,h=>by
  simp only [frzL] at h
  split at h
  ·rename_i y a l b h1 h2
   cases h
   obtain ⟨k1,k2⟩:=frzL_spec h2
   refine ⟨by simp [k1],fun j z hz=>?_⟩
   cases j with
   | zero=>simp at hz;subst hz;exact ⟨x,a,rfl,h1,fun i hi=>List.mem_append_left _ hi⟩
   | succ j =>
    obtain ⟨x',a',q1,q2,q3⟩:=k2 j z (by simpa using hz)
    exact ⟨x',a',by simpa using q1,q2,fun i hi=>List.mem_append_right _ (q3 i hi)⟩
  ·cases h
section
variable {P:Program} {G:Gl}
structure Frz (c c':Cx) (rd:List Nat) (at_:At):Prop where
 w:c'.w=c.w
 froz:∀ b,c.Froz b→c'.Froz b
 nm:∀ i ∈ rd,∀ o,c.at_ i=some o→c'.Froz (c.mu i).1
 at_:∀ i ∈ rd,c.at_ i=at_ i
theorem Plain.frz {c c':Cx} {rd:List Nat} {at_:At} (hf:Frz c c' rd at_) {x:AV} {v:Value} (hp:Plain x) (h:RR c x v):RR c' x v:=hp c c' v (fun b hb=>⟨hf.froz b hb,fun o u hu=>by rw [hf.w];exact hu⟩) h
theorem frz_sound {c c':Cx} {rd:List Nat} {at_:At} (hf:Frz c c' rd at_) (hR:Rel P c):∀ (d:Nat) (x:AV) (y:AV) (r:List Nat),frzV d at_ x=some (y,r)→(∀ i ∈ r,i ∈ rd)→(∀ v,RR c x v→RR c' y v)∧Plain y:=by
 intro d
 induction d with
 | zero =>
  intro x y r h hr
  have : plainB 0 x=true∧y=x:=by
   cases x<;>simp only [frzV] at h<;>split at h<;>first|(cases h;exact ⟨by assumption,rfl⟩)|cases h
  obtain ⟨h1,rfl⟩:=this
  exact ⟨fun v hv=>(plainB_plain 0 y h1).frz hf hv,plainB_plain 0 y h1⟩
 | succ d ih =>
  intro x y r h hr
  have base:∀ {z:AV},(if plainB (d+1) z=true then some (z,([]:List Nat)) else none)=some (y,r)→(∀ v,RR c z v→RR c' y v)∧Plain y:=fun {z} hz=>by
   split at hz
   ·rename_i hp;cases hz;exact ⟨fun v hv=>(plainB_plain _ _ hp).frz hf hv,plainB_plain _ _ hp⟩
   ·cases hz
  have lst:∀ {xs ys:List AV} {r':List Nat},frzL (frzV d at_) xs=some (ys,r')→(∀ i ∈ r',i ∈ rd)→(∀ look,RCs (RR c) xs look→RCs (RR c') ys look)∧(∀ look,RC1 (RR c) xs look→RC1 (RR c') ys look)∧(∀ y ∈ ys,Plain y)∧ys.length=xs.length:=fun {xs ys r'} hl hr'=>by
   obtain ⟨k1,k2⟩:=frzL_spec hl
   refine ⟨fun look hlk j z hz=>?_,fun look hlk j z hz=>?_,fun z hz=>?_,k1⟩
   ·obtain ⟨x',a,q1,q2,q3⟩:=k2 j z hz
    obtain ⟨u,hu,hxu⟩:=hlk j x' q1
    exact ⟨u,hu,(ih _ _ _ q2 fun i hi=>hr' i (q3 i hi)).1 u hxu⟩
   ·obtain ⟨x',a,q1,q2,q3⟩:=k2 j z hz
    obtain ⟨u,hu,hxu,h1⟩:=hlk j x' q1
    exact ⟨u,hu,(ih _ _ _ q2 fun i hi=>hr' i (q3 i hi)).1 u hxu,h1⟩
   ·obtain ⟨j,hj⟩:=List.mem_iff_getElem?.1 hz
    obtain ⟨x',a,q1,q2,q3⟩:=k2 j z hj
    exact (ih _ _ _ q2 fun i hi=>hr' i (q3 i hi)).2
  cases x with
  | ptr i o =>
   simp only [frzV] at h
   split at h
   ·rename_i cs hcs
    split at h
    ·rename_i l r' hl
     cases h
     have hi:i ∈ rd:=hr i (List.mem_cons_self ..)
     obtain ⟨_,k2,k3,_⟩:=lst hl fun j hj=>hr j (List.mem_cons_of_mem _ hj)
     have hci:cellsAt c.at_ i=some cs:=by unfold cellsAt at hcs ⊢;rw [hf.at_ i hi];exact hcs
     refine ⟨fun v hv=>?_,plain_iptr k3⟩
     obtain ⟨_,rfl⟩:=RR_ptr.1 hv
     obtain ⟨ar,T,h1,h2⟩:=hR.obj i _ (cellsAt_some hci)
     refine RR_iptr.2 ⟨_,_,rfl,hf.nm i hi _ (cellsAt_some hci),?_⟩
     rw [hf.w]
     refine k2 _ fun j x hx=>?_
     obtain ⟨u,hu,hxu⟩:=h2 (o+j) x (by rw [← List.getElem?_drop];exact hx)
     refine ⟨u,?_,hxu⟩
     show c.w.cell? _=_
     rw [cell_of h1,show (c.mu i).2+o+j=(c.mu i).2+(o+j) by omega]
     exact hu
    ·cases h
   ·cases h
  | sl i off len cp sz =>
   simp only [frzV] at h
   split at h
   ·rename_i cs hcs
    split at h
    ·rename_i hlen
     split at h
     ·rename_i l r' hl
      cases h
      have hi:i ∈ rd:=hr i (List.mem_cons_self ..)
      obtain ⟨_,k2,k3,k4⟩:=lst hl fun j hj=>hr j (List.mem_cons_of_mem _ hj)
      have hci:cellsAt c.at_ i=some cs:=by unfold cellsAt at hcs ⊢;rw [hf.at_ i hi];exact hcs
      refine ⟨fun v hv=>?_,plain_isl fun e he x hx=>?_⟩
      ·obtain ⟨_,hlt,cap,rfl,g1,g2,g3,g4⟩:=RR_sl.1 hv
       obtain ⟨ar,T,h1,h2⟩:=hR.obj i _ (cellsAt_some hci)
       refine RR_isl.2 ⟨_,cap,by rw [chunks_length],by rw [chunks_length];omega,g3,fun _=>⟨_,_,sz,rfl,hf.nm i hi _ (cellsAt_some hci),fun k el hk=>?_⟩⟩
       obtain ⟨rfl,hkl⟩:=chunks_get hk
       have hsz:k * sz+sz≤len * sz:=by
        have:=Nat.mul_le_mul_right sz (show k+1≤len by omega)
        rw [Nat.succ_mul] at this;omega
       have hll:l.length=len * sz:=by rw [k4];simp only [List.length_take,List.length_drop];omega
       refine ⟨by simp only [List.length_take,List.length_drop];omega,?_⟩
       rw [hf.w]
       have key:RC1 (RR c') l fun j=>c.w.cell? ⟨(c.mu i).1,(c.mu i).2+off+j,none⟩:=by
        refine k2 _ fun j x hx=>?_
        have hx':cs[off+j]? = some x:=by
         rw [List.getElem?_take] at hx
         split at hx
         ·rw [List.getElem?_drop] at hx;exact hx
         ·cases hx
        obtain ⟨u,hu,hxu⟩:=h2 _ x hx'
        refine ⟨u,?_,hxu⟩
        show c.w.cell? _=_
        rw [cell_of h1,show (c.mu i).2+off+j=(c.mu i).2+(off+j) by omega];exact hu
       intro j x hx
       have hx':l[k * sz+j]? = some x:=by
        rw [List.getElem?_take] at hx
        split at hx
        ·rw [List.getElem?_drop] at hx;exact hx
        ·cases hx
       obtain ⟨u,hu,hxu⟩:=key _ x hx'
       exact ⟨u,by show c.w.cell? _=_;rw [show (c.mu i).2+off+k * sz+j=(c.mu i).2+off+(k * sz+j) by omega];exact hu,hxu⟩
      ·obtain ⟨k,hk⟩:=List.mem_iff_getElem?.1 he
       obtain ⟨rfl,_⟩:=chunks_get hk
       exact k3 x (List.mem_of_mem_drop (List.mem_of_mem_take hx))
     ·cases h
    ·cases h
   ·cases h
  | agg cs =>
   simp only [frzV] at h
   split at h
   ·rename_i l r' hl
    cases h
    obtain ⟨k1,k2,k3,k4⟩:=lst hl hr
    refine ⟨fun v hv=>?_,plain_agg k3⟩
    obtain ⟨vs,rfl,h1,h2⟩:=RR_agg.1 hv
    exact RR_agg.2 ⟨vs,rfl,by rw [h1,k4],k2 _ h2⟩
   ·cases h
  | tup cs =>
   simp only [frzV] at h
   split at h
   ·rename_i l r' hl
    cases h
    obtain ⟨k1,k2,k3,k4⟩:=lst hl hr
    refine ⟨fun v hv=>?_,plain_tup k3⟩
    obtain ⟨vs,rfl,h1,h2⟩:=RR_tup.1 hv
    exact RR_tup.2 ⟨vs,rfl,by rw [h1,k4],k1 _ h2⟩
   ·cases h
  | fn f fs cs =>
   simp only [frzV] at h
   split at h
   ·rename_i l r1 l' r2 hl1 hl2
    cases h
    obtain ⟨k1,_,k3,k4⟩:=lst hl1 fun i hi=>hr i (List.mem_append_left _ hi)
    obtain ⟨q1,_,q3,q4⟩:=lst hl2 fun i hi=>hr i (List.mem_append_right _ hi)
    refine ⟨fun v hv=>?_,plain_fn k3 q3⟩
    obtain ⟨vf,vc,rfl,⟨h1,h2⟩,h3,h4⟩:=RR_fn.1 hv
    exact RR_fn.2 ⟨vf,vc,rfl,⟨by rw [h1,k4],k1 _ h2⟩,by rw [h3,q4],q1 _ h4⟩
   ·cases h
  | _=>simp only [frzV] at h;exact base h
def Scal (x:AV):Prop:=∀ (c c':Cx) (v:Value),RR c x v→RR c' x v
def scalB:Nat→AV→Bool
 | _,.undef=>true
 | _,.int _ _=>true
 | _,.bool _=>true
 | _,.str _=>true
 | _,.nilp=>true
 | _,.nilf=>true
 | _,.nils=>true
 | _,.isl []=>true
 | d+1,.agg cs=>cs.all (scalB d)
 | d+1,.tup cs=>cs.all (scalB d)
 | _,_=>false
theorem scal_agg {cs:List AV} (h:∀ x ∈ cs,Scal x):Scal (.agg cs):=fun c c' v hr=>by
 obtain ⟨vs,h1,h2,h3⟩:=RR_agg.1 hr
 refine RR_agg.2 ⟨vs,h1,h2,fun j x hx=>?_⟩
 obtain ⟨u,hu,hxu,h4⟩:=h3 j x hx
 exact ⟨u,hu,h x (List.mem_of_getElem? hx) c c' u hxu,h4⟩
theorem scal_tup {cs:List AV} (h:∀ x ∈ cs,Scal x):Scal (.tup cs):=fun c c' v hr=>by
 obtain ⟨vs,h1,h2,h3⟩:=RR_tup.1 hr
 refine RR_tup.2 ⟨vs,h1,h2,fun j x hx=>?_⟩
 obtain ⟨u,hu,hxu⟩:=h3 j x hx
 exact ⟨u,hu,h x (List.mem_of_getElem? hx) c c' u hxu⟩
theorem scal_undef:Scal .undef:=fun _ _ _ _=>RR_undef
theorem scal_int {k:IntKind} {n:Int}:Scal (.int k n):=fun _ _ _ h=>RR_int.2 (RR_int.1 h)
theorem scal_bool {b:Bool}:Scal (.bool b):=fun _ _ _ h=>RR_bool.2 (RR_bool.1 h)
theorem scal_str {b:ByteArray}:Scal (.str b):=fun _ _ _ h=>RR_str.2 (RR_str.1 h)
theorem scal_nilp:Scal .nilp:=fun _ _ _ h=>RR_nilp.2 (RR_nilp.1 h)
theorem scal_nilf:Scal .nilf:=fun _ _ _ h=>RR_nilf.2 (RR_nilf.1 h)
theorem scal_nils:Scal .nils:=fun _ _ _ h=>RR_nils.2 (RR_nils.1 h)
theorem scal_nil:Scal (.isl []):=fun _ _ _ h=>by
 obtain ⟨A,cap,h1,h2,h3,_⟩:=RR_isl.1 h
 exact RR_isl.2 ⟨A,cap,h1,h2,h3,fun h=>absurd rfl h⟩
theorem scalB_scal:∀ (d:Nat) (x:AV),scalB d x=true→Scal x
 | d,.undef,_=>scal_undef
 | d,.int _ _,_=>scal_int
 | d,.bool _,_=>scal_bool
 | d,.str _,_=>scal_str
 | d,.nilp,_=>scal_nilp
 | d,.nilf,_=>scal_nilf
 | d,.nils,_=>scal_nils
 | d,.isl [],_=>scal_nil
 | d+1,.agg cs,h=>scal_agg fun x hx=>scalB_scal d x (by simp only [scalB,List.all_eq_true] at h;exact h x hx)
 | d+1,.tup cs,h=>scal_tup fun x hx=>scalB_scal d x (by simp only [scalB,List.all_eq_true] at h;exact h x hx)
 | d,.ptr _ _,h=>by cases d<;>cases h
 | d,.sl _ _ _ _ _,h=>by cases d<;>cases h
 | d,.yld _,h=>by cases d<;>cases h
 | d,.mapr _,h=>by cases d<;>cases h
 | d,.iptr _,h=>by cases d<;>cases h
 | d,.isl (_::_),h=>by cases d<;>cases h
 | d,.fn _ _ _,h=>by cases d<;>cases h
 | 0,.agg _,h=>by cases h
 | 0,.tup _,h=>by cases h
theorem fnU_frzC {g:Nat} {args args':List AV} {rd:List Nat} {at_:At} {id:Nat} {r:AV} {d:Nat} (hp:PureC P G g args' r) (hG:PlainG G) (ha:frzL (frzV d at_) args=some (args',rd))
  (hr:∀ (c c2:Cx),((∀ b,c.hid b→c2.hid b)∧∀ b i o,c.at_ i=some o→i ∉ rd→(c.mu i).1=b→c2.hid b)→∀ v,RR c2 r v→RR { c with w:=c2.w } r v):FnU P G g args rd at_ r [] id:=by
 refine ⟨(hp at_ id).1,fun c vs hR hg hid hat hargs=>?_⟩
 let cb:Cx:={ U:=fun _=>False,at_:=fun _=>none,mu:=c.mu,w:=c.w,hid:=fun b=>c.hid b∨∃ id o,c.at_ id=some o∧id ∉ rd∧(c.mu id).1=b }
 have hf:Frz c cb rd at_:=by
  refine ⟨rfl,fun b hb=>⟨hb.1,fun _ _ h=>(by cases h),fun hh=>hh.elim hb.3 fun ⟨i,o,ho,_,e⟩=>hb.2 i o ho e⟩,fun i hi o ho=>⟨(hR.obj i o ho).lt,fun _ _ h=>(by cases h),fun hh=>hh.elim (hR.nohid i o ho) fun ⟨j,o',hj,hn,e⟩=>hn (hR.inj j i _ _ hj ho e▸hi)⟩,hat⟩
 have hRb:Rel P cb:=⟨fun _ _ h=>(by cases h),fun _ _ _ _ h=>(by cases h),fun _ _ h=>(by cases h),⟨0,fun _ h=>h.elim⟩,fun _ _ h=>(by cases h),fun b hb=>hb.elim (hR.hidlt b) fun ⟨i,o,ho,_,e⟩=>e▸(hR.obj i o ho).lt⟩
 have hgb:RelG G cb:=fun k cs hk=>(plain_iptr (hG k cs hk)).frz hf (hg k cs hk)
 obtain ⟨k1,k2⟩:=frzL_spec ha
 have hab:argsR cb args' vs:=⟨by rw [hargs.1,k1],fun j y hy=>by
  obtain ⟨x,a,q1,q2,q3⟩:=k2 j y hy
  obtain ⟨u,hu,hxu⟩:=hargs.2 j x q1
  exact ⟨u,hu,(frz_sound hf hR d x y a q2 q3).1 u hxu⟩⟩
 refine ((hp (fun _=>none) 0).2 cb vs hRb hgb (fun h=>h) (fun i hi=>by cases hi) hab).mono ?_
 rintro e w' ⟨v,c2,rfl,rfl,hrv,hR2,he2,hat2,hU2⟩
 have named:∀ i o,c.at_ i=some o→c2.w.heap[(c.mu i).1]? = c.w.heap[(c.mu i).1]?:=fun i o ho=>by
  by_cases hi:i ∈ rd
  ·exact (he2.froz _ (hf.nm i hi o ho)).2
  ·exact he2.hidh _ (.inr ⟨i,o,ho,hi,rfl⟩)
 have he:Ext c { c with w:=c2.w }:=⟨fun _ h=>h,fun _ _=>rfl,he2.csz,fun b hb=>⟨⟨Nat.lt_of_lt_of_le hb.1 he2.size,hb.2,hb.3⟩,(he2.froz b (hf.froz b hb)).2⟩,he2.size,fun _=>Iff.rfl,fun b hb=>he2.hidh b (.inl hb),he2.env⟩
 refine ⟨v,{ c with w:=c2.w },rfl,rfl,?_,?_,he,rfl,fun i=>by simp [newOf]⟩
 ·exact hr c c2 ⟨fun b hb=>(he2.hid b).2 (.inl hb),fun b i o ho hi e=>(he2.hid b).2 (.inr ⟨i,o,ho,hi,e⟩)⟩ v hrv
 ·exact ⟨hR.used,hR.inj,fun i o ho=>(hR.obj i o ho).ext he (named i o ho),hR.many,hR.nohid,fun b hb=>Nat.lt_of_lt_of_le (hR.hidlt b hb) he2.size⟩
theorem fnU_frz {g:Nat} {args args':List AV} {rd:List Nat} {at_:At} {id:Nat} {r:AV} {d:Nat} (hp:PureC P G g args' r) (hG:PlainG G) (ha:frzL (frzV d at_) args=some (args',rd)) (hr:Scal r):FnU P G g args rd at_ r [] id:=by
 exact fnU_frzC hp hG ha (fun c c2 _ v hrv=>hr c2 _ v hrv)
theorem fnU_frz0 {g:Nat} {args args':List AV} {at_:At} {id:Nat} {r:AV} {d:Nat} (hp:PureC P G g args' r) (hG:PlainG G) (ha:frzL (frzV d at_) args=some (args',[])) (hr:Plain r):FnU P G g args [] at_ r [] id:=by
 refine fnU_frzC hp hG ha fun c c2 hfz v hrv=>hr c2 { c with w:=c2.w } v (fun b hb=>⟨⟨hb.1,fun i o ho e=>?_,fun hh=>hb.3 (hfz.1 b hh)⟩,fun _ _ h=>h⟩) hrv
 exact hb.3 (hfz.2 b i o ho (by simp) e)
end
end Go.Am
namespace Go.Am
section
variable {P:Program} {G:Gl}
structure RoIn (p:Nat→Nat→Prop) (g:Nat→Nat) (rd:List Nat) (k:Nat) (at_:At) (l0:List (Nat × AObj)):Prop where
 fn:∀ i j,p i j→j < k∧g j=i∧i ∈ rd
 inj:∀ i j j',p i j→p i j'→j=j'
 obj:∀ j o,lk l0 j=some o→∃ i cs ds,p i j∧at_ i=some (.cells cs)∧o = .cells ds∧RnL p cs ds∧RnL (fun j i=>p i j) ds cs
 all:∀ i ∈ rd,∃ j o,p i j∧lk l0 j=some o
theorem fnU_ro {f k:Nat} {args args0:List AV} {l0:List (Nat × AObj)} {r r2:AV} {at_:At} {id:Nat} {rd:List Nat} {p:Nat→Nat→Prop} {g:Nat→Nat} (hc:LocC P G f args0 l0 k fun x h1=>x=r∧h1=⟨l0,k⟩) (hGp:PlainG G) (hp:RoIn p g rd k at_ l0) (ha:RnL p args args0) (hr:RnV (fun j i=>p i j) r r2):FnU P G f args rd at_ r2 [] id:=by
 refine ⟨hc.1,fun c vs hR hG hid hat hargs=>?_⟩
 let c0:Cx:={ U:=fun j=>j < k,at_:=lk l0,mu:=fun j=>c.mu (g j),w:=c.w,hid:=fun b=>c.hid b∨∃ id o,c.at_ id=some o∧id ∉ rd∧(c.mu id).1=b }
 have spec0:∀ j o,lk l0 j=some o→∃ i cs ds,p i j∧c.at_ i=some (.cells cs)∧o = .cells ds∧RnL p cs ds∧RnL (fun j i=>p i j) ds cs:=fun j o ho=>by
  obtain ⟨i,cs,ds,k1,k2,k3⟩:=hp.obj j o ho
  exact ⟨i,cs,ds,k1,by rw [hat i (hp.fn i j k1).2.2];exact k2,k3⟩
 have hmu0:∀ {i j},p i j→c0.mu j=c.mu i:=fun {i j} hij=>by show c.mu (g j)=_;rw [(hp.fn i j hij).2.1]
 have sub0:Sub p c c0:=by
  refine ⟨fun i j hij _=>⟨(hp.fn i j hij).1,hmu0 hij⟩,rfl,fun b hb=>⟨hb.1,fun j o ho=>?_,fun hh=>hh.elim hb.3 fun ⟨i,o,ho,_,e⟩=>hb.2 i o ho e⟩⟩
  obtain ⟨i,cs,ds,k1,k2,_⟩:=spec0 j o ho
  rw [hmu0 k1];exact hb.2 i _ k2
 have hR0:Rel P c0:=by
  refine ⟨fun j o ho=>?_,fun j j' o o' ho ho' e=>?_,fun j o ho=>?_,⟨k,fun i hi=>hi⟩,fun j o ho hh=>?_,fun b hb=>hb.elim (hR.hidlt b) fun ⟨i,o,ho,_,e⟩=>e▸(hR.obj i o ho).lt⟩
  ·obtain ⟨i,cs,ds,k1,_⟩:=spec0 j o ho;exact (hp.fn i j k1).1
  ·obtain ⟨i,cs,ds,k1,k2,_⟩:=spec0 j o ho
   obtain ⟨i',cs',ds',k1',k2',_⟩:=spec0 j' o' ho'
   rw [hmu0 k1,hmu0 k1'] at e
   have:=hR.inj i i' _ _ k2 k2' e
   subst this
   exact hp.inj i j j' k1 k1'
  ·obtain ⟨i,cs,ds,k1,k2,rfl,k4,_⟩:=spec0 j o ho
   obtain ⟨a,T,q1,q2⟩:=hR.obj i _ k2
   rw [hmu0 k1]
   exact ⟨a,T,q1,k4.rc1 sub0 q2⟩
  ·obtain ⟨i,cs,ds,k1,k2,_⟩:=spec0 j o ho
   rw [hmu0 k1] at hh
   rcases hh with hh | ⟨i',o',ho',hn,e⟩
   ·exact hR.nohid i _ k2 hh
   ·exact hn (hR.inj i' i _ _ ho' k2 e▸(hp.fn i j k1).2.2)
 have hG0:RelG G c0:=fun n cs hn=>rn_plain (plain_iptr (hGp n cs hn)) c c0 _ sub0 (hG n cs hn)
 have hm0:Mat c0 ⟨l0,k⟩:=⟨rfl,fun i=>Iff.rfl⟩
 have ha0:argsR c0 args0 vs:=⟨by rw [hargs.1,ha.spec.1],ha.rcs sub0 hargs.2⟩
 refine (hc.2 c0 _ hR0 hG0 hm0 ha0).mono ?_
 rintro e w' ⟨v,rfl,r',h1,c2,rfl,⟨rfl,rfl⟩,hrv,hR2,hm2,he2⟩
 have hat2:∀ j o,lk l0 j=some o→c2.at_ j=some o:=fun j o hj=>by rw [hm2.at_];exact hj
 have hmu2:∀ {i j},p i j→c2.mu j=c.mu i:=fun {i j} hij=>by rw [he2.mu j (hp.fn i j hij).1];exact hmu0 hij
 have hfroz:∀ b,c2.Froz b→({ c with w:=c2.w }:Cx).Froz b:=fun b hb=>by
  refine ⟨hb.1,fun i o ho=>?_,fun hh=>hb.3 ((he2.hid b).2 (.inl hh))⟩
  by_cases hi:i ∈ rd
  ·obtain ⟨j,o',k1,k2⟩:=hp.all i hi
   intro e
   exact hb.2 j o' (hat2 j o' k2) (by rw [hmu2 k1];exact e)
  ·exact fun e=>hb.3 ((he2.hid b).2 (.inr ⟨i,o,ho,hi,e⟩))
 -- a name that stands in what is left was known to the caller
 have usedD:∀ {i j},p i j→c.U i:=fun {i j} hij=>by
  obtain ⟨j',o,k1,k2⟩:=hp.all i (hp.fn i j hij).2.2
  obtain ⟨i',cs,ds,q1,q2,_⟩:=spec0 j' o k2
  have : i'=i:=by rw [← (hp.fn i' j' q1).2.1,(hp.fn i j' k1).2.1]
  exact this▸hR.used i' _ q2
 have sub1:Sub (fun j i=>p i j) c2 { c with w:=c2.w }:=⟨fun j i hij _=>⟨usedD hij,(hmu2 hij).symm⟩,rfl,hfroz⟩
 have he:Ext c { c with w:=c2.w }:=by
  refine ⟨fun _ h=>h,fun _ _=>rfl,he2.csz,fun b hb=>?_,he2.size,fun _=>Iff.rfl,fun b hb=>he2.hidh b (.inl hb),he2.env⟩
  have k:=he2.froz b (sub0.froz b hb)
  exact ⟨hfroz b k.1,k.2⟩
 refine ⟨v,{ c with w:=c2.w },rfl,rfl,hr c2 _ v sub1 hrv,?_,he,rfl,fun i=>by simp [newOf]⟩
 refine ⟨hR.used,hR.inj,fun i o ho=>?_,hR.many,hR.nohid,fun b hb=>Nat.lt_of_lt_of_le (hR.hidlt b hb) he2.size⟩
 by_cases hi:i ∈ rd
 ·obtain ⟨j,o',k1,k2⟩:=hp.all i hi
  obtain ⟨i',cs,ds,q1,q2,rfl,_,q5⟩:=spec0 j o' k2
  have : i'=i:=by rw [← (hp.fn i' j q1).2.1,(hp.fn i j k1).2.1]
  subst this
  rw [q2] at ho
  cases ho
  obtain ⟨a,T,m1,m2⟩:=hR2.obj j _ (hat2 j _ k2)
  rw [hmu2 k1] at m1 m2
  exact ⟨a,T,m1,q5.rc1 sub1 m2⟩
 ·exact (hR.obj i o ho).ext he (he2.hidh _ (.inr ⟨i,o,ho,hi,rfl⟩))
def namesB (rd:List Nat):Nat→AV→Bool
 | _,.ptr i _=>rd.contains i
 | _,.sl i _ _ _ _=>rd.contains i
 | d+1,.agg cs=>cs.all (namesB rd d)
 | d+1,.tup cs=>cs.all (namesB rd d)
 | d+1,.fn _ fs cs=>fs.all (namesB rd d) && cs.all (namesB rd d)
 | d,x=>plainB d x
theorem rnl_all {p:Nat→Nat→Prop}:∀ {xs:List AV},(∀ x ∈ xs,RnV p x x)→RnL p xs xs
 | [],_=>trivial
 | x::xs,h=>⟨h x (List.mem_cons_self ..),rnl_all fun y hy=>h y (List.mem_cons_of_mem _ hy)⟩
theorem rn_fn {p:Nat→Nat→Prop} {f:Nat} {xs ys xs' ys':List AV} (h1:RnL p xs xs') (h2:RnL p ys ys'):RnV p (.fn f xs ys) (.fn f xs' ys'):=fun c c' v hs hr=>by
 obtain ⟨vf,vc,rfl,⟨k1,k2⟩,k3,k4⟩:=RR_fn.1 hr
 exact RR_fn.2 ⟨vf,vc,rfl,⟨by rw [k1,h1.spec.1],h1.rcs hs k2⟩,by rw [k3,h2.spec.1],h2.rcs hs k4⟩
theorem names_rn {rd:List Nat} {p:Nat→Nat→Prop} (hp:∀ i ∈ rd,p i i):∀ (d:Nat) (x:AV),namesB rd d x=true→RnV p x x:=by
 intro d
 induction d with
 | zero =>
  intro x h
  cases x<;>first
   | exact rn_ptr (hp _ (by simpa [namesB] using h))
   | exact rn_sl (hp _ (by simpa [namesB] using h))
   | exact rn_plain (plainB_plain 0 _ h)
 | succ d ih =>
  intro x h
  cases x with
  | ptr i o=>exact rn_ptr (hp _ (by simpa [namesB] using h))
  | sl i a b c e=>exact rn_sl (hp _ (by simpa [namesB] using h))
  | agg cs=>simp only [namesB,List.all_eq_true] at h;exact rn_agg (rnl_all fun x hx=>ih x (h x hx))
  | tup cs=>simp only [namesB,List.all_eq_true] at h;exact rn_tup (rnl_all fun x hx=>ih x (h x hx))
  | fn f fs cs =>
   simp only [namesB,Bool.and_eq_true,List.all_eq_true] at h
   exact rn_fn (rnl_all fun x hx=>ih x (h.1 x hx)) (rnl_all fun x hx=>ih x (h.2 x hx))
  | _=>exact rn_plain (plainB_plain (d+1) _ h)
theorem wkl_all {σ:Nat→Nat} {h h':Hp}:∀ {xs:List AV},(∀ x ∈ xs,WkV P σ h h' x x)→WkL P σ h h' xs xs
 | [],_=>trivial
 | x::xs,hx=>⟨hx x (List.mem_cons_self ..),wkl_all fun y hy=>hx y (List.mem_cons_of_mem _ hy)⟩
theorem names_wk {rd:List Nat} {h h':Hp} (hs:SubH id h h') (hp:∀ i ∈ rd,i < h'.next):∀ (d:Nat) (x:AV),namesB rd d x=true→WkV P id h h' x x:=by
  intro d
  induction d with
  | zero =>
    intro x hx
    cases x<;>first
      | exact wk_ptr rfl (hp _ (by simpa [namesB] using hx))
      | exact fun c v hR hm hr=>by
          obtain ⟨h1,h2,cap,h3,h4,h5,h6,h7⟩:=RR_sl.1 hr
          exact RR_sl.2 ⟨hp _ (by simpa [namesB] using hx),h2,cap,h3,h4,h5,h6,h7⟩
      | exact wk_plain hs (plainB_plain 0 _ hx)
  | succ d ih =>
    intro x hx
    cases x with
    | ptr i o=>exact wk_ptr rfl (hp _ (by simpa [namesB] using hx))
    | sl i a b c e =>
      intro c v hR hm hr
      obtain ⟨h1,h2,cap,h3,h4,h5,h6,h7⟩:=RR_sl.1 hr
      exact RR_sl.2 ⟨hp _ (by simpa [namesB] using hx),h2,cap,h3,h4,h5,h6,h7⟩
    | agg cs=>simp only [namesB,List.all_eq_true] at hx;exact wk_agg (wkl_all fun x h=>ih x (hx x h))
    | tup cs=>simp only [namesB,List.all_eq_true] at hx;exact wk_tup (wkl_all fun x h=>ih x (hx x h))
    | fn f fs cs =>
      simp only [namesB,Bool.and_eq_true,List.all_eq_true] at hx
      exact wk_fn (wkl_all fun x h=>ih x (hx.1 x h)) (wkl_all fun x h=>ih x (hx.2 x h))
    | _=>exact wk_plain hs (plainB_plain (d+1) _ hx)
def eqIK (a b:IntKind):Bool:=match a,b with
 | .i8,.i8 | .i16,.i16 | .i32,.i32 | .i64,.i64 | .u8,.u8 | .u16,.u16 | .u32,.u32 | .u64,.u64=>true
 | _,_=>false
theorem eqIK_eq {a b:IntKind} (h:eqIK a b=true):a=b:=by cases a<;>cases b<;>first|rfl|cases h
def allB2 (f:AV→AV→Bool):List AV→List AV→Bool
 | [],[]=>true
 | x::xs,y::ys=>f x y && allB2 f xs ys
 | _,_=>false
theorem allB2_eq {f:AV→AV→Bool} (hf:∀ x y,f x y=true→x=y):∀ {xs ys:List AV},allB2 f xs ys=true→xs=ys
 | [],[],_=>rfl
 | x::xs,y::ys,h=>by
  simp only [allB2,Bool.and_eq_true] at h
  rw [hf x y h.1,allB2_eq hf h.2]
 | [],_::_,h=>by cases h
 | _::_,[],h=>by cases h
def allB2L (f:List AV→List AV→Bool):List (List AV)→List (List AV)→Bool
 | [],[]=>true
 | x::xs,y::ys=>f x y && allB2L f xs ys
 | _,_=>false
theorem allB2L_eq {f:List AV→List AV→Bool} (hf:∀ x y,f x y=true→x=y):∀ {xs ys:List (List AV)},allB2L f xs ys=true→xs=ys
 | [],[],_=>rfl
 | x::xs,y::ys,h=>by
  simp only [allB2L,Bool.and_eq_true] at h
  rw [hf x y h.1,allB2L_eq hf h.2]
 | [],_::_,h=>by cases h
 | _::_,[],h=>by cases h
def eqAV:Nat→AV→AV→Bool
 | _,.undef,.undef=>true
 | _,.int k n,.int k' n'=>eqIK k k' && n == n'
 | _,.bool a,.bool b=>a == b
 | _,.nilp,.nilp=>true
 | _,.nilf,.nilf=>true
 | _,.nils,.nils=>true
 | _,.ptr i o,.ptr j q=>i == j && o == q
 | _,.sl i a b c d,.sl i' a' b' c' d'=>i == i' && a == a' && b == b' && c == c' && d == d'
 | d+1,.isl xs,.isl ys=>allB2L (allB2 (eqAV d)) xs ys
 | d+1,.iptr xs,.iptr ys=>allB2 (eqAV d) xs ys
 | d+1,.agg xs,.agg ys=>allB2 (eqAV d) xs ys
 | d+1,.fn f xs ys,.fn g xs' ys'=>f == g && allB2 (eqAV d) xs xs' && allB2 (eqAV d) ys ys'
 | _,.str s,.str t=>decide (s=t)
 | _,_,_=>false
theorem eqAV_eq:∀ (d:Nat) (x y:AV),eqAV d x y=true→x=y:=by
 intro d
 induction d with
 | zero =>
  intro x y h
  cases x<;>cases y<;>first|rfl|(simp only [eqAV,Bool.and_eq_true,beq_iff_eq,decide_eq_true_eq] at h;first|(obtain ⟨⟨⟨⟨rfl,rfl⟩,rfl⟩,rfl⟩,rfl⟩:=h;rfl)|(obtain ⟨rfl,rfl⟩:=h;rfl)|(obtain ⟨h1,rfl⟩:=h;rw [eqIK_eq h1])|(subst h;rfl)|cases h)|cases h
 | succ d ih =>
  intro x y h
  have e2:=fun xs ys=>allB2_eq (f:=eqAV d) ih (xs:=xs) (ys:=ys)
  cases x<;>cases y<;>first
   | rfl
   | (simp only [eqAV,Bool.and_eq_true,beq_iff_eq,decide_eq_true_eq] at h;first
     | (obtain ⟨⟨⟨⟨rfl,rfl⟩,rfl⟩,rfl⟩,rfl⟩:=h;rfl)
     | (obtain ⟨⟨rfl,h1⟩,h2⟩:=h;rw [e2 _ _ h1,e2 _ _ h2])
     | (obtain ⟨rfl,rfl⟩:=h;rfl)
     | (obtain ⟨h1,rfl⟩:=h;rw [eqIK_eq h1])
     | (rw [e2 _ _ h])
     | (rw [allB2L_eq (fun _ _=>e2 _ _) h])
     | (subst h;rfl)
     | cases h)
   | cases h
def sameB (l1:List (Nat × AObj)):List (Nat × AObj)→Bool
 | []=>true
 | (i,.cells cs)::r=>(match lk l1 i with|some (.cells ds)=>allB2 (eqAV 9) ds cs|_=>false) && sameB l1 r
 | _::_=>false
def tidyB (rd:List Nat) (k:Nat):List (Nat × AObj)→Bool
 | []=>true
 | (i,.cells cs)::r=>decide (i < k) && cs.all (namesB rd 9) && tidyB rd k r
 | _::_=>false
theorem sameB_lk {l1:List (Nat × AObj)}:∀ {l:List (Nat × AObj)},sameB l1 l=true→∀ q ∈ l,∃ cs,q.2 = .cells cs∧lk l1 q.1=some (.cells cs)
 | [],_,q,hq=>by cases hq
 | (i,.cells cs)::r,h,q,hq=>by
  simp only [sameB,Bool.and_eq_true] at h
  rcases List.mem_cons.1 hq with rfl|hq
  ·refine ⟨cs,rfl,?_⟩
   have h1:=h.1
   split at h1
   ·rename_i ds e;rw [e,allB2_eq (eqAV_eq 9) h1]
   ·cases h1
  ·exact sameB_lk h.2 q hq
 | (i,.loop _ _ _ _ _ _)::r,h,q,hq=>by cases h
 | (i,.maps _)::r,h,q,hq=>by cases h
theorem tidyB_lk {rd:List Nat} {k:Nat}:∀ {l:List (Nat × AObj)},tidyB rd k l=true→∀ i o,lk l i=some o→i < k∧∃ cs,o = .cells cs∧∀ x ∈ cs,namesB rd 9 x=true
 | [],_,i,o,h=>by cases h
 | (j,.cells cs)::r,h,i,o,hl=>by
  simp only [tidyB,Bool.and_eq_true,decide_eq_true_eq,List.all_eq_true] at h
  simp only [lk] at hl
  split at hl
  ·rename_i e;subst e;cases hl;exact ⟨h.1.1,cs,rfl,h.1.2⟩
  ·exact tidyB_lk h.2 i o hl
 | (j,.loop _ _ _ _ _ _)::r,h,i,o,hl=>by cases h
 | (j,.maps _)::r,h,i,o,hl=>by cases h
theorem tidyB_mem {rd:List Nat} {k:Nat}:∀ {l:List (Nat × AObj)},tidyB rd k l=true→∀ {i:Nat} {cs:List AV},(i,AObj.cells cs) ∈ l→∀ x ∈ cs,namesB rd 9 x=true
 | (j,.cells ds)::r,h,i,cs,hm,x,hx=>by
  simp only [tidyB,Bool.and_eq_true,decide_eq_true_eq,List.all_eq_true] at h
  rcases List.mem_cons.1 hm with e|hm
  ·cases e;exact h.1.2 x hx
  ·exact tidyB_mem h.2 hm x hx
 | (j,.loop _ _ _ _ _ _)::r,h,_,_,_,_,_=>by cases h
 | (j,.maps _)::r,h,_,_,_,_,_=>by cases h
theorem frzV_plain {at_:At}:∀ (d:Nat) (x y:AV) (r:List Nat),frzV d at_ x=some (y,r)→Plain y:=by
 intro d
 induction d with
 | zero =>
  intro x y r h
  cases x<;>simp only [frzV] at h<;>split at h<;>first|(cases h;exact plainB_plain 0 _ (by assumption))|cases h
 | succ d ih =>
  intro x y r h
  have lst:∀ {xs ys:List AV} {r':List Nat},frzL (frzV d at_) xs=some (ys,r')→∀ y ∈ ys,Plain y:=fun {xs ys r'} hl z hz=>by
   obtain ⟨j,hj⟩:=List.mem_iff_getElem?.1 hz
   obtain ⟨x',a,q1,q2,q3⟩:=(frzL_spec hl).2 j z hj
   exact ih _ _ _ q2
  have base:∀ {z:AV},(if plainB (d+1) z=true then some (z,([]:List Nat)) else none)=some (y,r)→Plain y:=fun {z} hz=>by
   split at hz
   ·rename_i hp;cases hz;exact plainB_plain _ _ hp
   ·cases hz
  cases x with
  | ptr i o =>
   simp only [frzV] at h
   split at h
   ·split at h
    ·rename_i l r' hl;cases h;exact plain_iptr (lst hl)
    ·cases h
   ·cases h
  | sl i off len cp sz =>
   simp only [frzV] at h
   split at h
   ·split at h
    ·split at h
     ·rename_i l r' hl
      cases h
      refine plain_isl fun e he x hx=>?_
      obtain ⟨k,hk⟩:=List.mem_iff_getElem?.1 he
      obtain ⟨rfl,_⟩:=chunks_get hk
      exact lst hl x (List.mem_of_mem_drop (List.mem_of_mem_take hx))
     ·cases h
    ·cases h
   ·cases h
  | agg cs =>
   simp only [frzV] at h
   split at h
   ·rename_i l r' hl;cases h;exact plain_agg (lst hl)
   ·cases h
  | tup cs =>
   simp only [frzV] at h
   split at h
   ·rename_i l r' hl;cases h;exact plain_tup (lst hl)
   ·cases h
  | fn f fs cs =>
   simp only [frzV] at h
   split at h
   ·rename_i l r1 l' r2 hl1 hl2;cases h;exact plain_fn (lst hl1) (lst hl2)
   ·cases h
  | _=>simp only [frzV] at h;exact base h
theorem lk_key:∀ {l:List (Nat × AObj)} {i:Nat},i ∈ l.map (·.1)→∃ o,lk l i=some o
 | (j,o)::r,i,h=>by
  simp only [lk]
  by_cases e:i=j
  ·exact ⟨o,if_pos e⟩
  ·rw [if_neg e]
   simp only [List.map_cons,List.mem_cons] at h
   exact lk_key (h.resolve_left e)
theorem lk_in:∀ {l:List (Nat × AObj)} {i:Nat} {o:AObj},lk l i=some o→(i,o) ∈ l
 | (j,x)::r,i,o,h=>by
  simp only [lk] at h
  split at h
  ·rename_i e;subst e;cases h;exact List.mem_cons_self ..
  ·exact List.mem_cons_of_mem _ (lk_in h)
def roB (h:Hp) (args:List AV) (r:AV) (h1:Hp):Option AV :=
 let rd:=h.l.map (·.1)
 if tidyB rd h.next h.l && args.all (namesB rd 9) && sameB h1.l h.l && decide (h.next≤h1.next) then
  if namesB rd 9 r then some r else match frzV 9 (lk h1.l) r with
  | some (r',rd')=>if rd'.all (fun i=>!rd.contains i) then some r' else none
  | none=>none
 else none
theorem roIn_id {h:Hp} {at_:At} (hat:∀ j o,lk h.l j=some o→at_ j=some o) (ht:tidyB (h.l.map (·.1)) h.next h.l=true):RoIn (fun i j=>i=j∧i ∈ h.l.map (·.1)) id (h.l.map (·.1)) h.next at_ h.l:=by
 refine ⟨fun i j ⟨e,hi⟩=>?_,fun i j j' h h'=>h.1.symm.trans h'.1,fun j o ho=>?_,fun i hi=>?_⟩
 ·subst e
  obtain ⟨o,ho⟩:=lk_key hi
  exact ⟨(tidyB_lk ht i o ho).1,rfl,hi⟩
 ·obtain ⟨_,cs,rfl,hn⟩:=tidyB_lk ht j o ho
  have hj:j ∈ h.l.map (·.1):=List.mem_map.2 ⟨_,lk_in ho,rfl⟩
  exact ⟨j,cs,cs,⟨rfl,hj⟩,hat _ _ ho,rfl,rnl_all fun x hx=>names_rn (fun i hi=>⟨rfl,hi⟩) 9 x (hn x hx),rnl_all fun x hx=>names_rn (fun i hi=>⟨rfl,hi⟩) 9 x (hn x hx)⟩
 ·obtain ⟨o,ho⟩:=lk_key hi
  exact ⟨i,o,⟨rfl,hi⟩,ho⟩
def restr (l:List (Nat × AObj)):List Nat→List (Nat × AObj)
 | [] => []
 | i::r=>match lk l i with
  | some o=>if r.contains i then restr l r else (i,o)::restr l r
  | none=>restr l r
theorem restr_lk {l:List (Nat × AObj)}:∀ {r:List Nat} {j:Nat} {o:AObj},lk (restr l r) j=some o→lk l j=some o
 | [],_,_,h=>by cases h
 | i::r,j,o,h=>by
  simp only [restr] at h
  split at h
  ·rename_i o' ho
   split at h
   ·exact restr_lk h
   ·simp only [lk] at h
    split at h
    ·rename_i e;subst e;cases h;exact ho
    ·exact restr_lk h
  ·exact restr_lk h
theorem ro_fin {h h1:Hp} {args l:List AV} {r r':AV} {rs:List ARes} {fr:List AV} (hro:roB h args r h1=some r') (hl:resVs fr (lk h1.l) rs=some l) (hp:r=packV l):(∃ l' σ q h2,resVs fr (lk h1.l) rs=some l'∧Weak P σ [packV l'] h1 [q] h2∧Keeps h.next σ∧h.next≤h2.next∧q=r'∧h2=⟨h.l,h.next⟩)∧tidyB (h.l.map (·.1)) h.next h.l=true∧args.all (namesB (h.l.map (·.1)) 9)=true∧RnV (fun j i=>i=j∧i ∈ h.l.map (·.1)) r' r':=by
 simp only [roB] at hro
 split at hro
 ·rename_i hb
  simp only [Bool.and_eq_true,decide_eq_true_eq] at hb
  obtain ⟨⟨⟨ht,hargs⟩,hsame⟩,hnx⟩:=hb
  have hs:SubH id h1 ⟨h.l,h.next⟩:=fun i o hi=>by
   obtain ⟨cs,_,h2⟩:=sameB_lk hsame _ (lk_in hi)
   exact ⟨_,h2⟩
  have hlt':∀ j ∈ h.l.map (·.1),j < h.next:=fun j hj=>by obtain ⟨o2,ho2⟩:=lk_key hj;exact (tidyB_lk ht j o2 ho2).1
  have hkey:WkV P id h1 ⟨h.l,h.next⟩ r r'∧RnV (fun j i=>i=j∧i ∈ h.l.map (·.1)) r' r':=by
   split at hro
   ·rename_i hnm
    cases hro
    exact ⟨names_wk (rd:=h.l.map (·.1)) hs hlt' 9 r hnm,names_rn (fun i hi=>⟨rfl,hi⟩) 9 r hnm⟩
   ·split at hro
    ·rename_i r1 rd' hf
     split at hro
     ·rename_i hd
      cases hro
      refine ⟨?_,rn_plain (frzV_plain 9 _ _ _ hf)⟩
      intro c v hR hm hr
      have hfz:Frz c (c.ren id ⟨h.l,h.next⟩) rd' (lk h1.l):=by
       refine ⟨rfl,fun b hb=>⟨hb.1,fun i o hi=>?_,hb.3⟩,fun i hi o ho=>⟨(hR.obj i o ho).lt,fun j o' hj e=>?_,hR.nohid i o ho⟩,fun i _=>by rw [hm.at_]⟩
       ·obtain ⟨o',ho'⟩:=hs i o hi;exact hb.2 i o' (by rw [hm.at_];exact ho')
       ·obtain ⟨o'',ho''⟩:=hs j o' hj
        have hij:j=i:=hR.inj j i o'' o (by rw [hm.at_];exact ho'') ho e
        have h1:=List.all_eq_true.1 hd i hi
        simp only [Bool.not_eq_true',List.contains_eq_mem,decide_eq_false_iff_not] at h1
        exact h1 (List.mem_map.2 ⟨_,lk_in hj,hij⟩)
      exact (frz_sound hfz hR 9 r r' rd' hf fun i hi=>hi).1 v hr
     ·cases hro
    ·cases hro
  refine ⟨⟨l,id,r',⟨h.l,h.next⟩,hl,weak_of (fun i j o o' _ _ e=>e) ⟨by rw [← hp];exact hkey.1,trivial⟩ ?_,fun _ _=>rfl,Nat.le_refl _,rfl,rfl⟩,ht,hargs,hkey.2⟩
  have : ∀ l':List (Nat × AObj),(∀ q ∈ l',q ∈ h.l)→WkO P id h1 ⟨h.l,h.next⟩ l':=by
   intro l'
   induction l' with
   | nil=>intro _;trivial
   | cons q l' ih =>
    intro hq
    have hqm:=hq q (List.mem_cons_self ..)
    obtain ⟨cs,e1,e2⟩:=sameB_lk hsame q hqm
    obtain ⟨i,o⟩:=q
    dsimp only at e1 e2
    subst e1
    have hlk:∃ o,lk h.l i=some o:=lk_key (List.mem_map.2 ⟨_,hqm,rfl⟩)
    obtain ⟨o,ho⟩:=hlk
    have hlt:=(tidyB_lk ht i o ho).1
    exact wko_cells hlt e2 (wkl_all fun x hx=>names_wk (rd:=h.l.map (·.1)) hs hlt' 9 x (tidyB_mem ht hqm x hx)) (ih fun q hq'=>hq q (List.mem_cons_of_mem _ hq'))
  exact this h.l fun q hq=>hq
 ·cases hro
end
end Go.Am
namespace Go.Am
abbrev CallF:=AV→List AV→Hp→Option (AV × Hp)
abbrev CallP:=Nat→List AV→Hp→Option (AV × List Nat)
def stepE (cl:CallF) (G:Gl) (o:AOp) (fr:List AV) (h:Hp):Option (AV × Hp) :=
 match o with
 | .call f args=>match ax G fr f,valsV (ax G fr) args with
  | some fv,some avs=>cl fv avs h
  | _,_=>none
 | .eqn ng x=>match ax G fr x with
  | some (.isl (_::_))=>some (.bool (if ng then !false else false),h.app [])
  | some (.sl _ _ _ _ _)=>some (.bool (if ng then !false else false),h.app [])
  | _=>none
 | o=>match evalA (ax G fr) (lk h.l) h.next o with
  | some (v,up,_)=>some (v,h.app up)
  | none=>none
def runSE (cl:CallF) (G:Gl):List AOper→List AV→Hp→Option (List AV × Hp)
 | [],fr,h=>some (fr,h)
 | o::os,fr,h=>match o.guard with
  | none=>match stepE cl G o.op fr h with
   | some (v,h')=>runSE cl G os (setO fr o.dst v) h'
   | none=>none
  | some (t,b)=>match (fr[t]?).bind gval with
   | some (some p)=>if p=b then (match stepE cl G o.op fr h with
     | some (v,h')=>runSE cl G os (setO fr o.dst v) h'
     | none=>none) else runSE cl G os (setO fr o.dst (.tup [])) h
   | some none=>runSE cl G os (setO fr o.dst (.tup [])) h
   | none=>none
def stepDE (cp:CallP) (G:Gl) (o:AOp) (fr:List AV) (h:Hp):Option (AV × Up × List Nat) :=
 match o with
 | .call f args=>match ax G fr f,valsV (ax G fr) args with
  | some (.fn g fs cs),some avs=>(cp g (fs++avs++cs) h).map fun r=>(r.1,[],r.2)
  | _,_=>none
 | o=>evalA (ax G fr) (lk h.l) h.next o
def wantE (fr:List AV) (o:AOper):Option Bool:=match o.guard with
 | none=>some true
 | some (t,b)=>match (fr[t]?).bind gval with
  | some p=>some (p == some b)
  | none=>none
def runDE (cl:CallF) (cp:CallP) (G:Gl) (anc:List (List Nat)) (n:Nat):List AOper→Nat→Nat→List Ent→List AV→Hp→Option (List AV × Hp)
 | [],_,b,log,fr,h=>if chk anc b log then some (fr,h) else none
 | o::os,k,b,log,fr,h =>
  if o.op.isCall && pivot anc n k then
   if chk anc b log then match wantE fr o with
    | some true=>match stepE cl G o.op fr h with
     | some (v,h')=>runDE cl cp G anc n os (k+1) (k+1) [] (setO fr o.dst v) h'
     | none=>none
    | some false=>runDE cl cp G anc n os (k+1) (k+1) [] (setO fr o.dst (.tup [])) h
    | none=>none
   else none
  else match wantE fr o with
   | some true=>match stepDE cp G o.op fr h with
    | some (v,up,rd)=>runDE cl cp G anc n os (k+1) b (log++[entOf o true up rd]) (setO fr o.dst v) (h.appD up)
    | none=>none
   | some false=>runDE cl cp G anc n os (k+1) b (log++[entOf o false [] []]) (setO fr o.dst (.tup [])) (h.appD [])
   | none=>none
def inLoopB (h:Hp):Option Nat→Bool
 | none=>true
 | some l=>match lk h.l l with
  | some (.loop ..)=>true
  | _=>false
def exec (fok:Nat→Bool) (cl:CallF) (cp:CallP) (G:Gl) (rd:Option Nat) (N:Nat):Nat→ACode→List AV→Hp→Option (Exit × List AV × Hp)
 | 0,_,_,_=>none
 | n+1,c,fr,h=>match c with
  | .skip=>some (.normal,fr,h)
  | .reg ops=>match runSE cl G ops fr h with
   | some (fr',h')=>some (.normal,fr',h')
   | none=>none
  | .regD ops pre=>if ordOk pre 0 then match runDE cl cp G (ancs pre) pre.length ops 0 0 [] fr h with
   | some (fr',h')=>some (.normal,fr',h')
   | none=>none
   else none
  | .seq a b=>match exec fok cl cp G rd N n a fr h with
   | some (.normal,fr',h')=>exec fok cl cp G rd N n b fr' h'
   | r=>r
  | .cond c a b=>match ax G fr c with
   | some (.bool true)=>exec fok cl cp G rd N n a fr h
   | some (.bool false)=>exec fok cl cp G rd N n b fr h
   | _=>none
  | .block id c=>match exec fok cl cp G rd N n c fr h with
   | some (.exit j,fr',h')=>if j=id then some (.normal,fr',h') else some (.exit j,fr',h')
   | r=>r
  | .loop c=>if N≤h.next then match exec fok cl cp G rd N n c fr h with
   | some (.normal,fr',h')=>exec fok cl cp G rd N n (.loop c) fr' h'
   | r=>r
   else none
  | .rangeF f ps as bd=>match ax G fr f with
   | some (.fn g fs cs)=>if (fok g && inLoopB h rd)=true then
     match cl (.fn g fs cs) [.yld h.next] ⟨put h.l h.next (some (.loop .ready none fr ps as bd)),h.next+1⟩ with
     | some (_,h2)=>match lk h2.l h.next with
      | some (.loop .busy _ _ _ _ _)=>none
      | some (.loop _ none fr' ps' as' bd')=>some (.normal,fr,⟨put h2.l h.next (some (.loop .exhausted none fr' ps' as' bd')),h2.next⟩)
      | some (.loop _ (some (.exit id)) fr' ps' as' bd')=>some (.exit id,fr,⟨put h2.l h.next (some (.loop .exhausted (some (.exit id)) fr' ps' as' bd')),h2.next⟩)
      | some (.loop _ (some .ret) fr' ps' as' bd')=>some (.ret,fr,⟨put h2.l h.next (some (.loop .exhausted (some .ret) fr' ps' as' bd')),h2.next⟩)
      | _=>none
     | none=>none
    else none
   | _=>none
  | .exit id=>some (.exit id,fr,h)
  | .ret=>some (.ret,fr,h)
inductive FnE where
 | code (ac:ACode) (rs:List ARes) (k:Nat)
 | orc (F:List AV→Hp→Option (AV × Hp))
def FnE.isCode:Option FnE→Bool
 | some (.code _ _ _)=>true
 | _=>false
abbrev Tab:=Nat→Option FnE
def resE (rs:List ARes) (N:Nat):Option (Exit × List AV × Hp)→Option (AV × Hp)
 | some (.normal,fr,h)=>if N≤h.next then match resVs fr (lk h.l) rs with|some l=>some (packV l,h)|none=>none else none
 | some (.ret,fr,h)=>if N≤h.next then match resVs fr (lk h.l) rs with|some l=>some (packV l,h)|none=>none else none
 | _=>none
def roundE (l:Nat):Option (Exit × List AV × Hp)→Option (AV × Hp)
 | some (e,_,h)=>match lk h.l l with
  | some (.loop .busy _ fr ps as bd)=>match e with
   | .normal=>some (.bool true,⟨put h.l l (some (.loop .ready none fr ps as bd)),h.next⟩)
   | .ret=>some (.bool false,⟨put h.l l (some (.loop .done (some .ret) fr ps as bd)),h.next⟩)
   | .exit id=>some (.bool false,⟨put h.l l (some (.loop .done (some (.exit id)) fr ps as bd)),h.next⟩)
   | _=>none
  | _=>none
 | none=>none
def pureE (isC:Nat→Bool) (cl:CallF):CallP:=fun g avs h=>if isC g then match frzL (frzV 9 (lk h.l)) avs with
 | some (avs',rd)=>match cl (.fn g [] []) avs' ⟨[],0⟩ with
  | some (r,h0)=>if scalB 9 r || (rd.isEmpty && plainB 9 r) then some (r,rd) else match (if rd.isEmpty then frzV 9 (lk h0.l) r else none) with
   | some (r',_)=>some (r',[])
   | none=>match cl (.fn g [] []) avs ⟨restr h.l rd,h.next⟩ with
    | some (r,h1)=>(roB ⟨restr h.l rd,h.next⟩ avs r h1).map fun r'=>(r',(restr h.l rd).map (·.1))
    | none=>none
  | none=>none
 | none=>none
 else none
def callE (T:Tab) (G:Gl):Nat→CallF
 | 0,_,_,_=>none
 | n+1,fv,args,h =>
  let cp:CallP:=pureE (fun g=>FnE.isCode (T g)) (callE T G n)
  let fok:Nat→Bool:=fun g=>FnE.isCode (T g)
  match fv with
  | .fn f fs cs=>match T f with
   | some (.code ac rs k)=>resE rs h.next (exec fok (callE T G n) cp G none h.next n ac ((fs++args++cs)++List.replicate (k - (fs++args++cs).length) .undef) h)
   | some (.orc F)=>F (fs++args++cs) h
   | none=>none
  | .yld l=>match lk h.l l with
   | some (.loop .ready _ fr ps as bd)=>if args.length=ps.length then match exec fok (callE T G n) cp G (some l) h.next n as (setPs fr ps args) h with
    | some (.normal,fr1,h1)=>match lk h1.l l with
     | some (.loop .ready pend fr' ps' as' bd')=>roundE l (exec fok (callE T G n) cp G (some l) h.next n bd fr1 ⟨put h1.l l (some (.loop .busy pend fr' ps' as' bd')),h1.next⟩)
     | _=>none
    | _=>none
    else none
   | _=>none
  | _=>none
end Go.Am
namespace Go.Am
section
variable {P:Program} {G:Gl}
theorem cx_ren_id {c:Cx} {h:Hp} (hm:Mat c h):c.ren id h=c:=by
 obtain ⟨U,at_,mu,w,hid⟩:=c
 have h1:U=fun i=>i < h.next:=funext fun i=>propext (hm.U i)
 have h2:at_=lk h.l:=hm.at_
 subst h1;subst h2
 rfl
theorem weak_refl {fr:List AV} {h:Hp}:Weak P id fr h fr h:=fun c tmps hR hm hF=>by
 rw [cx_ren_id hm]
 exact ⟨hR,hF,fun i o hi=>⟨o,hi⟩⟩
def CallSnd (P:Program) (G:Gl) (cl:CallF):Prop:=∀ fv args h r h',cl fv args h=some (r,h')→∀ K:AV→Hp→Prop,K r h'→CallV P G fv args h K
def PureSnd (P:Program) (G:Gl) (cp:CallP):Prop:=∀ g avs h r rd,cp g avs h=some (r,rd)→∀ id,FnU P G g avs rd (lk h.l) r [] id
theorem stepE_sound {cl:CallF} (hcl:CallSnd P G cl) {o:AOp} {fr:List AV} {h h':Hp} {v:AV} {K:AV→Hp→Prop} (he:stepE cl G o fr h=some (v,h')) (hK:K v h'):stepA P G o fr h K:=by
 cases o
 case call f args =>
  simp only [stepE] at he
  split at he
  ·rename_i fv avs h1 h2;exact ⟨fv,avs,h1,h2,hcl _ _ _ _ _ he K hK⟩
  ·cases he
 case eqn ng x =>
  simp only [stepE] at he
  split at he
  ·rename_i h1;cases he;exact ⟨_,h1,hK⟩
  ·rename_i h1;cases he;exact ⟨_,h1,hK⟩
  ·cases he
 all_goals
  simp only [stepE] at he
  split at he
  ·rename_i v' up rd hv
   cases he
   exact ⟨_,_,_,hv,hK⟩
  ·cases he
theorem runSE_sound {cl:CallF} (hcl:CallSnd P G cl) {Q:List AV→Hp→Prop} {fr':List AV} {h':Hp} (hQ:Q fr' h'):∀ (os:List AOper) (fr:List AV) (h:Hp),runSE cl G os fr h=some (fr',h')→runS P G os Q fr h
 | [],fr,h,he=>by cases he;exact hQ
 | o::os,fr,h,he=>by
  simp only [runSE] at he
  simp only [runS]
  have step:∀ {x:Option (AV × Hp)},x=stepE cl G o.op fr h→(match x with|some (v,h')=>runSE cl G os (setO fr o.dst v) h'|none=>none)=some (fr',h')→stepA P G o.op fr h fun v h'=>runS P G os Q (setO fr o.dst v) h':=fun {x} hx he=>by
   match x,hx,he with
   | some (v,h1),hx,he=>exact stepE_sound hcl hx.symm (runSE_sound hcl hQ os _ _ he)
  split at he
  ·rename_i hg
   rw [hg]
   exact step rfl he
  ·rename_i t b hg
   rw [hg]
   dsimp only
   split at he
   ·rename_i p hp
    refine ⟨some p,hp,fun e=>?_,fun e=>?_⟩
    ·rw [if_pos (by simpa using e)] at he;exact step rfl he
    ·rw [if_neg (by simpa using e)] at he;exact runSE_sound hcl hQ os _ _ he
   ·rename_i hp
    exact ⟨none,hp,fun e=>(by cases e),fun _=>runSE_sound hcl hQ os _ _ he⟩
   ·cases he
theorem stepDE_sound {cp:CallP} (hcp:PureSnd P G cp) {o:AOp} {fr:List AV} {h:Hp} {v:AV} {up:Up} {rd:List Nat} (he:stepDE cp G o fr h=some (v,up,rd)):StepD P G o fr (lk h.l) h.next v up rd:=by
 cases o
 case call f args =>
  simp only [stepDE] at he
  split at he
  ·rename_i g fs cs avs h1 h2
   simp only [Option.map_eq_some_iff] at he
   obtain ⟨⟨r,rd'⟩,hr,e⟩:=he
   cases e
   exact ⟨g,fs,cs,avs,h1,h2,hcp _ _ _ _ _ hr _⟩
  ·cases he
 all_goals exact he
theorem wantE_sound {fr:List AV} {o:AOper} {w:Bool} {A B:Prop} (hw:wantE fr o=some w) (ha:w=true→A) (hb:w=false→B):guardD o fr A B:=by
 unfold wantE at hw
 unfold guardD
 split at hw
 ·rename_i hg;rw [hg];cases hw;exact ha rfl
 ·rename_i t b hg
  rw [hg]
  dsimp only
  split at hw
  ·rename_i p hp
   cases hw
   refine ⟨p,hp,fun e=>ha (by simp [e]),fun e=>hb (by simpa using e)⟩
  ·cases hw
theorem runDE_sound {cl:CallF} {cp:CallP} (hcl:CallSnd P G cl) (hcp:PureSnd P G cp) {anc:List (List Nat)} {n:Nat} {Q:List AV→Hp→Prop} {fr':List AV} {h':Hp} (hQ:Q fr' h'):∀ (os:List AOper) (k b:Nat) (log:List Ent) (fr:List AV) (h:Hp),runDE cl cp G anc n os k b log fr h=some (fr',h')→runD P G anc n os k b log Q fr h
 | [],k,b,log,fr,h,he=>by
  simp only [runDE] at he
  split at he
  ·rename_i hc;cases he;exact ⟨hc,hQ⟩
  ·cases he
 | o::os,k,b,log,fr,h,he=>by
  simp only [runDE] at he
  simp only [runD]
  split at he
  ·rename_i hp
   rw [if_pos hp]
   split at he
   ·rename_i hc
    refine ⟨hc,?_⟩
    split at he
    ·rename_i hw
     refine wantE_sound hw (fun _=>?_) (fun e=>by cases e)
     split at he
     ·rename_i v h1 hs;exact stepE_sound hcl hs (runDE_sound hcl hcp hQ os _ _ _ _ _ he)
     ·cases he
    ·rename_i hw
     exact wantE_sound hw (fun e=>by cases e) fun _=>runDE_sound hcl hcp hQ os _ _ _ _ _ he
    ·cases he
   ·cases he
  ·rename_i hp
   rw [if_neg hp]
   split at he
   ·rename_i hw
    refine wantE_sound hw (fun _=>?_) (fun e=>by cases e)
    split at he
    ·rename_i v up rd hs;exact ⟨v,up,rd,stepDE_sound hcp hs,runDE_sound hcl hcp hQ os _ _ _ _ _ he⟩
    ·cases he
   ·rename_i hw
    exact wantE_sound hw (fun e=>by cases e) fun _=>runDE_sound hcl hcp hQ os _ _ _ _ _ he
   ·cases he
open Classical in
theorem exec_sound {fok:Nat→Bool} {cl:CallF} {cp:CallP} {rd:Option Nat} {N:Nat} (hfok:∀ g,fok g=true→fnOk P g=true) (hcl:CallSnd P G cl) (hcp:PureSnd P G cp) :
  ∀ (n:Nat) (c:ACode) (fr:List AV) (h:Hp) (e:Exit) (fr':List AV) (h':Hp) (Q:Exit→List AV→Hp→Prop),exec fok cl cp G rd N n c fr h=some (e,fr',h')→Q e fr' h'→wpc P G rd N c Q fr h:=by
 intro n
 induction n using Nat.strongRecOn with
 | _ n ih =>
 intro c fr h e fr' h' Q he hQ
 cases n with
 | zero=>simp only [exec] at he;cases he
 | succ n =>
 cases c with
 | skip=>simp only [exec] at he;cases he;exact hQ
 | exit id=>simp only [exec] at he;cases he;exact hQ
 | ret=>simp only [exec] at he;cases he;exact hQ
 | reg ops =>
  simp only [exec] at he
  split at he
  ·rename_i fr1 h1 hr;cases he;exact runSE_sound hcl hQ ops fr h hr
  ·cases he
 | regD ops pre =>
  simp only [exec] at he
  split at he
  ·rename_i ho
   split at he
   ·rename_i fr1 h1 hr;cases he;exact ⟨ho,runDE_sound hcl hcp hQ ops 0 0 [] fr h hr⟩
   ·cases he
  ·cases he
 | seq a b =>
  simp only [exec] at he
  split at he
  ·rename_i fr1 h1 hr
   exact ih n (Nat.lt_succ_self n) a fr h _ _ _ _ hr (ih n (Nat.lt_succ_self n) b fr1 h1 _ _ _ _ he hQ)
  ·rename_i hne
   refine ih n (Nat.lt_succ_self n) a fr h e fr' h' _ he ?_
   cases e<;>first|exact hQ|exact absurd he (hne _ _)
 | cond c a b =>
  simp only [exec] at he
  split at he
  ·rename_i hc;exact ⟨true,hc,fun _=>ih n (Nat.lt_succ_self n) a fr h _ _ _ _ he hQ,fun e=>by cases e⟩
  ·rename_i hc;exact ⟨false,hc,(fun e=>by cases e),fun _=>ih n (Nat.lt_succ_self n) b fr h _ _ _ _ he hQ⟩
  ·cases he
 | block id c =>
  simp only [exec] at he
  show wpc P G rd N c (blockQ id Q) fr h
  split at he
  ·rename_i j fr1 h1 hr
   refine ih n (Nat.lt_succ_self n) c fr h _ _ _ _ hr ?_
   split at he
   ·rename_i hj;cases he;simp only [blockQ,if_pos hj];exact hQ
   ·rename_i hj;cases he;simp only [blockQ,if_neg hj];exact hQ
  ·rename_i hne
   refine ih n (Nat.lt_succ_self n) c fr h e fr' h' _ he ?_
   cases e<;>first|exact hQ|exact absurd he (hne _ _ _)
 | loop c =>
  let ok:Nat→List AV→Hp→Prop:=fun k fr1 h1=>k≤n+1∧exec fok cl cp G rd N k (.loop c) fr1 h1=some (e,fr',h')
  let mu:List AV→Hp→Nat:=fun fr1 h1=>if hh:∃ k,ok k fr1 h1 then Classical.choose (least hh) else 0
  have hmu:∀ fr1 h1 (hh:∃ k,ok k fr1 h1),ok (mu fr1 h1) fr1 h1∧∀ k,ok k fr1 h1→mu fr1 h1≤k:=fun fr1 h1 hh=>by
   have:=Classical.choose_spec (least hh)
   simp only [mu,dif_pos hh]
   exact this
  have hN:∀ k fr1 h1,ok k fr1 h1→N≤h1.next:=fun k fr1 h1 hk=>by
   obtain ⟨_,hk⟩:=hk
   cases k with
   | zero=>simp only [exec] at hk;cases hk
   | succ k =>
    simp only [exec] at hk
    split at hk
    ·assumption
    ·cases hk
  have h0:ok (n+1) fr h:=⟨Nat.le_refl _,he⟩
  refine ⟨fun fr1 h1=>∃ k,ok k fr1 h1,mu,⟨id,fr,h,weak_refl,fun _ _=>rfl,hN _ _ _ h0,n+1,h0⟩,fun fr1 h1 hI=>?_⟩
  obtain ⟨hok,hmin⟩:=hmu fr1 h1 hI
  generalize hk:mu fr1 h1=k at hok hmin ⊢
  obtain ⟨hle,hex⟩:=hok
  cases k with
  | zero=>simp only [exec] at hex;cases hex
  | succ k =>
   simp only [exec] at hex
   split at hex
   ·rename_i hN1
    split at hex
    ·rename_i fr2 h2 hr
     have hok2:ok k fr2 h2:=⟨by omega,hex⟩
     refine ih k (by omega) c fr1 h1 _ _ _ _ hr ⟨id,fr2,h2,weak_refl,fun _ _=>rfl,hN _ _ _ hok2,⟨k,hok2⟩,?_⟩
     have:=(hmu fr2 h2 ⟨k,hok2⟩).2 k hok2
     omega
    ·rename_i hne
     refine ih k (by omega) c fr1 h1 e fr' h' _ hex ?_
     cases e<;>first|exact hQ|exact absurd hex (hne _ _)
   ·cases hex
 | rangeF f ps as bd =>
  simp only [exec] at he
  split at he
  ·rename_i g fs cs hf
   split at he
   ·rename_i hg
    simp only [Bool.and_eq_true] at hg
    obtain ⟨hg,hin⟩:=hg
    split at he
    ·rename_i x h2 hcall
     refine ⟨g,fs,cs,hf,hfok g hg,?_,hcl _ _ _ _ _ hcall _ ?_⟩
     ·cases rd with
      | none=>trivial
      | some l =>
       simp only [inLoopB] at hin
       split at hin
       ·rename_i hl;exact ⟨_,_,_,_,_,_,hl⟩
       ·cases hin
     ·split at he
      ·cases he
      ·rename_i st fr1 ps1 as1 bd1 hne hl
       cases he
       refine ⟨st,none,fr1,ps1,as1,bd1,hl,?_,hQ⟩
       intro e0;subst e0;first|exact hne|exact hne rfl|exact hne _ _ _ _ _ hl|simp_all
      ·rename_i st id fr1 ps1 as1 bd1 hne hl
       cases he
       refine ⟨st,_,fr1,ps1,as1,bd1,hl,?_,hQ⟩
       intro e0;subst e0;first|exact hne|exact hne rfl|exact hne _ _ _ _ _ hl|simp_all
      ·rename_i st fr1 ps1 as1 bd1 hne hl
       cases he
       refine ⟨st,_,fr1,ps1,as1,bd1,hl,?_,hQ⟩
       intro e0;subst e0;first|exact hne|exact hne rfl|exact hne _ _ _ _ _ hl|simp_all
      ·cases he
    ·cases he
   ·cases he
  ·cases he
theorem resE_sound {rs:List ARes} {N:Nat} {x:Option (Exit × List AV × Hp)} {r:AV} {h':Hp} (he:resE rs N x=some (r,h')):∃ e fr l,x=some (e,fr,h')∧(e = .normal∨e = .ret)∧N≤h'.next∧resVs fr (lk h'.l) rs=some l∧r=packV l:=by
  unfold resE at he
  split at he
  all_goals first
    | (split at he
       · rename_i hN
         split at he
         · rename_i l hl;cases he;exact ⟨_,_,l,rfl,by simp,hN,hl,rfl⟩
         · cases he
       · cases he)
    | cases he
def tabOk (P:Program) (T:Tab):Prop:=∀ f ac rs k,T f=some (.code ac rs k)→Body P f ac rs k
def orcOk (P:Program) (G:Gl) (T:Tab):Prop:=∀ f F,T f=some (.orc F)→∀ fs args cs h r h',F (fs++args++cs) h=some (r,h')→∀ K:AV→Hp→Prop,K r h'→CallV P G (.fn f fs cs) args h K
theorem callE_body {T:Tab} {n g:Nat} {avs:List AV} {h h1:Hp} {r:AV} (hc:FnE.isCode (T g)=true) (he:callE T G (n+1) (.fn g [] []) avs h=some (r,h1)):∃ ac rs k e fr l,T g=some (.code ac rs k)∧exec (fun g=>FnE.isCode (T g)) (callE T G n) (pureE (fun g=>FnE.isCode (T g)) (callE T G n)) G none h.next n ac (avs++List.replicate (k - avs.length) .undef) h=some (e,fr,h1)∧(e = .normal∨e = .ret)∧h.next≤h1.next∧resVs fr (lk h1.l) rs=some l∧r=packV l:=by
 simp only [callE] at he
 split at he
 ·rename_i ac rs k hf
  obtain ⟨e,fr,l,hx,hen,hN,hl,rfl⟩:=resE_sound he
  simp only [List.nil_append,List.append_nil] at hx
  exact ⟨ac,rs,k,e,fr,l,hf,hx,hen,hN,hl,rfl⟩
 ·rename_i F hf;rw [hf] at hc;cases hc
 ·cases he
theorem tab_fok {T:Tab} (hT:tabOk P T):∀ g,FnE.isCode (T g)=true→fnOk P g=true:=fun g hg=>by
 generalize e:T g=x at hg
 match x,e,hg with
 | some (.code ac rs k),e,_=>exact (hT _ _ _ _ e).ok
theorem callE_pureW (hmix:P.follows .mixedOrders=true) {T:Tab} (hT:tabOk P T) (hG:PlainG G) {n:Nat} (h1:CallSnd P G (callE T G n)) (h2:PureSnd P G (pureE (fun g=>FnE.isCode (T g)) (callE T G n))) {g:Nat} {avs:List AV} {r r':AV} {h0:Hp} (hc:FnE.isCode (T g)=true) (he:callE T G (n+1) (.fn g [] []) avs ⟨[],0⟩=some (r,h0)) (ha:∀ x ∈ avs,Plain x) (hr:Plain r')
  (hw:WkV P id h0 ⟨[],0⟩ r r'):PureC P G g avs r':=by
 obtain ⟨ac,rs,k,e,fr,l,hf,hx,hen,hN,hl,rfl⟩:=callE_body hc he
 intro at_ id
 refine fnU_pure hmix (hT _ _ _ _ hf) hG ha hr (exec_sound (tab_fok hT) h1 h2 n _ _ _ _ _ _ _ hx ?_)
 have key:∃ l' σ q h',resVs fr (lk h0.l) rs=some l'∧Weak P σ [packV l'] h0 [q] h'∧Keeps 0 σ∧0≤h'.next∧q=r'∧h'.l=[] :=
  ⟨l,_root_.id,r',⟨[],0⟩,hl,weak_of (fun i j o o' hi=>by cases hi) ⟨hw,trivial⟩ trivial,fun _ _=>rfl,Nat.le_refl _,rfl,rfl⟩
 rcases hen with rfl|rfl<;>exact key
theorem wk_frzV {d:Nat} {h0:Hp} {r r':AV} {rd:List Nat} (hf:frzV d (lk h0.l) r=some (r',rd)):WkV P id h0 ⟨[],0⟩ r r':=fun c v hR hm hr=>by
 have hfz:Frz c (c.ren id ⟨[],0⟩) rd (lk h0.l):=⟨rfl,fun b hb=>⟨hb.1,fun i o hi=>(by cases hi),hb.3⟩,fun i hi o ho=>⟨(hR.obj i o ho).lt,fun j o' hj=>(by cases hj),hR.nohid i o ho⟩,fun i _=>by rw [hm.at_]⟩
 exact (frz_sound hfz hR d r r' rd hf fun i hi=>hi).1 v hr
theorem wk_plain0 {h0:Hp} {r:AV} (hr:Plain r):WkV P id h0 ⟨[],0⟩ r r:=wk_plain (fun i o hi=>by cases hi) hr
theorem frzL_plain {d:Nat} {at_:At} {avs avs':List AV} {rd:List Nat} (hf:frzL (frzV d at_) avs=some (avs',rd)):∀ x ∈ avs',Plain x:=fun z hz=>by
 obtain ⟨j,hj⟩:=List.mem_iff_getElem?.1 hz
 obtain ⟨x',a,q1,q2,q3⟩:=(frzL_spec hf).2 j z hj
 exact frzV_plain _ _ _ _ q2
theorem pure_snd (hmix:P.follows .mixedOrders=true) {T:Tab} (hT:tabOk P T) (hG:PlainG G) {n:Nat} (h1:CallSnd P G (callE T G n)) (h2:PureSnd P G (pureE (fun g=>FnE.isCode (T g)) (callE T G n))):PureSnd P G (pureE (fun g=>FnE.isCode (T g)) (callE T G (n+1))):=fun g avs h r rd hr id=>by
 simp only [pureE] at hr
 split at hr
 case isFalse=>cases hr
 rename_i hc
 split at hr
 ·rename_i avs' rd1 hfz
  have hpl:=frzL_plain hfz
  split at hr
  ·rename_i r0 h0 he
   split at hr
   ·rename_i hb
    cases hr
    simp only [Bool.or_eq_true,Bool.and_eq_true,List.isEmpty_iff] at hb
    by_cases hs:scalB 9 r=true
    ·have hsc:=scalB_scal 9 r hs
     have hp:Plain r:=fun c c' v _=>hsc c c' v
     exact fnU_frz (callE_pureW hmix hT hG h1 h2 hc he hpl hp (wk_plain0 hp)) hG hfz hsc
    ·obtain ⟨hrd,hp⟩:=hb.resolve_left hs
     subst hrd
     have hp:=plainB_plain 9 r hp
     exact fnU_frz0 (callE_pureW hmix hT hG h1 h2 hc he hpl hp (wk_plain0 hp)) hG hfz hp
   ·split at hr
    ·rename_i r' rd' hf
     split at hf
     ·rename_i hrd
      cases hr
      rw [List.isEmpty_iff] at hrd
      subst hrd
      have hp:=frzV_plain 9 _ _ _ hf
      exact fnU_frz0 (callE_pureW hmix hT hG h1 h2 hc he hpl hp (wk_frzV hf)) hG hfz hp
     ·cases hf
    ·split at hr
     ·rename_i r1 h3 he3
      simp only [Option.map_eq_some_iff] at hr
      obtain ⟨r',hro,e⟩:=hr
      cases e
      obtain ⟨ac,rs,k,e,fr,l,hf,hx,hen,hN,hl,hpk⟩:=callE_body hc he3
      obtain ⟨key,ht,hn,hp⟩:=ro_fin (P:=P) hro hl hpk
      refine fnU_ro (loc_of hmix (hT _ _ _ _ hf) (exec_sound (tab_fok hT) h1 h2 n _ _ _ _ _ _ _ hx ?_)) hG (roIn_id (fun _ _=>restr_lk) ht) (rnl_all fun x hx=>names_rn (fun i hi=>⟨rfl,hi⟩) 9 x (List.all_eq_true.1 hn x hx)) hp
      rcases hen with rfl|rfl<;>exact key
     ·cases hr
  ·cases hr
 ·cases hr
theorem callE_sound (hmix:P.follows .mixedOrders=true) {T:Tab} (hT:tabOk P T) (hO:orcOk P G T) (hG:PlainG G):∀ n:Nat,CallSnd P G (callE T G n)∧PureSnd P G (pureE (fun g=>FnE.isCode (T g)) (callE T G n)):=by
 intro n
 induction n with
 | zero =>
  refine ⟨fun _ _ _ _ _ h=>by simp [callE] at h,fun g avs h r rd hr=>?_⟩
  simp only [pureE] at hr
  split at hr
  ·split at hr
   ·simp only [callE] at hr;cases hr
   ·cases hr
  ·cases hr
 | succ n ih =>
 obtain ⟨ih1,hcp⟩:=ih
 have hfok:=tab_fok hT
 refine ⟨fun fv args h r h' he K hK=>?_,pure_snd hmix hT hG ih1 hcp⟩
 ·simp only [callE] at he
  split at he
  ·rename_i f fs cs
   split at he
   ·rename_i ac rs k hf
    obtain ⟨e,fr,l,hx,hen,hN,hl,rfl⟩:=resE_sound he
    refine callV_body hmix (hT _ _ _ _ hf) (exec_sound hfok ih1 hcp n _ _ _ _ _ _ _ hx ?_)
    rcases hen with rfl|rfl<;>exact ⟨l,id,_,_,hl,weak_refl,fun _ _=>rfl,hN,hK⟩
   ·rename_i F hf;exact hO _ _ hf _ _ _ _ _ _ he K hK
   ·cases he
  ·rename_i l
   split at he
   ·rename_i pend fr ps as bd hl
    split at he
    ·rename_i hlen
     split at he
     ·rename_i fr1 h1 hx
      split at he
      ·rename_i pend1 fr2 ps2 as2 bd2 hl1
       refine callV_yld hmix hl hlen (exec_sound hfok ih1 hcp n _ _ _ _ _ _ _ hx ⟨rfl,pend1,fr2,ps2,as2,bd2,hl1,?_⟩)
       generalize hy:exec _ _ _ _ _ _ _ _ _ _=y at he
       match y,he,hy with
       | some (e3,fr3,h3),he,hy =>
        refine exec_sound hfok ih1 hcp n _ _ _ _ _ _ _ hy ?_
        simp only [roundE] at he
        split at he
        ·rename_i pend3 fr4 ps4 as4 bd4 hl3
         refine ⟨pend3,fr4,ps4,as4,bd4,hl3,?_⟩
         split at he<;>first|(cases he;exact hK)|cases he
        ·cases he
      ·cases he
     ·cases he
    ·cases he
   ·cases he
  ·cases he
end
end Go.Am
namespace Go.Am
def findT (f:Nat):List (Nat × ACode × List ARes × Nat)→Option FnE
 | []=>none
 | (g,ac,rs,n)::r=>if f=g then some (.code ac rs n) else findT f r
def AllT (P:Program):List (Nat × ACode × List ARes × Nat)→Prop
 | []=>True
 | (g,ac,rs,n)::r=>Body P g ac rs n∧AllT P r
theorem tabOk_of {P:Program}:∀ {L:List (Nat × ACode × List ARes × Nat)},AllT P L→tabOk P fun f=>findT f L
 | [],_=>fun f ac rs k h=>by cases h
 | (g,ac1,rs1,k1)::r,hL=>fun f ac rs k h=>by
  simp only [findT] at h
  split at h
  ·rename_i e;subst e;cases h;exact hL.1
  ·exact tabOk_of hL.2 f ac rs k h
theorem findT_code {f:Nat} {F:List AV→Hp→Option (AV × Hp)}:∀ {L:List (Nat × ACode × List ARes × Nat)},findT f L ≠ some (.orc F)
 | [],h=>by cases h
 | (g,ac,rs,n)::r,h=>by
  simp only [findT] at h
  split at h
  ·cases h
  ·exact findT_code h
theorem orcOk_none {P:Program} {G:Gl} {L:List (Nat × ACode × List ARes × Nat)}:orcOk P G fun f=>findT f L:=fun f F h=>absurd h findT_code
def tabWith (f:Nat) (F:List AV→Hp→Option (AV × Hp)) (T:Tab):Tab:=fun g=>if g=f then some (.orc F) else T g
theorem tabOk_with {P:Program} {f:Nat} {F:List AV→Hp→Option (AV × Hp)} {T:Tab} (hT:tabOk P T):tabOk P (tabWith f F T):=fun g ac rs k h=>by
 unfold tabWith at h
 split at h
 ·cases h
 ·exact hT g ac rs k h
theorem orcOk_with {P:Program} {G:Gl} {f:Nat} {F:List AV→Hp→Option (AV × Hp)} {T:Tab} (hT:orcOk P G T) (hF:∀ fs args cs h r h',F (fs++args++cs) h=some (r,h')→∀ K:AV→Hp→Prop,K r h'→CallV P G (.fn f fs cs) args h K):orcOk P G (tabWith f F T):=fun g F' h=>by
 unfold tabWith at h
 split at h
 ·rename_i e;subst e;cases h;exact hF
 ·exact hT g F' h
def isTrue:Option (AV × Hp)→Bool
 | some (.bool true,_)=>true
 | _=>false
theorem closed_true {P:Program} {G:Gl} (hmix:P.follows .mixedOrders=true) {T:Tab} (hT:tabOk P T) (hO:orcOk P G T) (hG:PlainG G) {n f:Nat} (hcode:FnE.isCode (T f)=true) (h:isTrue (callE T G (n+1) (.fn f [] []) [] ⟨[],0⟩)=true):PureC P G f [] (.bool true):=by
 generalize e:callE T G (n+1) (.fn f [] []) [] ⟨[],0⟩=x at h
 match x,e,h with
 | some (.bool true,h1),e,_=>exact callE_pureW hmix hT hG (callE_sound hmix hT hO hG n).1 (callE_sound hmix hT hO hG n).2 hcode e (fun x hx=>by cases hx) plain_bool (wk_plain0 plain_bool)
end Go.Am
namespace Go.Am
open Go.ChangeShapes Go.WideShapes Go.ChangeAt Go.RowKit
section
variable {P:Program} {G:Gl}
def baseCx (W:World):Cx:={ U:=fun _=>False,at_:=fun _=>none,mu:=fun _=>(0,0),w:=W,hid:=fun _=>False }
theorem base_froz {W:World} {b:Nat} (h:b < W.heap.size):(baseCx W).Froz b:=⟨h,fun _ _ h=>(by cases h),fun h=>h⟩
theorem calls_pure {f:Nat} {args:List AV} {r:AV} (hp:PureC P G f args r) {W:World} {vs:Array Value} (hG:RelG G (baseCx W)) (ha:argsR (baseCx W) args vs):Calls P f vs W fun e w'=>∃ v c',e = .returned v∧c'.w=w'∧RR c' r v∧Below W.heap.size W w':=by
 have hR:Rel P (baseCx W):=⟨fun _ _ h=>(by cases h),fun _ _ _ _ h=>(by cases h),fun _ _ h=>(by cases h),⟨0,fun _ h=>h.elim⟩,fun _ _ h=>(by cases h),fun _ h=>h.elim⟩
 refine ((hp (fun _=>none) 0).2 (baseCx W) vs hR hG (fun h=>h) (fun i hi=>by cases hi) ha).mono ?_
 rintro e w' ⟨v,c',rfl,rfl,h1,_,h2,_⟩
 exact ⟨v,c',rfl,rfl,h1,h2.env.1,h2.env.2.1,h2.env.2.2,h2.size,fun k hk=>(h2.froz k (base_froz hk)).2⟩
theorem calls_true {f:Nat} {args:List AV} (hp:PureC P G f args (.bool true)) {W:World} {vs:Array Value} (hG:RelG G (baseCx W)) (ha:argsR (baseCx W) args vs):Calls P f vs W fun e w'=>e = .returned (.bool true)∧Below W.heap.size W w' :=
 (calls_pure hp hG ha).mono fun e w' ⟨v,c',h1,_,h2,h3⟩=>⟨by rw [h1,RR_bool.1 h2],h3⟩
variable {H:Type} {enc:TypeId × Value→H}
theorem post_below {f:Func} {s:ChangeSpec} {apart fresh handsOn again:Bool} {W W':World} {args:Array Value} {v:Value} {ds gs:List (DataW H)} {before pa pv:List MemPlace}
  (hW:DataW.Whole enc P f.params.toList s.vars apart W args.toList ds gs before)
  (hres:∀ (b:Nat) (sp:Nat→Bool) (hd:Bool),DataW.TrodAll enc P W' b sp hd f.resultTypes.toList (v.resultList f.resultTypes.size) (s.fn H (ds++gs)).results [])
  (hargs:∀ sp:Nat→Bool,(∀ p ∈ before,sp p.block=true)→DataW.TrodAll enc P W' 0 sp true f.params.toList args.toList (s.fn H (ds++gs)).args pa)
  (hvars:∀ sp:Nat→Bool,(∀ p ∈ before,sp p.block=true)→DataW.TrodVars enc P W' sp s.vars (s.fn H (ds++gs)).vars pv)
  (hps:before=pa++pv) (hb:Below W.heap.size W W')
  (hok:∀ (j:Nat) (t:TypeId) (r:Value),f.resultTypes[j]? = some t→(v.resultList f.resultTypes.size)[j]? = some r→Value.okWide P W' .any 0 t r) :
  s.post enc P f apart fresh handsOn again W args v W':=by
 have hold:∀ p ∈ before,(fun b=>decide (b < W.heap.size)) p.block=true:=fun p hp=>by simpa using hW.lt p hp
 have hlt:∀ p ∈ before,p.block < W.heap.size:=hW.lt
 refine ⟨ds,gs,before,[],pa,pv,hW,hres _ _ _,hargs _ hold,hvars _ hold,hb.frame _,fun _=>?_⟩
 obtain ⟨_,_,_,_,_,hz,hn⟩:=hW
 refine ⟨hok,_,_,([]++pa)++pv,⟨[]++pa,pv,trodAll_append (hargs _ (fun _ _=>rfl)) (hres _ _ _),hvars _ (fun _ _=>rfl),rfl,?_,?_⟩,?_⟩
 ·intro b off hp
  have hm:MemPlace.cell b off ∈ before:=by rw [hps];simpa using hp
  rw [hb.frozen (p:=⟨b,off,none⟩) (hlt _ hm)]
  exact hz b off hm
 ·intro ha
  have:=hn ha
  rw [hps] at this
  simpa using this
 ·intro p hp _
  rw [hps]
  simpa using hp
end
end Go.Am
namespace Go.Am
def sets:List AV→List (Nat × AV)→List AV
 | fr,[]=>fr
 | fr,(t,v)::r=>sets (fr.set t v) r
def killA (live:List Nat):Nat→List AV→List AV
 | _, [] => []
 | k,x::r=>(if live.contains k then x else .undef)::killA live (k+1) r
section
variable {P:Program} {G:Gl} {ι:Type}
theorem loop_up {rd:Option Nat} {N:Nat} {c:ACode} {Q:Exit→List AV→Hp→Prop} {fr:List AV} {h:Hp} (live:List Nat) (ups:ι→List (Nat × AV)) (H:ι→Hp) (ok:ι→Prop) (m:ι→Nat) (i0:ι) (l:List (Nat × Nat)) (hk:keepsB N l=true) (hN:∀ i,N≤(H i).next) (h0:ok i0) (hw:Weak P (rn l) fr h (killA live 0 (sets fr (ups i0))) (H i0))
  (hr:∀ i,ok i→wpc P G rd N c (lpQ P (fun i=>killA live 0 (sets fr (ups i))) H ok m N i Q) (killA live 0 (sets fr (ups i))) (H i)):wpc P G rd N (.loop c) Q fr h :=
 loop_ix (fun i=>killA live 0 (sets fr (ups i))) H ok m i0 l hk hN h0 hw hr
end
theorem simK:(∀ live k,killA live k []=[])∧(∀ live k x r,killA live k (x::r)=(if live.contains k then x else .undef)::killA live (k+1) r)∧(∀ fr,sets fr []=fr)∧(∀ fr t v q,sets fr ((t,v)::q)=sets (fr.set t v) q):=⟨fun _ _=>rfl,fun _ _ _ _=>rfl,fun _=>rfl,fun _ _ _ _=>rfl⟩
theorem plain_all2 {x:AV} {xs:List AV} (h:Plain x) (h':∀ y ∈ xs,Plain y):∀ y ∈ x::xs,Plain y:=fun y hy=>by
 rcases List.mem_cons.1 hy with rfl|hy
 ·exact h
 ·exact h' y hy
theorem plain_all0:∀ y ∈ ([]:List AV),Plain y:=fun y hy=>by cases hy
theorem plain_map {α:Type} {f:α→AV} (hf:∀ a,Plain (f a)) {l:List α}:∀ y ∈ l.map f,Plain y:=fun y hy=>by
 obtain ⟨a,_,rfl⟩:=List.mem_map.1 hy
 exact hf a
end Go.Am
