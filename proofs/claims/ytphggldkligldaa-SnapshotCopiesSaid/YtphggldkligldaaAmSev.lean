/-
 What is only read may be taken for a value: named blocks become values,for a while or for good. No program in sight.
 A call that leaves what it is given as it was,and makes memory of its own: its result becomes a value. No program in sight.
 The abstract machine as a program that can be run: what it comes to,the model's code comes to. No program in sight.
 The abstract machine's runs are sound. No program in sight.
 Tables of functions;closed calls. No program in sight.
 From a pure contract to a row: what a call reads,as abstract values;that it leaves everything as it was. No program in sight.
 Loops told of by what turns in the frame: the other live slots stay,the dead ones are forgotten. No program in sight.
-/
import Derived.Test.YtphggldkligldaaAmSix
import Derived.ProofKit
import Derived.OpenVars
set_option linter.unusedSimpArgs false
set_option linter.unusedVariables false
namespace Go.Am
def plainB:Nat→AV→Bool
 | _,.undef=>true
 | _,.int _ _=>true
 | _,.bool _=>true
 | _,.str _=>true
 | _,.nilp=>true
 | _,.nilf=>true
 | _,.nils=>true
 | d+1,.iptr cs=>cs.all (plainB d)
 | d+1,.isl els=>els.all fun e=>e.all (plainB d)
 | d+1,.agg cs=>cs.all (plainB d)
 | d+1,.tup cs=>cs.all (plainB d)
 | d+1,.fn _ fs cs=>fs.all (plainB d) && cs.all (plainB d)
 | _,_=>false
def chunks (sz:Nat):Nat→List AV→List (List AV)
 | 0, _ => []
 | n+1,l=>l.take sz::chunks sz n (l.drop sz)
def frzL (f:AV→Option (AV × List Nat)):List AV→Option (List AV × List Nat)
 | []=>some ([],[])
 | x::r=>match f x,frzL f r with
  | some (y,a),some (l,b)=>some (y::l,a++b)
  | _,_=>none
def frzV:Nat→At→AV→Option (AV × List Nat)
 | d+1,at_,.ptr i o=>match cellsAt at_ i with
  | some cs=>match frzL (frzV d at_) (cs.drop o) with
   | some (l,r)=>some (.iptr l,i::r)
   | none=>none
  | none=>none
 | d+1,at_,.sl i off len _ sz=>match cellsAt at_ i with
  | some cs=>if off+len * sz≤cs.length then match frzL (frzV d at_) ((cs.drop off).take (len * sz)) with
   | some (l,r)=>some (.isl (chunks sz len l),i::r)
   | none=>none
   else none
  | none=>none
 | d+1,at_,.agg cs=>match frzL (frzV d at_) cs with
  | some (l,r)=>some (.agg l,r)
  | none=>none
 | d+1,at_,.tup cs=>match frzL (frzV d at_) cs with
  | some (l,r)=>some (.tup l,r)
  | none=>none
 | d+1,at_,.fn f fs cs=>match frzL (frzV d at_) fs,frzL (frzV d at_) cs with
  | some (l,r),some (l',r')=>some (.fn f l l',r++r')
  | _,_=>none
 | d,_,x=>if plainB d x then some (x,[]) else none
section
variable {P:Program} {G:Gl}
structure Frz (c c':Cx) (rd:List Nat) (at_:At):Prop where
 w:c'.w=c.w
 froz:∀ b,c.Froz b→c'.Froz b
 nm:∀ i ∈ rd,∀ o,c.at_ i=some o→c'.Froz (c.mu i).1
 at_:∀ i ∈ rd,c.at_ i=at_ i
def Scal (x:AV):Prop:=∀ (c c':Cx) (v:Value),RR c x v→RR c' x v
def scalB:Nat→AV→Bool
 | _,.undef=>true
 | _,.int _ _=>true
 | _,.bool _=>true
 | _,.str _=>true
 | _,.nilp=>true
 | _,.nilf=>true
 | _,.nils=>true
 | _,.isl []=>true
 | d+1,.agg cs=>cs.all (scalB d)
 | d+1,.tup cs=>cs.all (scalB d)
 | _,_=>false
end
end Go.Am
namespace Go.Am
section
variable {P:Program} {G:Gl}
structure RoIn (p:Nat→Nat→Prop) (g:Nat→Nat) (rd:List Nat) (k:Nat) (at_:At) (l0:List (Nat × AObj)):Prop where
 fn:∀ i j,p i j→j < k∧g j=i∧i ∈ rd
 inj:∀ i j j',p i j→p i j'→j=j'
 obj:∀ j o,lk l0 j=some o→∃ i cs ds,p i j∧at_ i=some (.cells cs)∧o = .cells ds∧RnL p cs ds∧RnL (fun j i=>p i j) ds cs
 all:∀ i ∈ rd,∃ j o,p i j∧lk l0 j=some o
def namesB (rd:List Nat):Nat→AV→Bool
 | _,.ptr i _=>rd.contains i
 | _,.sl i _ _ _ _=>rd.contains i
 | d+1,.agg cs=>cs.all (namesB rd d)
 | d+1,.tup cs=>cs.all (namesB rd d)
 | d+1,.fn _ fs cs=>fs.all (namesB rd d) && cs.all (namesB rd d)
 | d,x=>plainB d x
theorem rn_fn {p:Nat→Nat→Prop} {f:Nat} {xs ys xs' ys':List AV} (h1:RnL p xs xs') (h2:RnL p ys ys'):RnV p (.fn f xs ys) (.fn f xs' ys'):=fun c c' v hs hr=>by
 obtain ⟨vf,vc,rfl,⟨k1,k2⟩,k3,k4⟩:=RR_fn.1 hr
 exact RR_fn.2 ⟨vf,vc,rfl,⟨by rw [k1,h1.spec.1],h1.rcs hs k2⟩,by rw [k3,h2.spec.1],h2.rcs hs k4⟩
def eqIK (a b:IntKind):Bool:=match a,b with
 | .i8,.i8 | .i16,.i16 | .i32,.i32 | .i64,.i64 | .u8,.u8 | .u16,.u16 | .u32,.u32 | .u64,.u64=>true
 | _,_=>false
def allB2 (f:AV→AV→Bool):List AV→List AV→Bool
 | [],[]=>true
 | x::xs,y::ys=>f x y && allB2 f xs ys
 | _,_=>false
def allB2L (f:List AV→List AV→Bool):List (List AV)→List (List AV)→Bool
 | [],[]=>true
 | x::xs,y::ys=>f x y && allB2L f xs ys
 | _,_=>false
def eqAV:Nat→AV→AV→Bool
 | _,.undef,.undef=>true
 | _,.int k n,.int k' n'=>eqIK k k' && n == n'
 | _,.bool a,.bool b=>a == b
 | _,.nilp,.nilp=>true
 | _,.nilf,.nilf=>true
 | _,.nils,.nils=>true
 | _,.ptr i o,.ptr j q=>i == j && o == q
 | _,.sl i a b c d,.sl i' a' b' c' d'=>i == i' && a == a' && b == b' && c == c' && d == d'
 | d+1,.isl xs,.isl ys=>allB2L (allB2 (eqAV d)) xs ys
 | d+1,.iptr xs,.iptr ys=>allB2 (eqAV d) xs ys
 | d+1,.agg xs,.agg ys=>allB2 (eqAV d) xs ys
 | d+1,.fn f xs ys,.fn g xs' ys'=>f == g && allB2 (eqAV d) xs xs' && allB2 (eqAV d) ys ys'
 | _,.str s,.str t=>decide (s=t)
 | _,_,_=>false
def sameB (l1:List (Nat × AObj)):List (Nat × AObj)→Bool
 | []=>true
 | (i,.cells cs)::r=>(match lk l1 i with|some (.cells ds)=>allB2 (eqAV 9) ds cs|_=>false) && sameB l1 r
 | _::_=>false
def tidyB (rd:List Nat) (k:Nat):List (Nat × AObj)→Bool
 | []=>true
 | (i,.cells cs)::r=>decide (i < k) && cs.all (namesB rd 9) && tidyB rd k r
 | _::_=>false
def roB (h:Hp) (args:List AV) (r:AV) (h1:Hp):Option AV :=
 let rd:=h.l.map (·.1)
 if tidyB rd h.next h.l && args.all (namesB rd 9) && sameB h1.l h.l && decide (h.next≤h1.next) then
  if namesB rd 9 r then some r else match frzV 9 (lk h1.l) r with
  | some (r',rd')=>if rd'.all (fun i=>!rd.contains i) then some r' else none
  | none=>none
 else none
def restr (l:List (Nat × AObj)):List Nat→List (Nat × AObj)
 | [] => []
 | i::r=>match lk l i with
  | some o=>if r.contains i then restr l r else (i,o)::restr l r
  | none=>restr l r
end
end Go.Am
namespace Go.Am
abbrev CallF:=AV→List AV→Hp→Option (AV × Hp)
abbrev CallP:=Nat→List AV→Hp→Option (AV × List Nat)
def stepE (cl:CallF) (G:Gl) (o:AOp) (fr:List AV) (h:Hp):Option (AV × Hp) :=
 match o with
 | .call f args=>match ax G fr f,valsV (ax G fr) args with
  | some fv,some avs=>cl fv avs h
  | _,_=>none
 | .eqn ng x=>match ax G fr x with
  | some (.isl (_::_))=>some (.bool (if ng then !false else false),h.app [])
  | some (.sl _ _ _ _ _)=>some (.bool (if ng then !false else false),h.app [])
  | _=>none
 | o=>match evalA (ax G fr) (lk h.l) h.next o with
  | some (v,up,_)=>some (v,h.app up)
  | none=>none
def runSE (cl:CallF) (G:Gl):List AOper→List AV→Hp→Option (List AV × Hp)
 | [],fr,h=>some (fr,h)
 | o::os,fr,h=>match o.guard with
  | none=>match stepE cl G o.op fr h with
   | some (v,h')=>runSE cl G os (setO fr o.dst v) h'
   | none=>none
  | some (t,b)=>match (fr[t]?).bind gval with
   | some (some p)=>if p=b then (match stepE cl G o.op fr h with
     | some (v,h')=>runSE cl G os (setO fr o.dst v) h'
     | none=>none) else runSE cl G os (setO fr o.dst (.tup [])) h
   | some none=>runSE cl G os (setO fr o.dst (.tup [])) h
   | none=>none
def stepDE (cp:CallP) (G:Gl) (o:AOp) (fr:List AV) (h:Hp):Option (AV × Up × List Nat) :=
 match o with
 | .call f args=>match ax G fr f,valsV (ax G fr) args with
  | some (.fn g fs cs),some avs=>(cp g (fs++avs++cs) h).map fun r=>(r.1,[],r.2)
  | _,_=>none
 | o=>evalA (ax G fr) (lk h.l) h.next o
def wantE (fr:List AV) (o:AOper):Option Bool:=match o.guard with
 | none=>some true
 | some (t,b)=>match (fr[t]?).bind gval with
  | some p=>some (p == some b)
  | none=>none
def runDE (cl:CallF) (cp:CallP) (G:Gl) (anc:List (List Nat)) (n:Nat):List AOper→Nat→Nat→List Ent→List AV→Hp→Option (List AV × Hp)
 | [],_,b,log,fr,h=>if chk anc b log then some (fr,h) else none
 | o::os,k,b,log,fr,h =>
  if o.op.isCall && pivot anc n k then
   if chk anc b log then match wantE fr o with
    | some true=>match stepE cl G o.op fr h with
     | some (v,h')=>runDE cl cp G anc n os (k+1) (k+1) [] (setO fr o.dst v) h'
     | none=>none
    | some false=>runDE cl cp G anc n os (k+1) (k+1) [] (setO fr o.dst (.tup [])) h
    | none=>none
   else none
  else match wantE fr o with
   | some true=>match stepDE cp G o.op fr h with
    | some (v,up,rd)=>runDE cl cp G anc n os (k+1) b (log++[entOf o true up rd]) (setO fr o.dst v) (h.appD up)
    | none=>none
   | some false=>runDE cl cp G anc n os (k+1) b (log++[entOf o false [] []]) (setO fr o.dst (.tup [])) (h.appD [])
   | none=>none
def inLoopB (h:Hp):Option Nat→Bool
 | none=>true
 | some l=>match lk h.l l with
  | some (.loop ..)=>true
  | _=>false
def exec (fok:Nat→Bool) (cl:CallF) (cp:CallP) (G:Gl) (rd:Option Nat) (N:Nat):Nat→ACode→List AV→Hp→Option (Exit × List AV × Hp)
 | 0,_,_,_=>none
 | n+1,c,fr,h=>match c with
  | .skip=>some (.normal,fr,h)
  | .reg ops=>match runSE cl G ops fr h with
   | some (fr',h')=>some (.normal,fr',h')
   | none=>none
  | .regD ops pre=>if ordOk pre 0 then match runDE cl cp G (ancs pre) pre.length ops 0 0 [] fr h with
   | some (fr',h')=>some (.normal,fr',h')
   | none=>none
   else none
  | .seq a b=>match exec fok cl cp G rd N n a fr h with
   | some (.normal,fr',h')=>exec fok cl cp G rd N n b fr' h'
   | r=>r
  | .cond c a b=>match ax G fr c with
   | some (.bool true)=>exec fok cl cp G rd N n a fr h
   | some (.bool false)=>exec fok cl cp G rd N n b fr h
   | _=>none
  | .block id c=>match exec fok cl cp G rd N n c fr h with
   | some (.exit j,fr',h')=>if j=id then some (.normal,fr',h') else some (.exit j,fr',h')
   | r=>r
  | .loop c=>if N≤h.next then match exec fok cl cp G rd N n c fr h with
   | some (.normal,fr',h')=>exec fok cl cp G rd N n (.loop c) fr' h'
   | r=>r
   else none
  | .rangeF f ps as bd=>match ax G fr f with
   | some (.fn g fs cs)=>if (fok g && inLoopB h rd)=true then
     match cl (.fn g fs cs) [.yld h.next] ⟨put h.l h.next (some (.loop .ready none fr ps as bd)),h.next+1⟩ with
     | some (_,h2)=>match lk h2.l h.next with
      | some (.loop .busy _ _ _ _ _)=>none
      | some (.loop _ none fr' ps' as' bd')=>some (.normal,fr,⟨put h2.l h.next (some (.loop .exhausted none fr' ps' as' bd')),h2.next⟩)
      | some (.loop _ (some (.exit id)) fr' ps' as' bd')=>some (.exit id,fr,⟨put h2.l h.next (some (.loop .exhausted (some (.exit id)) fr' ps' as' bd')),h2.next⟩)
      | some (.loop _ (some .ret) fr' ps' as' bd')=>some (.ret,fr,⟨put h2.l h.next (some (.loop .exhausted (some .ret) fr' ps' as' bd')),h2.next⟩)
      | _=>none
     | none=>none
    else none
   | _=>none
  | .exit id=>some (.exit id,fr,h)
  | .ret=>some (.ret,fr,h)
inductive FnE where
 | code (ac:ACode) (rs:List ARes) (k:Nat)
 | orc (F:List AV→Hp→Option (AV × Hp))
def FnE.isCode:Option FnE→Bool
 | some (.code _ _ _)=>true
 | _=>false
abbrev Tab:=Nat→Option FnE
def resE (rs:List ARes) (N:Nat):Option (Exit × List AV × Hp)→Option (AV × Hp)
 | some (.normal,fr,h)=>if N≤h.next then match resVs fr (lk h.l) rs with|some l=>some (packV l,h)|none=>none else none
 | some (.ret,fr,h)=>if N≤h.next then match resVs fr (lk h.l) rs with|some l=>some (packV l,h)|none=>none else none
 | _=>none
def roundE (l:Nat):Option (Exit × List AV × Hp)→Option (AV × Hp)
 | some (e,_,h)=>match lk h.l l with
  | some (.loop .busy _ fr ps as bd)=>match e with
   | .normal=>some (.bool true,⟨put h.l l (some (.loop .ready none fr ps as bd)),h.next⟩)
   | .ret=>some (.bool false,⟨put h.l l (some (.loop .done (some .ret) fr ps as bd)),h.next⟩)
   | .exit id=>some (.bool false,⟨put h.l l (some (.loop .done (some (.exit id)) fr ps as bd)),h.next⟩)
   | _=>none
  | _=>none
 | none=>none
def pureE (isC:Nat→Bool) (cl:CallF):CallP:=fun g avs h=>if isC g then match frzL (frzV 9 (lk h.l)) avs with
 | some (avs',rd)=>match cl (.fn g [] []) avs' ⟨[],0⟩ with
  | some (r,h0)=>if scalB 9 r || (rd.isEmpty && plainB 9 r) then some (r,rd) else match (if rd.isEmpty then frzV 9 (lk h0.l) r else none) with
   | some (r',_)=>some (r',[])
   | none=>match cl (.fn g [] []) avs ⟨restr h.l rd,h.next⟩ with
    | some (r,h1)=>(roB ⟨restr h.l rd,h.next⟩ avs r h1).map fun r'=>(r',(restr h.l rd).map (·.1))
    | none=>none
  | none=>none
 | none=>none
 else none
def callE (T:Tab) (G:Gl):Nat→CallF
 | 0,_,_,_=>none
 | n+1,fv,args,h =>
  let cp:CallP:=pureE (fun g=>FnE.isCode (T g)) (callE T G n)
  let fok:Nat→Bool:=fun g=>FnE.isCode (T g)
  match fv with
  | .fn f fs cs=>match T f with
   | some (.code ac rs k)=>resE rs h.next (exec fok (callE T G n) cp G none h.next n ac ((fs++args++cs)++List.replicate (k - (fs++args++cs).length) .undef) h)
   | some (.orc F)=>F (fs++args++cs) h
   | none=>none
  | .yld l=>match lk h.l l with
   | some (.loop .ready _ fr ps as bd)=>if args.length=ps.length then match exec fok (callE T G n) cp G (some l) h.next n as (setPs fr ps args) h with
    | some (.normal,fr1,h1)=>match lk h1.l l with
     | some (.loop .ready pend fr' ps' as' bd')=>roundE l (exec fok (callE T G n) cp G (some l) h.next n bd fr1 ⟨put h1.l l (some (.loop .busy pend fr' ps' as' bd')),h1.next⟩)
     | _=>none
    | _=>none
    else none
   | _=>none
  | _=>none
end Go.Am
namespace Go.Am
section
variable {P:Program} {G:Gl}
theorem cx_ren_id {c:Cx} {h:Hp} (hm:Mat c h):c.ren id h=c:=by
 obtain ⟨U,at_,mu,w,hid⟩:=c
 have h1:U=fun i=>i < h.next:=funext fun i=>propext (hm.U i)
 have h2:at_=lk h.l:=hm.at_
 subst h1;subst h2
 rfl
theorem weak_refl {fr:List AV} {h:Hp}:Weak P id fr h fr h:=fun c tmps hR hm hF=>by
 rw [cx_ren_id hm]
 exact ⟨hR,hF,fun i o hi=>⟨o,hi⟩⟩
def CallSnd (P:Program) (G:Gl) (cl:CallF):Prop:=∀ fv args h r h',cl fv args h=some (r,h')→∀ K:AV→Hp→Prop,K r h'→CallV P G fv args h K
def PureSnd (P:Program) (G:Gl) (cp:CallP):Prop:=∀ g avs h r rd,cp g avs h=some (r,rd)→∀ id,FnU P G g avs rd (lk h.l) r [] id
open Classical in
def tabOk (P:Program) (T:Tab):Prop:=∀ f ac rs k,T f=some (.code ac rs k)→Body P f ac rs k
def orcOk (P:Program) (G:Gl) (T:Tab):Prop:=∀ f F,T f=some (.orc F)→∀ fs args cs h r h',F (fs++args++cs) h=some (r,h')→∀ K:AV→Hp→Prop,K r h'→CallV P G (.fn f fs cs) args h K
end
end Go.Am
namespace Go.Am
def findT (f:Nat):List (Nat × ACode × List ARes × Nat)→Option FnE
 | []=>none
 | (g,ac,rs,n)::r=>if f=g then some (.code ac rs n) else findT f r
def AllT (P:Program):List (Nat × ACode × List ARes × Nat)→Prop
 | []=>True
 | (g,ac,rs,n)::r=>Body P g ac rs n∧AllT P r
def tabWith (f:Nat) (F:List AV→Hp→Option (AV × Hp)) (T:Tab):Tab:=fun g=>if g=f then some (.orc F) else T g
def isTrue:Option (AV × Hp)→Bool
 | some (.bool true,_)=>true
 | _=>false
end Go.Am
namespace Go.Am
open Go.ChangeShapes Go.WideShapes Go.ChangeAt Go.RowKit
section
variable {P:Program} {G:Gl}
def baseCx (W:World):Cx:={ U:=fun _=>False,at_:=fun _=>none,mu:=fun _=>(0,0),w:=W,hid:=fun _=>False }
theorem base_froz {W:World} {b:Nat} (h:b < W.heap.size):(baseCx W).Froz b:=⟨h,fun _ _ h=>(by cases h),fun h=>h⟩
theorem calls_pure {f:Nat} {args:List AV} {r:AV} (hp:PureC P G f args r) {W:World} {vs:Array Value} (hG:RelG G (baseCx W)) (ha:argsR (baseCx W) args vs):Calls P f vs W fun e w'=>∃ v c',e = .returned v∧c'.w=w'∧RR c' r v∧Below W.heap.size W w':=by
 have hR:Rel P (baseCx W):=⟨fun _ _ h=>(by cases h),fun _ _ _ _ h=>(by cases h),fun _ _ h=>(by cases h),⟨0,fun _ h=>h.elim⟩,fun _ _ h=>(by cases h),fun _ h=>h.elim⟩
 refine ((hp (fun _=>none) 0).2 (baseCx W) vs hR hG (fun h=>h) (fun i hi=>by cases hi) ha).mono ?_
 rintro e w' ⟨v,c',rfl,rfl,h1,_,h2,_⟩
 exact ⟨v,c',rfl,rfl,h1,h2.env.1,h2.env.2.1,h2.env.2.2,h2.size,fun k hk=>(h2.froz k (base_froz hk)).2⟩
theorem calls_true {f:Nat} {args:List AV} (hp:PureC P G f args (.bool true)) {W:World} {vs:Array Value} (hG:RelG G (baseCx W)) (ha:argsR (baseCx W) args vs):Calls P f vs W fun e w'=>e = .returned (.bool true)∧Below W.heap.size W w' :=
 (calls_pure hp hG ha).mono fun e w' ⟨v,c',h1,_,h2,h3⟩=>⟨by rw [h1,RR_bool.1 h2],h3⟩
variable {H:Type} {enc:TypeId × Value→H}
theorem post_below {f:Func} {s:ChangeSpec} {apart fresh handsOn again:Bool} {W W':World} {args:Array Value} {v:Value} {ds gs:List (DataW H)} {before pa pv:List MemPlace}
  (hW:DataW.Whole enc P f.params.toList s.vars apart W args.toList ds gs before)
  (hres:∀ (b:Nat) (sp:Nat→Bool) (hd:Bool),DataW.TrodAll enc P W' b sp hd f.resultTypes.toList (v.resultList f.resultTypes.size) (s.fn H (ds++gs)).results [])
  (hargs:∀ sp:Nat→Bool,(∀ p ∈ before,sp p.block=true)→DataW.TrodAll enc P W' 0 sp true f.params.toList args.toList (s.fn H (ds++gs)).args pa)
  (hvars:∀ sp:Nat→Bool,(∀ p ∈ before,sp p.block=true)→DataW.TrodVars enc P W' sp s.vars (s.fn H (ds++gs)).vars pv)
  (hps:before=pa++pv) (hb:Below W.heap.size W W')
  (hok:∀ (j:Nat) (t:TypeId) (r:Value),f.resultTypes[j]? = some t→(v.resultList f.resultTypes.size)[j]? = some r→Value.okWide P W' .any 0 t r) :
  s.post enc P f apart fresh handsOn again W args v W':=by
 have hold:∀ p ∈ before,(fun b=>decide (b < W.heap.size)) p.block=true:=fun p hp=>by simpa using hW.lt p hp
 have hlt:∀ p ∈ before,p.block < W.heap.size:=hW.lt
 refine ⟨ds,gs,before,[],pa,pv,hW,hres _ _ _,hargs _ hold,hvars _ hold,hb.frame _,fun _=>?_⟩
 obtain ⟨_,_,_,_,_,hz,hn⟩:=hW
 refine ⟨hok,_,_,([]++pa)++pv,⟨[]++pa,pv,trodAll_append (hargs _ (fun _ _=>rfl)) (hres _ _ _),hvars _ (fun _ _=>rfl),rfl,?_,?_⟩,?_⟩
 ·intro b off hp
  have hm:MemPlace.cell b off ∈ before:=by rw [hps];simpa using hp
  rw [hb.frozen (p:=⟨b,off,none⟩) (hlt _ hm)]
  exact hz b off hm
 ·intro ha
  have:=hn ha
  rw [hps] at this
  simpa using this
 ·intro p hp _
  rw [hps]
  simpa using hp
end
end Go.Am
namespace Go.Am
def sets:List AV→List (Nat × AV)→List AV
 | fr,[]=>fr
 | fr,(t,v)::r=>sets (fr.set t v) r
def killA (live:List Nat):Nat→List AV→List AV
 | _, [] => []
 | k,x::r=>(if live.contains k then x else .undef)::killA live (k+1) r
section
variable {P:Program} {G:Gl} {ι:Type}
end
theorem plain_all2 {x:AV} {xs:List AV} (h:Plain x) (h':∀ y ∈ xs,Plain y):∀ y ∈ x::xs,Plain y:=fun y hy=>by
 rcases List.mem_cons.1 hy with rfl|hy
 ·exact h
 ·exact h' y hy
theorem plain_all0:∀ y ∈ ([]:List AV),Plain y:=fun y hy=>by cases hy
theorem plain_map {α:Type} {f:α→AV} (hf:∀ a,Plain (f a)) {l:List α}:∀ y ∈ l.map f,Plain y:=fun y hy=>by
 obtain ⟨a,_,rfl⟩:=List.mem_map.1 hy
 exact hf a
end Go.Am
