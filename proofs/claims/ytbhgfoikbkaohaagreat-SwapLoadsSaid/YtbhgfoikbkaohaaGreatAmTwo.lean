/-
 The abstract machine's operations stand for the model's: operations that neither read nor write memory. No program in sight.
 The abstract machine's operations stand for the model's: memory that is made,read and written. No program in sight.
 The abstract machine's operations stand for the model's: each operation. No program in sight.
 The abstract machine's operations stand for the model's: literals,fields,indexes,comparisons. No program in sight.
 The abstract machine's operations stand for the model's: addresses,indexes,slices,comparisons. No program in sight.
 The abstract machine's operations stand for the model's: places,indexes,slices. No program in sight.
 The abstract machine's operations stand for the model's: slices that are made,appended to,cleared. No program in sight.
 The abstract machine's operations stand for the model's: append. No program in sight.
 The abstract machine's operations stand for the model's: all of them. No program in sight.
 The abstract machine's operations stand for the model's: maps. No program in sight.
 One operation of the abstract machine stands for the model's. No program in sight.
-/
import Derived.Test.YtbhgfoikbkaohaaGreatAmOne
import Derived.WalkKit
import Derived.Laws.Append
import Derived.Laws.Cells
import Derived.Laws.Tables
import Derived.Laws.StructEq
import Derived.Laws.Pointers
import Derived.Great.BuildSlice
import Derived.ChangeKeysEq
import Derived.Laws.AppendOwn
import Derived.Laws.MakeOwn
import Derived.WideKeyRuns
set_option linter.unusedSimpArgs false
set_option linter.unusedVariables false
namespace Go.Am
def Done (P:Program) (c:Cx) (r:Result Next) (x:AV) (up:Up) (new:List Nat):Prop :=
 ∃ c':Cx,((∃ val,r = .ok (.value val) c'.w∧RR c' x val)∨(r = .ok .skip c'.w∧x = .undef))∧Rel P c'∧Ext c c'∧c'.at_=upd c.at_ up∧(∀ i,c'.U i ↔ c.U i∨i ∈ new)
section
variable {P:Program} {c:Cx} {G:Gl} {fr:List AV} {a:Act}
theorem Done.pure {r:Result Next} {x:AV} {val:Value} (hR:Rel P c) (h:r = .ok (.value val) c.w) (hx:RR c x val):Done P c r x [] [] :=
 ⟨c,.inl ⟨val,h,hx⟩,hR,Ext.refl c,rfl,fun i=>by simp⟩
theorem Z0 {o:Option AV} {v:AV} {up:Up} {rd:List Nat} (h:AD2 o=some (v,up,rd)):o=some v∧up=[]∧rd=[]:=by
 unfold AD2 at h
 split at h
 ·rename_i u;cases h;exact ⟨rfl,rfl,rfl⟩
 ·cases h
theorem AO5 {o:Option AV} {f:AV→Option AV} {v:AV} {up:Up} {rd:List Nat} (h:ev1 o f=some (v,up,rd)):∃ u,o=some u∧f u=some v∧up=[]∧rd=[]:=by
 unfold ev1 at h
 split at h
 ·obtain ⟨h1,h2,h3⟩:=Z0 h;exact ⟨_,rfl,h1,h2,h3⟩
 ·cases h
theorem Ai9 {o p:Option AV} {f:AV→AV→Option AV} {v:AV} {up:Up} {rd:List Nat} (h:ev2 o p f=some (v,up,rd)):∃ u t,o=some u∧p=some t∧f u t=some v∧up=[]∧rd=[]:=by
 unfold ev2 at h
 split at h
 ·obtain ⟨h1,h2,h3⟩:=Z0 h;exact ⟨_,_,rfl,rfl,h1,h2,h3⟩
 ·cases h

theorem snd_bin {op:BinOp} {t:TypeId} {x y:AV} {u v:Value} {r:AV} (hx:RR c x u) (hy:RR c y v) (h:BH1 op x y=some r):∃ val,(binOp op t u v).run P c.w = .ok val c.w∧RR c r val:=by
  unfold BH1 at h
  split at h
  · rename_i k a k' b
    simp only [RR_int] at hx hy
    subst hx;subst hy
    cases op<;>simp only at h<;>first
      | (split at h
         · rename_i hk
           cases h
           refine ⟨_,?_,RR_int.2 rfl⟩
           first
             | (subst hk;simp [binOp,Op.intArith];done)
             | (obtain ⟨rfl,hb⟩:=hk;simp [binOp,Op.intDiv,hb];done)
             | (subst hk;simp [binOp,Op.intBits,bits];done)
         · cases h)
      | (split at h
         · rename_i hk
           cases h
           refine ⟨_,?_,RR_bool.2 rfl⟩
           subst hk;simp [binOp,Op.intCmp];done
         · cases h)
      | (split at h
         · cases h
         · rename_i hk
           cases h
           refine ⟨_,?_,RR_int.2 rfl⟩
           simp [binOp,Op.shift,hk];done)
  · cases h
theorem snd_un {op:UnOp} {x:AV} {u:Value} {r:AV} (hx:RR c x u) (h:unV op x=some r):∃ val,(Op.unary op u).run P c.w = .ok val c.w∧RR c r val:=by
 unfold unV at h
 split at h
 ·simp only [RR_int] at hx
  subst hx
  split at h<;>first|cases h|skip
  ·exact ⟨_,by simp [Op.unary,Op.intArith],RR_int.2 rfl⟩
  ·exact ⟨_,by simp [Op.unary,Op.intBits,bits],RR_int.2 rfl⟩
 ·simp only [RR_bool] at hx
  subst hx
  split at h<;>first|cases h|skip
  exact ⟨_,by simp [Op.unary],RR_bool.2 rfl⟩
 ·cases h
theorem part_of {t:TypeId} {b:Bool} {n off:Nat} {cs:List AV} {vs:Array Value} {r:AV} (w:World) (hb:Aq0 P t=some b) (hn:AJ3 P t=some n) (hs:vs.size=cs.length) (hr:RC1 (RR c) cs fun j=>vs[j]?)
  (h:AU3 b off n cs=some r):∃ val,(part t vs off).run P w = .ok val w∧RR c r val∧(b=false→One val):=by
 unfold Aq0 at hb
 simp only [Option.map_eq_some_iff] at hb
 obtain ⟨d,hd,hb⟩:=hb
 unfold AJ3 at hn
 simp only [Option.map_eq_some_iff] at hn
 obtain ⟨i,hi,hn⟩:=hn
 have hia:(isAgg t).run P w = .ok b w:=by
  simp only [isAgg]
  subst hb
  simp [run_underlying hd]
  cases d<;>simp
 unfold AU3 at h
 cases b with
 | true =>
  simp only [if_true] at h
  split at h
  ·rename_i hle
   cases h
   refine ⟨.agg (vs.extract off (off+n)),?_,AB4.2 ⟨_,rfl,by simp;omega,fun j x hx=>?_⟩,fun h=>by cases h⟩
   ·simp [part,hia,sizeOf,typeInfo,hi,hn]
   ·rw [List.getElem?_take] at hx
    split at hx
    ·rename_i hj
     rw [List.getElem?_drop] at hx
     obtain ⟨u,hu,hxu⟩:=hr _ _ hx
     refine ⟨u,?_,hxu⟩
     have hu':vs[off+j]? = some u:=hu
     show (vs.extract off (off+n))[j]? = some u
     rw [Array.getElem?_extract]
     have : j < min (off+n) vs.size - off:=by omega
     simp [this,hu']
    ·cases hx
  ·cases h
 | false =>
  simp only [Bool.false_eq_true,if_false] at h
  obtain ⟨u,hu,hxu⟩:=hr _ _ h
  have hu':vs[off]? = some u:=hu
  exact ⟨u,by simp [part,hia,hu'],hxu.1,fun _=>hxu.2⟩
theorem Ak3 {os:List Operand} {xs:List AX} {vs:List AV} (hF:FR c fr a.tmps) (hG:AV2 G c) (hc:os.mapM cox=some xs) (hv:AV9 (ax G fr) xs=some vs) :
  vs.length=os.length∧RCs (RR c) vs fun j=>(os.map a.eval)[j]?:=by
 induction os generalizing xs vs with
 | nil=>simp at hc;subst hc;cases hv;exact ⟨rfl,fun j x hx=>by simp at hx⟩
 | cons o os ih =>
  simp only [List.mapM_cons,Option.bind_eq_bind,Option.bind_eq_some_iff] at hc
  obtain ⟨x,hx,ys,hys,h2⟩:=hc
  cases h2
  simp only [AV9] at hv
  split at hv
  ·rename_i v l hv1 hv2
   cases hv
   obtain ⟨h3,h4⟩:=ih hys hv2
   refine ⟨by simp [h3],fun j z hz=>?_⟩
   cases j with
   | zero=>simp at hz;subst hz;exact ⟨_,rfl,J9 hF hG hx hv1⟩
   | succ j=>obtain ⟨u,hu,hr⟩:=h4 j z (by simpa using hz);exact ⟨u,by simpa using hu,hr⟩
  ·cases hv
end
end Go.Am
namespace Go.Am
theorem AW7:∀ (vs:List AV) (o:Nat) (cs:List AV),(over cs o vs).length=cs.length
 | [],_,_=>rfl
 | v::vs,o,cs=>by rw [over,AW7 vs];simp
def Cx.mk' (c:Cx) (id:Nat) (o:AObj) (ob:Obj):Cx :=
 { U:=fun i=>c.U i∨i=id,at_:=upd c.at_ [(id,some o)],mu:=fun i=>if i=id then (c.w.heap.size,0) else c.mu i,w:=c.w.alloc ob,hid:=c.hid }
section
variable {P:Program} {c:Cx}
theorem X7 (w:World) (o:Obj) {b:Nat} (h:b < w.heap.size):(w.alloc o).heap[b]? = w.heap[b]?:=by
 show (w.heap.push o)[b]? = _
 simp [Array.getElem?_push,Nat.ne_of_lt h]
theorem AA2 (w:World) (o:Obj):(w.alloc o).heap[w.heap.size]? = some o:=by
 show (w.heap.push o)[w.heap.size]? = _
 simp
theorem Ao3 {id:Nat} (hR:Rel P c) (hid:¬ c.U id) (o:AObj) (ob:Obj):Ext c (c.mk' id o ob):=by
 have hne:∀ i,c.U i→i ≠ id:=fun i hi e=>hid (e▸hi)
 refine ⟨fun i hi=>.inl hi,fun i hi=>by simp [Cx.mk',hne i hi],fun b hb=>?_,fun b hb=>?_,by simp [Cx.mk'],fun _=>Iff.rfl,fun b hb=>X7 c.w ob (hR.hidlt b hb),rfl,rfl,rfl⟩
 ·simp only [csize,Cx.mk',X7 c.w ob hb]
 ·refine ⟨⟨by have:=hb.1;simp [Cx.mk'];omega,fun i o' hi=>?_,hb.3⟩,X7 c.w ob hb.1⟩
  simp only [Cx.mk',upd] at hi ⊢
  split at hi
  ·rename_i e
   have:=hb.1
   simp [e];omega
  ·rename_i e
   simp only [e,if_false]
   exact hb.2 i o' hi
theorem Av2 {id:Nat} (hR:Rel P c) (hid:¬ c.U id) (o:AObj) (ob:Obj) (ho:Aq8 P (c.mk' id o ob) (c.w.heap.size,0) o):Rel P (c.mk' id o ob):=by
 have hat:∀ i o',(c.mk' id o ob).at_ i=some o'→(i=id∧o'=o∧(c.mk' id o ob).mu i=(c.w.heap.size,0))∨(i ≠ id∧c.at_ i=some o'∧(c.mk' id o ob).mu i=c.mu i∧(c.mu i).1 < c.w.heap.size):=fun i o' hi=>by
  simp only [Cx.mk',upd] at hi ⊢
  split at hi
  ·rename_i e;cases hi;exact .inl ⟨e,rfl,by simp [e]⟩
  ·rename_i e;exact .inr ⟨e,hi,by simp [e],(hR.obj i o' hi).lt⟩
 refine ⟨fun i o' hi=>?_,fun i j o1 o2 hi hj hij=>?_,fun i o' hi=>?_,?_,fun i o' hi hh=>?_,fun b hb=>by have:=hR.hidlt b hb;simp [Cx.mk'];omega⟩
 ·rcases hat i o' hi with ⟨e,_⟩ | ⟨_,h,_⟩
  ·exact .inr e
  ·exact .inl (hR.used i o' h)
 ·rcases hat i o1 hi with ⟨e1,_,m1⟩ | ⟨n1,h1,m1,l1⟩<;>rcases hat j o2 hj with ⟨e2,_,m2⟩ | ⟨n2,h2,m2,l2⟩
  ·rw [e1,e2]
  ·rw [m1,m2] at hij;simp at hij;omega
  ·rw [m1,m2] at hij;simp at hij;omega
  ·rw [m1,m2] at hij;exact hR.inj i j o1 o2 h1 h2 hij
 ·rcases hat i o' hi with ⟨e1,e2,m1⟩ | ⟨n1,h1,m1,l1⟩
  ·rw [m1,e2];exact ho
  ·rw [m1];exact (hR.obj i o' h1).ext (Ao3 hR hid o ob) (X7 c.w ob l1)
 ·obtain ⟨N,hN⟩:=hR.many
  exact ⟨max N (id+1),fun i hi=>by
   rcases hi with hi|hi
   ·have:=hN i hi;omega
   ·omega⟩
 ·rcases hat i o' hi with ⟨_,_,m1⟩ | ⟨_,h1,m1,_⟩
  ·rw [m1] at hh;have:=hR.hidlt _ hh;simp at this
  ·rw [m1] at hh;exact hR.nohid i o' h1 hh
theorem Aj2 {id:Nat} {r:Result Next} {x:AV} {val:Value} {cs:List AV} {vs:Array Value} {T:TypeId} (hR:Rel P c) (hid:¬ c.U id) (hs:RC1 (RR c) cs fun j=>vs[j]?)
  (hr:r = .ok (.value val) (c.w.alloc (.cells vs T))) (hx:RR (c.mk' id (.cells cs) (.cells vs T)) x val):Done P c r x [(id,some (.cells cs))] [id]:=by
 have he:=Ao3 hR hid (.cells cs) (.cells vs T)
 refine ⟨_,.inl ⟨val,hr,hx⟩,Av2 hR hid _ _ ⟨vs,T,AA2 _ _,(RC1.ext he hs).imp (fun _ _ h=>h) fun j u hj=>by simpa using hj⟩,he,rfl,fun i=>by simp [Cx.mk']⟩
theorem BG1 (w:World) (vs:Array Value) (T:TypeId):csize (w.alloc (.cells vs T)) w.heap.size=vs.size:=by unfold csize;rw [AA2]
theorem Ar6 {id:Nat} {o:AObj} {ob:Obj}:RR (c.mk' id o ob) (.ptr id 0) (.pointer (some ⟨c.w.heap.size,0,none⟩)):=AC9.2 ⟨.inr rfl,by simp [Cx.mk']⟩
theorem BC3 {id n sz:Nat} {o:AObj} {vs:Array Value} {T:TypeId} {cap:Nat} (h1:n≤cap) (h2:cap≤maxLen) (h3:cap * sz≤vs.size):RR (c.mk' id o (.cells vs T)) (.sl id 0 n n sz) (.slice (some ⟨c.w.heap.size,0,none⟩) n cap) :=
 AK9.2 ⟨.inr rfl,by simp [Cx.mk'],cap,by simp [Cx.mk'],Nat.le_refl _,h1,h2,by simp [Cx.mk',BG1];omega⟩

def Cx.wr (c:Cx) (id:Nat) (cs:List AV) (w':World):Cx:={ U:=c.U,at_:=upd c.at_ [(id,some (.cells cs))],mu:=c.mu,w:=w',hid:=c.hid }
theorem Ao2 {id:Nat} {o:AObj} {cs:List AV} {w':World} (hR:Rel P c) (ho:c.at_ id=some o) (hother:∀ b,b ≠ (c.mu id).1→w'.heap[b]? = c.w.heap[b]?) (hcs:csize w' (c.mu id).1=csize c.w (c.mu id).1) (hsz:w'.heap.size=c.w.heap.size) (henv:w'.os=c.w.os∧w'.tape=c.w.tape∧w'.output=c.w.output) :
  Ext c (c.wr id cs w'):=by
 refine ⟨fun i hi=>hi,fun i _=>rfl,fun b hb=>?_,fun b hb=>?_,by simp [Cx.wr,hsz],fun _=>Iff.rfl,fun b hb=>hother b fun e=>hR.nohid id o ho (e▸hb),henv⟩
 ·by_cases e:b=(c.mu id).1
  ·subst e;exact hcs
  ·simp only [csize,Cx.wr,hother b e]
 ·have hne:b ≠ (c.mu id).1:=fun e=>hb.2 id o ho e.symm
  refine ⟨⟨by simp [Cx.wr,hsz];exact hb.1,fun i o' hi=>?_,hb.3⟩,hother b hne⟩
  simp only [Cx.wr,upd] at hi ⊢
  split at hi
  ·rename_i e;subst e;exact Ne.symm hne
  ·exact hb.2 i o' hi
theorem BR3 {id:Nat} {o:AObj} {cs:List AV} {w':World} (hR:Rel P c) (ho:c.at_ id=some o) (hother:∀ b,b ≠ (c.mu id).1→w'.heap[b]? = c.w.heap[b]?) (hcs:csize w' (c.mu id).1=csize c.w (c.mu id).1) (hsz:w'.heap.size=c.w.heap.size) (henv:w'.os=c.w.os∧w'.tape=c.w.tape∧w'.output=c.w.output)
  (hob:Aq8 P (c.wr id cs w') (c.mu id) (.cells cs)):Rel P (c.wr id cs w'):=by
 have he:=Ao2 (cs:=cs) hR ho hother hcs hsz henv
 have hat:∀ i o',(c.wr id cs w').at_ i=some o'→(i=id∧o' = .cells cs)∨(i ≠ id∧c.at_ i=some o'):=fun i o' hi=>by
  simp only [Cx.wr,upd] at hi
  split at hi
  ·rename_i e;cases hi;exact .inl ⟨e,rfl⟩
  ·rename_i e;exact .inr ⟨e,hi⟩
 have hlive:∀ i o',(c.wr id cs w').at_ i=some o'→∃ o1,c.at_ i=some o1:=fun i o' hi=>by
  rcases hat i o' hi with ⟨e,_⟩ | ⟨_,h⟩
  ·exact ⟨o,e▸ho⟩
  ·exact ⟨o',h⟩
 refine ⟨fun i o' hi=>?_,fun i j o1 o2 hi hj hij=>?_,fun i o' hi=>?_,hR.many,fun i o' hi=>(let ⟨o1,h1⟩:=hlive i o' hi;hR.nohid i o1 h1),fun b hb=>by have:=hR.hidlt b hb;simp [Cx.wr,hsz];exact this⟩
 ·obtain ⟨o1,h1⟩:=hlive i o' hi;exact hR.used i o1 h1
 ·obtain ⟨p1,h1⟩:=hlive i o1 hi
  obtain ⟨p2,h2⟩:=hlive j o2 hj
  exact hR.inj i j p1 p2 h1 h2 hij
 ·rcases hat i o' hi with ⟨e1,e2⟩ | ⟨n1,h1⟩
  ·rw [e1,e2];exact hob
  ·exact (hR.obj i o' h1).ext he (hother _ fun e=>n1 (hR.inj i id o' o h1 ho e))

def AU4 (a:Array Value):Nat→List Value→Array Value
 | _,[]=>a
 | o,v::vs=>AU4 (a.setIfInBounds o v) (o+1) vs
theorem AT6:∀ (vs:List Value) (o:Nat) (a:Array Value),(AU4 a o vs).size=a.size
 | [],_,_=>rfl
 | v::vs,o,a=>by rw [AU4,AT6 vs];simp
theorem AB9:∀ (vs:List Value) (b o i:Nat) (w:World) (a:Array Value) (T:TypeId),w.heap[b]? = some (.cells a T (0,0))→o+i+vs.length≤a.size→(∀ v ∈ vs,One v) →
  ∃ w',(storeCells ⟨b,o,none⟩ vs i).run P w = .ok () w'∧w'.heap[b]? = some (.cells (AU4 a (o+i) vs) T (0,0))∧(∀ b',b' ≠ b→w'.heap[b']? = w.heap[b']?)∧w'.heap.size=w.heap.size∧w'.os=w.os∧w'.tape=w.tape∧w'.output=w.output
 | [],b,o,i,w,a,T,h,_,_=>⟨w,rfl,h,fun _ _=>rfl,rfl,rfl,rfl,rfl⟩
 | v::vs,b,o,i,w,a,T,h,hle,h1=>by
  have hadd:(⟨b,o,none⟩:Addr).add i=⟨b,o+i,none⟩:=by
   unfold Addr.add
   by_cases e:i=0
   ·simp [e]
   ·simp [e]
  simp only [List.length_cons] at hle
  have hc:w.cell? ⟨b,o+i,none⟩=some a[o+i]:=by simp [World.cell?,h,show o+i < a.size by omega]
  have hf:w.frozen? ⟨b,o+i,none⟩=false:=by simp [World.frozen?,h]
  have hset:(w.setCell ⟨b,o+i,none⟩ v).heap[b]? = some (.cells (a.setIfInBounds (o+i) v) T (0,0)):=by simp [World.setCell,Array.getElem?_modify,h]
  obtain ⟨w',h2,h3,h4,h5,h6⟩:=AB9 vs b o (i+1) (w.setCell ⟨b,o+i,none⟩ v) _ T hset (by simp;omega) fun x hx=>h1 x (List.mem_cons_of_mem _ hx)
  refine ⟨w',?_,by rw [AU4];exact h3,fun b' hb'=>(h4 b' hb').trans ?_,by rw [h5];simp,h6⟩
  ·have hst:(store ⟨b,o+i,none⟩ v).run P w = .ok () (w.setCell ⟨b,o+i,none⟩ v):=by
    have hone:=h1 v (List.mem_cons_self ..)
    cases v<;>first|exact absurd rfl (hone.1 _)|exact absurd rfl (hone.2 _)|simp [store,Sem.run,hc,hf]
   simp only [storeCells,Sem.run_bind,hadd,hst,Result.andThen_ok]
   exact h2
  ·simp [World.setCell,Array.getElem?_modify,Ne.symm hb']
theorem AR0 {c:Cx}:∀ (xs:List AV) (vs:List Value) (base o:Nat) (cs:List AV) (a:Array Value),vs.length=xs.length→RC1 (RR c) xs (fun j=>vs[j]?)→RC1 (RR c) cs (fun j=>a[base+j]?) →
  RC1 (RR c) (over cs o xs) fun j=>(AU4 a (base+o) vs)[base+j]?
 | [],[],base,o,cs,a,_,_,h=>h
 | [],_::_,_,_,_,_,hl,_,_=>by simp at hl
 | _::_,[],_,_,_,_,hl,_,_=>by simp at hl
 | x::xs,v::vs,base,o,cs,a,hl,hx,h=>by
  rw [over,AU4]
  have ih:=AR0 xs vs base (o+1) (cs.set o x) (a.setIfInBounds (base+o) v) (by simpa using hl) (fun j y hy=>by simpa using hx (j+1) y (by simpa using hy)) ?_
  ·rw [show base+o+1=base+(o+1) by omega];exact ih
  ·intro j y hy
   obtain ⟨v',hv',hxv⟩:=hx 0 x rfl
   simp at hv'
   subst hv'
   rw [List.getElem?_set] at hy
   split at hy
   ·rename_i e
    subst e
    split at hy
    ·rename_i hlt
     cases hy
     obtain ⟨u,hu,_⟩:=h o cs[o] (List.getElem?_eq_getElem hlt)
     have hu':a[base+o]? = some u:=hu
     refine ⟨v,?_,hxv⟩
     show (a.setIfInBounds (base+o) v)[base+o]? = some v
     have : base+o < a.size:=by
      rcases Nat.lt_or_ge (base+o) a.size with h1|h1
      ·exact h1
      ·rw [Array.getElem?_eq_none h1] at hu';cases hu'
     simp [this]
    ·cases hy
   ·rename_i hne
    obtain ⟨u,hu,hr⟩:=h j y hy
    refine ⟨u,?_,hr⟩
    show (a.setIfInBounds (base+o) v)[base+j]? = some u
    rw [Array.getElem?_setIfInBounds_ne (by omega)]
    exact hu
end
end Go.Am
namespace Go.Am
section
variable {P:Program} {c:Cx} {G:Gl} {fr:List AV} {a:Act}
theorem RCs.list {p:AV→Value→Prop}:∀ {xs:List AV} {look:Nat→Option Value},RCs p xs look→∃ vs:List Value,vs.length=xs.length∧(∀ (j:Nat) v,vs[j]? = some v→look j=some v)∧RCs p xs fun j=>vs[j]?
 | [],_,_=>⟨[],rfl,fun j v h=>by simp at h,fun j x hx=>by simp at hx⟩
 | y::ys,look,h=>by
  obtain ⟨u,hu,hyu⟩:=h 0 y rfl
  obtain ⟨vs,h1,h2,h3⟩:=RCs.list (xs:=ys) (look:=fun j=>look (j+1)) fun j x hx=>h (j+1) x (by simpa using hx)
  refine ⟨u::vs,by simp [h1],fun j v hv=>?_,fun j x hx=>?_⟩
  ·cases j with
   | zero=>simp at hv;subst hv;exact hu
   | succ j=>exact h2 j v (by simpa using hv)
  ·cases j with
   | zero=>simp at hx;subst hx;exact ⟨u,rfl,hyu⟩
   | succ j=>obtain ⟨w,hw,hr⟩:=h3 j x (by simpa using hx);exact ⟨w,by simpa using hw,hr⟩
theorem RCs.drop {p:AV→Value→Prop} {xs:List AV} {look:Nat→Option Value} (h:RCs p xs look) (o:Nat):RCs p (xs.drop o) fun j=>look (o+j):=fun j x hx=>h (o+j) x (by rw [List.getElem?_drop] at hx;exact hx)
theorem RCs.take {p:AV→Value→Prop} {xs:List AV} {look:Nat→Option Value} (h:RCs p xs look) (n:Nat):RCs p (xs.take n) look:=fun j x hx=>by
 rw [List.getElem?_take] at hx
 split at hx
 ·exact h j x hx
 ·cases hx
theorem cell_of {w:World} {b o:Nat} {a:Array Value} {T:TypeId} (h:w.heap[b]? = some (.cells a T (0,0))):w.cell? ⟨b,o,none⟩=a[o]?:=by simp [World.cell?,h]
theorem AA1 {at_:At} {i:Nat} {cs:List AV} (h:Y2 at_ i=some cs):at_ i=some (.cells cs):=by
 unfold Y2 at h
 split at h
 ·cases h;assumption
 ·cases h
theorem BT9 (hR:Rel P c) {i o:Nat} {cs:List AV} {v:Value} (hi:Y2 c.at_ i=some cs) (h:RR c (.ptr i o) v):∃ b q,v = .pointer (some ⟨b,q,none⟩)∧RC1 (RR c) (cs.drop o) fun j=>c.w.cell? ⟨b,q+j,none⟩:=by
 obtain ⟨_,rfl⟩:=AC9.1 h
 obtain ⟨ar,T,h1,h2⟩:=hR.obj i _ (AA1 hi)
 refine ⟨_,_,rfl,(h2.drop o).imp (fun _ _ h=>h) fun j u hj=>?_⟩
 rw [cell_of h1,show (c.mu i).2+o+j=(c.mu i).2+(o+j) by omega]
 exact hj
theorem As1 {ag:Bool} {o n:Nat} {cs:List AV}:AU3 ag o n cs=AU3 ag 0 n (cs.drop o)∨AU3 ag o n cs=none:=by
 unfold AU3
 cases ag with
 | true =>
  simp only [if_true]
  by_cases h:o+n≤cs.length
  ·left;rw [if_pos h,if_pos (by simp;omega)];simp
  ·right;rw [if_neg h]
 | false=>left;simp
theorem AA6 (b o n:Nat):(⟨b,o,none⟩:Addr).add n=⟨b,o+n,none⟩:=by
 unfold Addr.add
 by_cases e:n=0
 ·simp [e]
 ·simp [e]
theorem run_load {t:TypeId} {ag:Bool} {n b q:Nat} {cs:List AV} {r:AV} (hb:Aq0 P t=some ag) (hn:AJ3 P t=some n) (hc:RC1 (RR c) cs fun j=>c.w.cell? ⟨b,q+j,none⟩)
  (h:AU3 ag 0 n cs=some r):∃ val,(loadVar t ⟨b,q,none⟩).run P c.w = .ok val c.w∧RR c r val:=by
 unfold Aq0 at hb
 simp only [Option.map_eq_some_iff] at hb
 obtain ⟨d,hd,hb⟩:=hb
 unfold AJ3 at hn
 simp only [Option.map_eq_some_iff] at hn
 obtain ⟨i,hi,hn⟩:=hn
 have hia:(isAgg t).run P c.w = .ok ag c.w:=by
  simp only [isAgg]
  subst hb
  simp [run_underlying hd]
  cases d<;>simp
 unfold AU3 at h
 cases ag with
 | true =>
  simp only [if_true,Nat.zero_add,List.drop_zero] at h
  split at h
  ·rename_i hle
   cases h
   obtain ⟨vs,h1,h2,h3⟩:=(hc.take n).list
   have h4:=run_loadCells_list (P:=P) (w:=c.w) ⟨b,q,none⟩ vs fun j v hv=>by rw [AA6];exact h2 j v hv
   rw [h1,List.length_take,Nat.min_eq_left hle] at h4
   refine ⟨.agg vs.toArray,by simp [loadVar,hia,sizeOf,typeInfo,hi,hn,h4],AB4.2 ⟨_,rfl,by simpa using h1,h3.imp (fun _ _ h=>h) fun j u hj=>by simpa using hj⟩⟩
  ·cases h
 | false =>
  simp only [Bool.false_eq_true,if_false] at h
  obtain ⟨u,hu,hxu,_⟩:=hc 0 r h
  have hu':c.w.cell? ⟨b,q,none⟩=some u:=by simpa using hu
  exact ⟨u,by simp [loadVar,hia,load,Sem.run,hu'],hxu⟩
theorem Ap4 {x:AV} {v:Value} (h:RR c x v) (hx:x.flat=true):v.cells.size=x.cells.length∧RC1 (RR c) x.cells fun j=>v.cells[j]?:=by
 cases x with
 | agg cs=>obtain ⟨vs,rfl,h1,h2⟩:=AB4.1 h;exact ⟨h1,h2⟩
 | _ =>
  have hone:=RR.one h (by simpa [AV.flat] using hx)
  have hc:v.cells = #[v]:=by
   cases v<;>first|rfl|exact absurd rfl (hone.1 _)
  rw [hc]
  refine ⟨rfl,fun j y hy=>?_⟩
  cases j with
  | zero=>simp [AV.cells] at hy;subst hy;exact ⟨v,rfl,h,hone⟩
  | succ j=>simp [AV.cells] at hy
theorem run_store {t:TypeId} {n i o:Nat} {cs:List AV} {x:AV} {p v:Value} (hR:Rel P c) (hn:AJ3 P t=some n) (hi:Y2 c.at_ i=some cs) (hp:RR c (.ptr i o) p) (hx:RR c x v) (hf:x.flat=true) (hl:x.cells.length=n) (hn0:0 < n) (hle:o+n≤cs.length) :
  ∃ w',(Instr.storeAt t p v).run P c.w = .ok () w'∧Rel P (c.wr i (over cs o x.cells) w')∧Ext c (c.wr i (over cs o x.cells) w'):=by
 obtain ⟨_,rfl⟩:=AC9.1 hp
 have ho:=AA1 hi
 obtain ⟨ar,T,h1,h2⟩:=hR.obj i _ ho
 obtain ⟨h3,h4⟩:=Ap4 hx hf
 unfold AJ3 at hn
 simp only [Option.map_eq_some_iff] at hn
 obtain ⟨ti,hti,hn⟩:=hn
 have hsz:(c.mu i).2+(o+n)≤ar.size:=by
  obtain ⟨u,hu,_⟩:=h2 (o+n - 1) _ (List.getElem?_eq_getElem (show o+n - 1 < cs.length by omega))
  have hu':ar[(c.mu i).2+(o+n - 1)]? = some u:=hu
  rcases Nat.lt_or_ge ((c.mu i).2+(o+n - 1)) ar.size with hlt|hge
  ·omega
  ·rw [Array.getElem?_eq_none hge] at hu';cases hu'
 obtain ⟨w',h5,h6,h7,h8,h9⟩:=AB9 (P:=P) v.cells.toList (c.mu i).1 ((c.mu i).2+o) 0 c.w ar T h1 (by simp [h3,hl];omega) fun u hu=>by
  obtain ⟨j,hj⟩:=List.mem_iff_getElem?.1 hu
  have hj':j < x.cells.length:=by rw [← h3];have:=(List.getElem?_eq_some_iff.1 hj).1;simpa using this
  obtain ⟨u',hu',_,hone⟩:=h4 j _ (List.getElem?_eq_getElem hj')
  have : v.cells[j]? = some u':=hu'
  rw [show v.cells[j]? = v.cells.toList[j]? by simp,hj] at this
  cases this
  exact hone
 have hcs:csize w' (c.mu i).1=csize c.w (c.mu i).1:=by simp [csize,h1,h6,AT6]
 have he:=Ao2 (cs:=over cs o x.cells) hR ho h7 hcs h8 h9
 refine ⟨w',?_,BR3 hR ho h7 hcs h8 h9 ⟨_,T,h6,RC1.ext he ?_⟩,he⟩
 ·simp [Instr.storeAt,Instr.sureAddr,storeVar,sizeOf,typeInfo,hti,hn,h3,hl,h5]
 ·have:=AR0 x.cells v.cells.toList (c.mu i).2 o cs ar (by simp [h3]) (h4.imp (fun _ _ h=>h) fun j u hj=>by simpa using hj) h2
  simpa using this
theorem snd_mv {o:Oper} {x:Operand} {y:AX} {id:Nat} {v:AV} {up:Up} {rd:List Nat} (hF:FR c fr a.tmps) (hG:AV2 G c) (hR:Rel P c) (ho:o.op = .move x∨o.op = .assign x) (hx:cox x=some y)
  (hv:G7 (ax G fr) c.at_ id (.mv y)=some (v,up,rd)):Done P c ((execOp a.eval o).run P c.w) v up []:=by
 obtain ⟨h1,rfl,rfl⟩:=Z0 hv
 exact Done.pure hR (by rcases ho with ho|ho<;>simp [execOp,ho]) (J9 hF hG hx h1)
theorem snd_pick {o:Oper} {x y z:Operand} {x' y' z':AX} {id:Nat} {v:AV} {up:Up} {rd:List Nat} (hF:FR c fr a.tmps) (hG:AV2 G c) (hR:Rel P c) (ho:o.op = .pick x y z) (hx:cox x=some x') (hy:cox y=some y') (hz:cox z=some z')
  (hv:G7 (ax G fr) c.at_ id (.pick x' y' z')=some (v,up,rd)):Done P c ((execOp a.eval o).run P c.w) v up []:=by
 simp only [G7] at hv
 split at hv
 ·rename_i p q r hp hq hr
  obtain ⟨h1,rfl,rfl⟩:=Z0 hv
  have r1:=J9 hF hG hx hp
  have r2:=J9 hF hG hy hq
  have r3:=J9 hF hG hz hr
  unfold pickV at h1
  split at h1
  ·rename_i t p' q'
   simp only [RR_bool] at r1 r2 r3
   cases h1
   exact Done.pure (val:=.bool (if t then p' else q')) hR (by cases t<;>simp [execOp,ho,r1,r2,r3,asBool]) (RR_bool.2 rfl)
  ·rename_i t k p' k' q'
   simp only [RR_bool,RR_int] at r1 r2 r3
   split at h1
   ·rename_i hk
    cases h1
    subst hk
    exact Done.pure (val:=.int k (if t then p' else q')) hR (by cases t<;>simp [execOp,ho,r1,r2,r3,asBool]) (RR_int.2 rfl)
   ·cases h1
  ·rename_i t _ _
   simp only [RR_bool] at r1
   cases h1
   cases t
   ·exact Done.pure (val:=a.eval z) hR (by simp [execOp,ho,r1,asBool]) (by simpa using r3)
   ·exact Done.pure (val:=a.eval y) hR (by simp [execOp,ho,r1,asBool]) (by simpa using r2)
  ·cases h1
 ·cases hv
theorem AN5 {t:TypeId} {z:List AV} (h:zeroOf P t=some z) (w:World):∃ v:Value,(zeroValue t).run P w = .ok v w∧v.cells.size=z.length∧RC1 (RR c) z fun j=>v.cells[j]?:=by
 unfold zeroOf at h
 simp only [Option.bind_eq_some_iff] at h
 obtain ⟨zv,⟨i,hi,hz⟩,hm⟩:=h
 obtain ⟨h1,h2⟩:=mapM_some hm
 refine ⟨zv,by simp [zeroValue,typeInfo,hi,hz],by simpa using h1.symm,fun j y hy=>?_⟩
 obtain ⟨u,hu,hfu⟩:=h2 j y hy
 exact ⟨u,by simpa using hu,BE1 hfu,BL4 hfu⟩
theorem snd_new {o:Oper} {t:TypeId} {z:List AV} {id:Nat} (hR:Rel P c) (hid:¬ c.U id) (ho:o.op = .alloc t) (hz:zeroOf P t=some z) :
  Done P c ((execOp a.eval o).run P c.w) (.ptr id 0) [(id,some (.cells z))] [id]:=by
 obtain ⟨v,h1,h2,h3⟩:=AN5 (c:=c) hz c.w
 exact Aj2 (T:=t) hR hid h3 (by simp [execOp,ho,Instr.alloc,h1,newVar,newRow,newObj,Sem.run]) Ar6
theorem snd_box {o:Oper} {t:TypeId} {x:Operand} {x':AX} {id:Nat} {u:AV} (hF:FR c fr a.tmps) (hG:AV2 G c) (hR:Rel P c) (hid:¬ c.U id) (ho:o.op = .box t x) (hx:cox x=some x') (hu:ax G fr x'=some u) (hf:u.flat=true) :
  Done P c ((execOp a.eval o).run P c.w) (.ptr id 0) [(id,some (.cells u.cells))] [id] :=
 Aj2 (T:=t) hR hid (Ap4 (J9 hF hG hx hu) hf).2 (by simp [execOp,ho,Instr.box,newVar,newRow,newObj,Sem.run]) Ar6
theorem snd_load {o:Oper} {t:TypeId} {x:Operand} {x':AX} {ag:Bool} {n id:Nat} {v:AV} {up:Up} {rd:List Nat} (hF:FR c fr a.tmps) (hG:AV2 G c) (hR:Rel P c) (ho:o.op = .load t x) (hb:Aq0 P t=some ag) (hn:AJ3 P t=some n) (hx:cox x=some x')
  (hv:G7 (ax G fr) c.at_ id (.load ag n x')=some (v,up,rd)):Done P c ((execOp a.eval o).run P c.w) v up []:=by
 simp only [G7] at hv
 split at hv
 ·rename_i u hu
  have r1:=J9 hF hG hx hu
  split at hv
  ·rename_i w rd' hw
   cases hv
   have key:∃ b q,a.eval x = .pointer (some ⟨b,q,none⟩)∧∃ cs,RC1 (RR c) cs (fun j=>c.w.cell? ⟨b,q+j,none⟩)∧AU3 ag 0 n cs=some v:=by
    unfold Ae0 at hw
    split at hw
    ·rename_i i off
     split at hw
     ·rename_i cs hi
      simp only [Option.map_eq_some_iff] at hw
      obtain ⟨y,hy,hyy⟩:=hw
      cases hyy
      obtain ⟨b,q,h1,h2⟩:=BT9 hR hi r1
      rcases As1 (ag:=ag) (o:=off) (n:=n) (cs:=cs) with e|e
      ·exact ⟨b,q,h1,_,h2,by rw [← e];exact hy⟩
      ·rw [e] at hy;cases hy
     ·cases hw
    ·rename_i cs
     simp only [Option.map_eq_some_iff] at hw
     obtain ⟨y,hy,hyy⟩:=hw
     cases hyy
     obtain ⟨b,q,h1,_,h2⟩:=AH0.1 r1
     exact ⟨b,q,h1,cs,h2,hy⟩
    ·cases hw
   obtain ⟨b,q,h1,cs,h2,h3⟩:=key
   obtain ⟨val,h4,h5⟩:=run_load hb hn h2 h3
   exact Done.pure hR (by simp [execOp,ho,Instr.loadAt,Instr.sureAddr,h1,h4]) h5
  ·cases hv
 ·cases hv
theorem snd_store {o:Oper} {t:TypeId} {x y:Operand} {x' y':AX} {n id:Nat} {v:AV} {up:Up} {rd:List Nat} (hF:FR c fr a.tmps) (hG:AV2 G c) (hR:Rel P c) (ho:o.op = .store t x y) (hn:AJ3 P t=some n) (hx:cox x=some x') (hy:cox y=some y')
  (hv:G7 (ax G fr) c.at_ id (.store n x' y')=some (v,up,rd)):Done P c ((execOp a.eval o).run P c.w) v up []:=by
 simp only [G7] at hv
 split at hv
 ·rename_i p u hp hu
  have r1:=J9 hF hG hx hp
  have r2:=J9 hF hG hy hu
  split at hv
  ·rename_i up' rd' hw
   cases hv
   unfold Af8 at hw
   split at hw
   ·rename_i i off
    split at hw
    ·rename_i cs hi
     split at hw
     ·rename_i hc
      cases hw
      obtain ⟨w',h1,h2,h3⟩:=run_store hR hn hi r1 r2 hc.1 hc.2.1 hc.2.2.1 hc.2.2.2
      exact ⟨_,.inr ⟨by simp [execOp,ho,h1];rfl,rfl⟩,h2,h3,rfl,fun i=>by simp [Cx.wr]⟩
     ·cases hw
    ·cases hw
   ·cases hw
  ·cases hv
 ·cases hv
end
end Go.Am
namespace Go.Am
section
variable {P:Program} {c:Cx} {G:Gl} {fr:List AV} {a:Act}
theorem An8 {z:List AV} {s:Nat} (hz:z.length=s):∀ (n j:Nat) (x:AV),(List.replicate n z).flatten[j]? = some x→j < n * s∧z[j % s]? = some x
 | 0,j,x,h=>by simp at h
 | n+1,j,x,h=>by
  rw [List.replicate_succ,List.flatten_cons] at h
  rcases Nat.lt_or_ge j s with hj|hj
  ·rw [List.getElem?_append_left (by omega)] at h
   rw [Nat.mod_eq_of_lt hj]
   exact ⟨by rw [Nat.succ_mul];omega,h⟩
  ·rw [List.getElem?_append_right (by omega),hz] at h
   obtain ⟨h1,h2⟩:=An8 hz n (j - s) x h
   refine ⟨by rw [Nat.succ_mul];omega,?_⟩
   rw [Nat.mod_eq_sub_mod hj];exact h2
theorem BK3 {z:List AV} {s n:Nat} {zv:Array Value} (hz:z.length=s) (hs:zv.size=s) (h:RC1 (RR c) z fun j=>zv[j]?) :
  RC1 (RR c) (List.replicate n z).flatten fun j=>((Array.range (n * s)).map fun i=>zv[i % zv.size]!)[j]?:=fun j x hx=>by
 obtain ⟨h1,h2⟩:=An8 hz n j x hx
 obtain ⟨u,hu,hr⟩:=h _ x h2
 have hu':zv[j % s]? = some u:=hu
 refine ⟨u,?_,hr⟩
 have hlt:j % s < zv.size:=by
  rcases Nat.lt_or_ge (j % s) zv.size with h|h
  ·exact h
  ·rw [Array.getElem?_eq_none h] at hu';cases hu'
 have : zv[j % s]! = u:=by rw [getElem!_pos zv _ hlt];rw [Array.getElem?_eq_getElem hlt] at hu';exact Option.some.inj hu'
 simp [h1,hs,this]
theorem AX3 {z:List AV} {s:Nat} (hz:z.length=s) (n:Nat):(List.replicate n z).flatten.length=n * s:=by
 induction n with
 | zero=>simp
 | succ n ih=>rw [List.replicate_succ,List.flatten_cons,List.length_append,ih,hz,Nat.succ_mul];omega
theorem foldl_over (vs:List Value) (cs:Array Value) (o k:Nat):(vs.zipIdx k).foldl (fun (cs:Array Value) (p:Value × Nat)=>cs.setIfInBounds (o+p.2) p.1) cs=AU4 cs (o+k) vs:=by
 induction vs generalizing cs k with
 | nil=>rfl
 | cons v vs ih=>rw [List.zipIdx_cons,List.foldl_cons,ih,AU4];rfl
theorem Ax1 {place:Nat→Option (Nat × Nat)}:∀ (l:List (Nat × Operand)) (ps:List (Nat × Nat × AX)) (vs:List (Nat × Nat × AV)) (z z':List AV) (arr:Array Value),FR c fr a.tmps→AV2 G c→AV0 place l=some ps→AU6 (ax G fr) ps=some vs→Ax2 z vs=some z' →
  arr.size=z.length→RC1 (RR c) z (fun j=>arr[j]?)→∃ arr',Instr.fill place arr (l.map fun p=>(p.1,a.eval p.2))=some arr'∧arr'.size=z'.length∧RC1 (RR c) z' fun j=>arr'[j]?
 | [],ps,vs,z,z',arr,hF,hG,hc,hv,hf,hs,hr=>by
  cases hc;cases hv;cases hf
  exact ⟨arr,rfl,hs,hr⟩
 | (i,x)::l,ps,vs,z,z',arr,hF,hG,hc,hv,hf,hs,hr=>by
  simp only [AV0] at hc
  split at hc
  ·rename_i o s y ps' hpl hx hps
   cases hc
   simp only [AU6] at hv
   split at hv
   ·rename_i v vs' hy hvs
    cases hv
    simp only [Ax2] at hf
    split at hf
    ·rename_i hcond
     obtain ⟨h1,h2⟩:=Ap4 (J9 hF hG hx hy) hcond.1
     have h3:=AR0 v.cells (a.eval x).cells.toList 0 o z arr (by simp [h1]) (h2.imp (fun _ _ h=>h) fun j u hj=>by simpa using hj) (hr.imp (fun _ _ h=>h) fun j u hj=>by simpa using hj)
     obtain ⟨arr',h4,h5,h6⟩:=Ax1 l ps' vs' (over z o v.cells) z' (AU4 arr o (a.eval x).cells.toList) hF hG hps hvs hf (by rw [AT6,AW7,hs]) (h3.imp (fun _ _ h=>h) fun j u hj=>by simpa using hj)
     refine ⟨arr',?_,h5,h6⟩
     simp only [List.map_cons,Instr.fill,hpl]
     have hb:((a.eval x).cells.size ≠ s || o+(a.eval x).cells.size > arr.size)=false:=by
      simp [h1,hcond.2.1,hs];omega
     rw [if_neg (by rw [hb];simp)]
     have hfold:=foldl_over (a.eval x).cells.toList arr o 0
     rw [← Array.foldl_toList,Array.toList_zipIdx]
     have : (List.foldl (fun cs (x:Value × Nat)=>match x with|(c,j)=>cs.setIfInBounds (o+j) c) arr ((a.eval x).cells.toList.zipIdx 0))=AU4 arr o (a.eval x).cells.toList:=hfold
     rw [this]
     exact h4
    ·cases hf
   ·cases hv
  ·cases hc
theorem snd_build {o:Oper} {t:TypeId} {ps:Array (Nat × Operand)} {y:AOp} {id:Nat} {v:AV} {up:Up} {rd:List Nat} (hF:FR c fr a.tmps) (hG:AV2 G c) (hR:Rel P c) (ho:o.op = .build t ps) (hc:cop P (.build t ps)=some y)
  (hv:G7 (ax G fr) c.at_ id y=some (v,up,rd)):Done P c ((execOp a.eval o).run P c.w) v up []∧up=[]:=by
 have fin:∀ (place:Nat→Option (Nat × Nat)) (l:List (Nat × Nat × AX)) (z:List AV),zeroOf P t=some z→AV0 place ps.toList=some l→G7 (ax G fr) c.at_ id (.build z l)=some (v,up,rd) →
   (∀ zv cells,(∃ i,P.info? t=some i∧i.zero=some zv)→Instr.fill place zv.cells ((ps.map fun (i,x)=>(i,a.eval x)).toList)=some cells→P.built t (ps.map fun (i,x)=>(i,a.eval x)).toList=some cells) →
   Done P c ((execOp a.eval o).run P c.w) v up []∧up=[]:=fun place l z hz hl hv hb=>by
  simp only [G7] at hv
  split at hv
  ·rename_i vs hvs
   obtain ⟨h1,rfl,rfl⟩:=Z0 hv
   simp only [Option.map_eq_some_iff] at h1
   obtain ⟨z',hz',rfl⟩:=h1
   unfold zeroOf at hz
   simp only [Option.bind_eq_some_iff] at hz
   obtain ⟨zv,⟨i,hi,hiz⟩,hm⟩:=hz
   obtain ⟨m1,m2⟩:=mapM_some hm
   obtain ⟨arr',h2,h3,h4⟩:=Ax1 (c:=c) (a:=a) ps.toList l vs z z' zv.cells hF hG hl hvs hz' (by simpa using m1.symm) fun j y hy=>by
    obtain ⟨u,hu,hfu⟩:=m2 j y hy
    exact ⟨u,by simpa using hu,BE1 hfu,BL4 hfu⟩
   have hlist:(ps.map fun (x:Nat × Operand)=>(x.1,a.eval x.2)).toList=ps.toList.map fun p=>(p.1,a.eval p.2):=by simp
   refine ⟨Done.pure hR ?_ (AB4.2 ⟨arr',rfl,h3,h4⟩),rfl⟩
   have:=run_build (P:=P) c.w t (ps.map fun (i,x)=>(i,a.eval x)) arr' (hb zv arr' ⟨i,hi,hiz⟩ (by rw [hlist];exact h2))
   simp [execOp,ho,this]
  ·cases hv
 simp only [cop] at hc
 split at hc
 ·rename_i fs z hu hz
  split at hc
  ·rename_i pl hpl
   simp only [Option.map_eq_some_iff] at hc
   obtain ⟨l,hl,rfl⟩:=hc
   exact fin _ l z hz hl hv fun zv cells ⟨i,hi,hiz⟩ hf=>by simpa [Program.built,hi,hu,hiz,hpl] using hf
  ·cases hc
 ·rename_i n e z hu hz
  simp only [Option.bind_eq_some_iff,Option.map_eq_some_iff] at hc
  obtain ⟨s,hs,l,hl,rfl⟩:=hc
  unfold AJ3 at hs
  simp only [Option.map_eq_some_iff] at hs
  obtain ⟨ie,hie,rfl⟩:=hs
  exact fin _ l z hz hl hv fun zv cells ⟨i,hi,hiz⟩ hf=>by simpa [Program.built,hi,hu,hiz,hie] using hf
 ·cases hc
theorem snd_bslice {o:Oper} {t e:TypeId} {n s id:Nat} {ps:Array (Nat × Operand)} {l:List (Nat × Nat × AX)} {z:List AV} {v:AV} {up:Up} {rd:List Nat} (hF:FR c fr a.tmps) (hG:AV2 G c) (hR:Rel P c) (hid:¬ c.U id) (ho:o.op = .buildSlice t n ps)
  (hu:P.underlying t=some (.slice e)) (hs:AJ3 P e=some s) (hz:zeroOf P e=some z) (h24:n * s≤2 ^ 24) (hzl:z.length=s) (hm:n≤maxLen) (hl:AV0 (fun i=>some (i * s,s)) ps.toList=some l)
  (hv:G7 (ax G fr) c.at_ id (.bslice s n (List.replicate n z).flatten l)=some (v,up,rd)):Done P c ((execOp a.eval o).run P c.w) v up [id]:=by
 simp only [G7] at hv
 split at hv
 ·rename_i vs hvs
  split at hv
  ·rename_i cs hcs
   cases hv
   obtain ⟨zv,h1,h2,h3⟩:=AN5 (c:=c) hz c.w
   unfold AJ3 at hs
   simp only [Option.map_eq_some_iff] at hs
   obtain ⟨ie,hie,hs⟩:=hs
   obtain ⟨arr',h4,h5,h6⟩:=Ax1 (c:=c) (a:=a) ps.toList l vs (List.replicate n z).flatten cs ((Array.range (n * s)).map fun i=>zv.cells[i % zv.cells.size]!) hF hG hl hvs hcs (by simp [AX3 hzl]) (BK3 hzl (by rw [h2,hzl]) h3)
   have hlist:(ps.map fun (x:Nat × Operand)=>(x.1,a.eval x.2)).toList=ps.toList.map fun p=>(p.1,a.eval p.2):=by simp
   have hal:cs.length=n * s:=by
    have : ∀ (vs:List (Nat × Nat × AV)) (z z':List AV),Ax2 z vs=some z'→z'.length=z.length:=by
     intro vs
     induction vs with
     | nil=>intro z z' h;cases h;rfl
     | cons p vs ih =>
      intro z z' h
      obtain ⟨o,s,v⟩:=p
      simp only [Ax2] at h
      split at h
      ·rw [ih _ _ h,AW7]
      ·cases h
    rw [this _ _ _ hcs,AX3 hzl]
   refine Aj2 (T:=e) hR hid h6 ?_ (BC3 (Nat.le_refl _) hm (by rw [h5,hal];omega))
   by_cases h0:n * s=0
   ·have h4':Instr.fill (fun i=>some (i * s,s)) #[] ((ps.map fun (x:Nat × Operand)=>(x.1,a.eval x.2)).toList)=some arr':=by
     rw [hlist]
     have : (Array.range (n * s)).map (fun i=>zv.cells[i % zv.cells.size]!) = #[]:=by rw [h0];simp
     rw [this] at h4;exact h4
    have hcell:(Instr.buildSlice t n (ps.map fun (i,x)=>(i,a.eval x))).run P c.w = .ok (.slice (some ⟨c.w.heap.size,0,none⟩) n n) (c.w.alloc (.cells arr' e)):=by
     have h4'':Instr.fill (fun i=>some (i * s,s)) #[] (ps.map fun (i,x)=>(i,a.eval x)).toList=some arr':=h4'
     generalize (ps.map fun (i,x)=>(i,a.eval x))=qs at h4'' ⊢
     simp only [Instr.buildSlice,run_underlying hu,sizeOf,typeInfo,Sem.run_bind,Result.andThen_ok,run_program,hie,Sem.run_pure,hs,h0,if_true,Nat.not_lt_zero,if_false,gt_iff_lt]
     simp [newRow,newObj,Sem.run]
     rw [show Array.map (fun x=>(default:Value)) (Array.range 0) = #[] from Array.eq_empty_of_size_eq_zero (by simp),h4'']
     simp [Sem.run]
    simp [execOp,ho,hcell]
   ·have h4':=h4
    rw [← hlist] at h4'
    have hcell:(Instr.buildSlice t n (ps.map fun (i,x)=>(i,a.eval x))).run P c.w = .ok (.slice (some ⟨c.w.heap.size,0,none⟩) n n) (c.w.alloc (.cells arr' e)):=by
     obtain ⟨zv',hzi⟩:∃ zv',ie.zero=some zv':=by
      unfold zeroOf at hz
      rw [hie] at hz
      cases hq:ie.zero with
      | none=>simp [hq] at hz
      | some q=>exact ⟨q,rfl⟩
     have hzz:zv=zv':=by
      have : (zeroValue e).run P c.w = .ok zv' c.w:=by simp [zeroValue,typeInfo,hie,hzi]
      rw [h1] at this;cases this;rfl
     subst hzz
     exact run_buildSlice (P:=P) c.w t e n _ arr' ie zv hu hie hzi (by rw [hs];omega) (by rw [hs];exact h0) (by rw [hs];exact h4')
    simp [execOp,ho,hcell]
  ·cases hv
 ·cases hv
end
end Go.Am
namespace Go.Am
section
variable {P:Program} {c:Cx} {G:Gl} {fr:List AV} {a:Act}
theorem AJ2 {t:TypeId} {n:Nat} (h:AJ3 P t=some n) (w:World):(sizeOf t).run P w = .ok n w:=by
 unfold AJ3 at h
 simp only [Option.map_eq_some_iff] at h
 obtain ⟨i,hi,rfl⟩:=h
 simp [sizeOf,typeInfo,hi]
theorem snd_nchk {x:AV} {u:Value} {r:AV} (hx:RR c x u) (h:nchkV x=some r):r=x∧∃ p,u = .pointer (some p):=by
 unfold nchkV at h
 split at h
 ·cases h;obtain ⟨_,rfl⟩:=AC9.1 hx;exact ⟨rfl,_,rfl⟩
 ·cases h;obtain ⟨_,_,rfl,_⟩:=AH0.1 hx;exact ⟨rfl,_,rfl⟩
 ·cases h
theorem BV7 {t e:TypeId} (ht:P.underlying t=some (.pointer e)) (p:Option Addr) (d:Nat) (w:World):(Op.equalIn (d+1) t (.pointer p) (.pointer none)).run P w = .ok p.isNone w∧(Op.equalIn (d+1) t (.pointer none) (.pointer p)).run P w = .ok p.isNone w:=by
 constructor
 ·cases p<;>simp [Op.equalIn,run_underlying ht]
 ·cases p<;>simp [Op.equalIn,run_underlying ht]
theorem BO1 {t:TypeId} {ps rs:Array TypeId} {vr:Bool} (ht:P.underlying t=some (.func ps rs vr)) (d:Nat) (w:World):(Op.equalIn (d+1) t .nilFunc .nilFunc).run P w = .ok true w ∧
  ∀ f x y,(Op.equalIn (d+1) t (.func f x y) .nilFunc).run P w = .ok false w∧(Op.equalIn (d+1) t .nilFunc (.func f x y)).run P w = .ok false w:=by
 refine ⟨by simp [Op.equalIn,run_underlying ht],fun f x y=>⟨by simp [Op.equalIn,run_underlying ht],by simp [Op.equalIn,run_underlying ht]⟩⟩
theorem Aa8 (t:TypeId) (x y:Value):Op.equal t x y=Op.equalIn (9999+1) t x y:=rfl
theorem snd_eqb {op:BinOp} {t:TypeId} {x y:AV} {u v:Value} {r:AV} (ht:P.underlying t=some .bool) (hop:op = .eql∨op = .neq) (hx:RR c x u) (hy:RR c y v) (h:eqbV (op == .neq) x y=some r) :
  ∃ val,(binOp op t u v).run P c.w = .ok val c.w∧RR c r val:=by
 unfold eqbV at h
 split at h
 ·simp only [RR_bool] at hx hy
  subst hx;subst hy
  cases h
  rcases hop with rfl|rfl
  ·exact ⟨_,by simp [binOp,Aa8,run_equalIn_bool _ 9999 t _ _ ht],RR_bool.2 rfl⟩
  ·exact ⟨_,by simp [binOp,Aa8,run_equalIn_bool _ 9999 t _ _ ht],RR_bool.2 rfl⟩
 ·cases h
theorem Aa0 {fn:Bool} {x:AV} {u:Value} {b:Bool} (hx:RR c x u) (h:nilK fn x=some b):(fn=false∧∃ p,u = .pointer p∧b=p.isNone)∨(fn=true∧((u = .nilFunc∧b=true)∨∃ f vf vc,u = .func f vf vc∧b=false)):=by
  unfold nilK at h
  split at h<;>first
    | (cases h;done)
    | (split at h
       · cases h
       · rename_i hf
         simp only [Option.some.injEq] at h
         subst h
         refine .inl ⟨by simpa using hf,?_⟩
         first
           | (simp only [RR_nilp] at hx;exact ⟨_,hx,rfl⟩)
           | (obtain ⟨_,rfl⟩:=AC9.1 hx;exact ⟨_,rfl,rfl⟩)
           | (obtain ⟨_,_,rfl,_⟩:=AH0.1 hx;exact ⟨_,rfl,rfl⟩))
    | (split at h
       · rename_i hf
         simp only [Option.some.injEq] at h
         subst h
         refine .inr ⟨hf,?_⟩
         first
           | (simp only [RR_nilf] at hx;exact .inl ⟨hx,rfl⟩)
           | (obtain ⟨_,_,rfl,_⟩:=AS6.1 hx;exact .inr ⟨_,_,_,rfl,rfl⟩)
       · cases h)
theorem snd_eqp {op:BinOp} {t:TypeId} {d:TypeDesc} {fn:Bool} {x y:AV} {u v:Value} {r:AV} (ht:P.underlying t=some d) (hd:(fn=false∧∃ e,d = .pointer e)∨(fn=true∧∃ p q s,d = .func p q s)) (hop:op = .eql∨op = .neq) (hx:RR c x u) (hy:RR c y v) (h:eqpV (op == .neq) fn x y=some r) :
  ∃ val,(binOp op t u v).run P c.w = .ok val c.w∧RR c r val:=by
 have key:∃ b,(Op.equal t u v).run P c.w = .ok b c.w∧r = .bool (if op == .neq then !b else b)∧((∃ p,u = .pointer p)∨u = .nilFunc∨∃ f vf vc,u = .func f vf vc):=by
  unfold eqpV at h
  have fin:∀ b b',nilK fn x=some b→nilK fn y=some b'→(b=true∨b'=true)→((Op.equal t u v).run P c.w = .ok (b && b') c.w∧((∃ p,u = .pointer p)∨u = .nilFunc∨∃ f vf vc,u = .func f vf vc)):=fun b b' h1 h2 hb=>by
   rcases Aa0 hx h1 with ⟨rfl,p,rfl,rfl⟩ | ⟨rfl,h3⟩
   ·rcases Aa0 hy h2 with ⟨_,q,rfl,rfl⟩ | ⟨h,_⟩
    ·rcases hd with ⟨_,e,rfl⟩ | ⟨h,_⟩
     ·refine ⟨?_,.inl ⟨_,rfl⟩⟩
      cases p with
      | none=>rw [Aa8,(BV7 ht q 9999 c.w).2];rfl
      | some p =>
       have : q=none:=by simpa using hb
       subst this
       rw [Aa8,(BV7 ht (some p) 9999 c.w).1];rfl
     ·cases h
    ·cases h
   ·rcases Aa0 hy h2 with ⟨h,_⟩ | ⟨_,h4⟩
    ·cases h
    ·rcases hd with ⟨h,_⟩ | ⟨_,p,q,s,rfl⟩
     ·cases h
     ·rcases h3 with ⟨rfl,rfl⟩ | ⟨f,vf,vc,rfl,rfl⟩<;>rcases h4 with ⟨rfl,rfl⟩ | ⟨f',vf',vc',rfl,rfl⟩
      ·exact ⟨(BO1 ht 9999 c.w).1,.inr (.inl rfl)⟩
      ·exact ⟨((BO1 ht 9999 c.w).2 _ _ _).2,.inr (.inl rfl)⟩
      ·exact ⟨((BO1 ht 9999 c.w).2 _ _ _).1,.inr (.inr ⟨_,_,_,rfl⟩)⟩
      ·simp at hb
  split at h
  ·rename_i b h1 h2
   cases h
   obtain ⟨k1,k2⟩:=fin _ _ h1 h2 (.inl rfl)
   exact ⟨b,by simpa using k1,rfl,k2⟩
  ·rename_i b _ h1 h2
   cases h
   obtain ⟨k1,k2⟩:=fin _ _ h1 h2 (.inr rfl)
   exact ⟨b,by simpa using k1,rfl,k2⟩
  ·cases h
 obtain ⟨b,h1,rfl,hu⟩:=key
 refine ⟨.bool (if op == .neq then !b else b),?_,RR_bool.2 rfl⟩
 rcases hop with rfl|rfl<;>rcases hu with ⟨p,rfl⟩|rfl | ⟨f,vf,vc,rfl⟩<;>simp [binOp,h1]
theorem Aj1 {k:Nat} {ks:List Nat} {x y:AV} {r s:List AV} {b:Bool} (h:eqL (k::ks) (x::r) (y::s)=some b):∃ p t,eq1 k x y=some p∧eqL ks r s=some t∧b=(p && t):=by
 simp only [eqL,Option.bind_eq_some_iff,Option.map_eq_some_iff] at h
 obtain ⟨p,h1,t,h2,rfl⟩:=h
 exact ⟨p,t,h1,h2,rfl⟩
theorem BO0:∀ {k1 k2:List Nat} {x1 x2 y1 y2:List AV} {b:Bool},x1.length=k1.length→y1.length=k1.length→eqL (k1++k2) (x1++x2) (y1++y2)=some b→∃ p t,eqL k1 x1 y1=some p∧eqL k2 x2 y2=some t∧b=(p && t)
 | [],_,[],_,[],_,b,_,_,h=>⟨true,b,rfl,h,by simp⟩
 | k::k1,k2,x::x1,x2,y::y1,y2,b,h1,h2,h=>by
  obtain ⟨p,t,e1,e2,rfl⟩:=Aj1 (ks:=k1++k2) h
  obtain ⟨p',t',e3,e4,rfl⟩:=BO0 (k1:=k1) (by simpa using h1) (by simpa using h2) e2
  exact ⟨p && p',t',by simp [eqL,e1,e3],e4,by rw [Bool.and_assoc]⟩
 | [],_,_::_,_,_,_,_,h1,_,_=>by simp at h1
 | [],_,[],_,_::_,_,_,_,h2,_=>by simp at h2
 | _::_,_,[],_,_,_,_,h1,_,_=>by simp at h1
 | _::_,_,_::_,_,[],_,_,_,h2,_=>by simp at h2
def l7 (c:Cx) (xs:List AV) (us:Array Value) (i:Nat):Prop:=RC1 (RR c) xs fun j=>us[i+j]?
theorem l7.take {xs:List AV} {us:Array Value} {i n:Nat} (h:l7 c xs us i):l7 c (xs.take n) us i:=fun j x hx=>by
 rw [List.getElem?_take] at hx
 split at hx
 ·exact h j x hx
 ·cases hx
theorem l7.drop {xs:List AV} {us:Array Value} {i n:Nat} (h:l7 c xs us i):l7 c (xs.drop n) us (i+n):=fun j x hx=>by
 rw [List.getElem?_drop] at hx
 have:=h (n+j) x hx
 show ∃ u,us[i+n+j]? = some u∧_
 rw [Nat.add_assoc];exact this
theorem l7.cut {xs:List AV} {us:Array Value} {i n:Nat} (h:l7 c xs us i) (hn:xs.length≤n):l7 c xs (us.extract i (i+n)) 0:=fun j x hx=>by
 obtain ⟨u,hu,hr⟩:=h j x hx
 have hj:j < xs.length:=by
  by_cases h0:j < xs.length
  ·exact h0
  ·rw [List.getElem?_eq_none (by omega)] at hx;cases hx
 refine ⟨u,?_,hr⟩
 have hu':us[i+j]? = some u:=hu
 have hlt:i+j < us.size:=by
  by_cases h0:i+j < us.size
  ·exact h0
  ·rw [Array.getElem?_eq_none (by omega)] at hu';cases hu'
 show (us.extract i (i+n))[0+j]? = some u
 rw [Nat.zero_add,Array.getElem?_extract,if_pos (by omega)]
 exact hu'
def EqAtT (P:Program) (c:Cx) (t:TypeId) (ks:List Nat) (D:Nat):Prop:=∀ (w:World) (i:Nat) (xs ys:List AV) (us vs:Array Value) (b:Bool),xs.length=ks.length→ys.length=ks.length→l7 c xs us i→l7 c ys vs i→eqL ks xs ys=some b→∃ u v,(part t us i).run P w = .ok u w∧(part t vs i).run P w = .ok v w∧(Op.equalIn D t u v).run P w = .ok b w
theorem BV9 {g:TypeId→Option (List Nat)} {D:Nat} (hg:∀ t ks,g t=some ks→EqAtT P c t ks D) (w:World) {us vs:Array Value}:∀ (fs:List Field) (i:Nat) (ks:List Nat) (xs ys:List AV) (b:Bool),AX1 g fs i=some ks→xs.length=ks.length→ys.length=ks.length→l7 c xs us i→l7 c ys vs i→eqL ks xs ys=some b→(Op.eqFields D us vs fs).run P w = .ok b w
 | [],i,ks,xs,ys,b,hk,h1,h2,_,_,h=>by
  cases hk
  obtain rfl:=List.eq_nil_of_length_eq_zero h1
  obtain rfl:=List.eq_nil_of_length_eq_zero h2
  simp only [eqL,Option.some.injEq] at h
  subst h;simp [Op.eqFields]
 | f::fs,i,ks,xs,ys,b,hk,h1,h2,hx,hy,h=>by
  simp only [AX1] at hk
  split at hk
  ·rename_i hno
   split at hk
   ·rename_i l hl
    simp only [Option.map_eq_some_iff] at hk
    obtain ⟨r,hr,rfl⟩:=hk
    rw [List.length_append] at h1 h2
    rw [← List.take_append_drop l.length xs,← List.take_append_drop l.length ys] at h
    obtain ⟨p,t,e1,e2,rfl⟩:=BO0 (by rw [List.length_take];omega) (by rw [List.length_take];omega) h
    obtain ⟨u,v,k1,k2,k3⟩:=hg _ _ hl w i _ _ us vs p (by rw [List.length_take];omega) (by rw [List.length_take];omega) hx.take hy.take e1
    have ih:=BV9 hg w fs (i+l.length) r _ _ t hr (by rw [List.length_drop];omega) (by rw [List.length_drop];omega) hx.drop hy.drop e2
    simp only [Op.eqFields]
    simp only [ne_eq,hno.1,not_false_eq_true,if_true,hno.2]
    simp [k1,k2,k3]
    cases p<;>simp [ih]
   ·cases hk
  ·cases hk
theorem BV8 {e:TypeId} {l:List Nat} {D:Nat} (hg:EqAtT P c e l D) (hn:P.cellsOf e=l.length) (w:World) {us vs:Array Value}:∀ (n i:Nat) (xs ys:List AV) (b:Bool),xs.length=n * l.length→ys.length=n * l.length→l7 c xs us (i * l.length)→l7 c ys vs (i * l.length)→eqL (List.replicate n l).flatten xs ys=some b→(Op.eqItems D e (P.cellsOf e) us vs (List.range' i n)).run P w = .ok b w
 | 0,i,xs,ys,b,h1,h2,_,_,h=>by
  rw [Nat.zero_mul] at h1 h2
  obtain rfl:=List.eq_nil_of_length_eq_zero h1
  obtain rfl:=List.eq_nil_of_length_eq_zero h2
  simp only [List.replicate,List.flatten_nil,eqL,Option.some.injEq] at h
  subst h;simp [Op.eqItems]
 | n+1,i,xs,ys,b,h1,h2,hx,hy,h=>by
  rw [Nat.succ_mul] at h1 h2
  rw [List.replicate_succ,List.flatten_cons,← List.take_append_drop l.length xs,← List.take_append_drop l.length ys] at h
  obtain ⟨p,t,e1,e2,rfl⟩:=BO0 (by rw [List.length_take];omega) (by rw [List.length_take];omega) h
  obtain ⟨u,v,k1,k2,k3⟩:=hg w (i * l.length) _ _ us vs p (by rw [List.length_take];omega) (by rw [List.length_take];omega) hx.take hy.take e1
  have ih:=BV8 hg hn w n (i+1) _ _ t (by rw [List.length_drop];omega) (by rw [List.length_drop];omega) (by rw [Nat.succ_mul];exact hx.drop) (by rw [Nat.succ_mul];exact hy.drop) e2
  rw [hn] at ih ⊢
  rw [List.range'_succ]
  simp only [Op.eqItems]
  simp [k1,k2,k3]
  cases p<;>simp [ih]
theorem szOf_info {t:TypeId} {n:Nat} (h:AJ3 P t=some n):∃ i,P.info? t=some i∧P.cellsOf t=n:=by
 unfold AJ3 at h
 simp only [Option.map_eq_some_iff] at h
 obtain ⟨i,hi,rfl⟩:=h
 exact ⟨i,hi,by simp [Program.cellsOf,hi]⟩
theorem BS2 {t:TypeId} {us:Array Value} {i n:Nat} (w:World) (ha:(isAgg t).run P w = .ok true w) (hs:AJ3 P t=some n):(part t us i).run P w = .ok (.agg (us.extract i (i+n))) w:=by
 simp [part,ha,AJ2 hs]
theorem Ax8 {d D:Nat} (hd:∀ t ks,V7 P d t=some ks→EqAtT P c t ks D) {t:TypeId} {ks:List Nat} (h:V7 P (d+1) t=some ks) (ha:(∃ fs,P.underlying t=some (.struct fs))∨∃ n e,P.underlying t=some (.array n e)) :
  AJ3 P t=some ks.length∧(∀ w,(isAgg t).run P w = .ok true w)∧∀ (w:World) (xs ys:List AV) (us vs:Array Value) (b:Bool),xs.length=ks.length→ys.length=ks.length→l7 c xs us 0→l7 c ys vs 0→eqL ks xs ys=some b→(Op.equalIn (D+1) t (.agg us) (.agg vs)).run P w = .ok b w:=by
 rcases ha with ⟨fs,hu⟩ | ⟨n,e,hu⟩
 ·simp only [V7,hu] at h
  split at h
  ·rename_i hst
   split at h
   ·rename_i l hl
    split at h
    ·rename_i hsz
     cases h
     refine ⟨hsz,fun w=>by simp [isAgg,run_underlying hu],fun w xs ys us vs b h1 h2 hx hy h=>?_⟩
     have hf:P.fieldsOf t=fs:=by simp [Program.fieldsOf,hu]
     rw [run_equalIn_agg w D t us vs (by rw [hf];exact hu) hst,hf]
     exact BV9 hd w fs.toList 0 ks xs ys b hl h1 h2 hx hy h
    ·cases h
   ·cases h
  ·cases h
 ·simp only [V7,hu] at h
  split at h
  ·rename_i l hl
   split at h
   ·rename_i hsz
    cases h
    have hlen:(List.replicate n l).flatten.length=n * l.length:=by simp
    obtain ⟨i,hi,hc⟩:=szOf_info hsz.1
    refine ⟨by rw [hlen];exact hsz.2,fun w=>by simp [isAgg,run_underlying hu],fun w xs ys us vs b h1 h2 hx hy h=>?_⟩
    rw [hlen] at h1 h2
    rw [run_equalIn_array w D us vs hu hi,List.range_eq_range']
    exact BV8 (hd _ _ hl) hc w n 0 xs ys b h1 h2 (by rw [Nat.zero_mul];exact hx) (by rw [Nat.zero_mul];exact hy) h
   ·cases h
  ·cases h
theorem one_cell {xs:List AV} {us:Array Value} {i:Nat} (h:xs.length=1) (hx:l7 c xs us i):∃ x u,xs=[x]∧us[i]? = some u∧RR c x u:=by
 match xs,h with
 | [x],_ =>
  obtain ⟨u,hu,hr,_⟩:=hx 0 x rfl
  exact ⟨x,u,rfl,hu,hr⟩
theorem BF9 {k:Nat} {x y:AV} {b:Bool} (h:eqL [k] [x] [y]=some b):eq1 k x y=some b:=by
 obtain ⟨p,t,h1,h2,rfl⟩:=Aj1 h
 simp only [eqL,Option.some.injEq] at h2
 subst h2
 rw [h1,Bool.and_true]
theorem Ax6:∀ (d:Nat) {D:Nat},d≤D→∀ t ks,V7 P d t=some ks→EqAtT P c t ks D
 | 0,_,_,t,ks,h=>by cases h
 | d+1,D,hD,t,ks,h=>by
  obtain ⟨D,rfl⟩:∃ D',D=D'+1:=⟨D - 1,by omega⟩
  have ih:=Ax6 d (D:=D) (by omega)
  have agg:((∃ fs,P.underlying t=some (.struct fs))∨∃ n e,P.underlying t=some (.array n e))→EqAtT P c t ks (D+1):=fun ha w i xs ys us vs b h1 h2 hx hy hb=>by
   obtain ⟨e1,e2,e3⟩:=Ax8 ih h ha
   exact ⟨_,_,BS2 w (e2 w) e1,BS2 w (e2 w) e1,e3 w xs ys _ _ b h1 h2 (hx.cut (by omega)) (hy.cut (by omega)) hb⟩
  cases hu:P.underlying t with
  | none=>simp [V7,hu] at h
  | some dsc =>
   cases dsc
   case struct fs=>exact agg (.inl ⟨fs,hu⟩)
   case array n e=>exact agg (.inr ⟨n,e,hu⟩)
   case int k0 =>
    simp only [V7,hu,Option.some.injEq] at h
    subst h
    intro w i xs ys us vs b h1 h2 hx hy hb
    obtain ⟨x,u,rfl,hu1,hxu⟩:=one_cell h1 hx
    obtain ⟨y,v,rfl,hv1,hyv⟩:=one_cell h2 hy
    replace hb:=BF9 hb
    cases x<;>cases y<;>simp only [eq1] at hb<;>first|(cases hb;done)|skip
    rename_i k p k' q
    split at hb
    ·rename_i hk
     subst hk
     obtain rfl:=Option.some.inj hb
     simp only [RR_int] at hxu hyv
     subst hxu;subst hyv
     refine ⟨_,_,?_,?_,run_equalIn_int w D t k k0 p q hu⟩<;>simp [part,isAgg,run_underlying hu,hu1,hv1]
    ·cases hb
   case bool =>
    simp only [V7,hu,Option.some.injEq] at h
    subst h
    intro w i xs ys us vs b h1 h2 hx hy hb
    obtain ⟨x,u,rfl,hu1,hxu⟩:=one_cell h1 hx
    obtain ⟨y,v,rfl,hv1,hyv⟩:=one_cell h2 hy
    replace hb:=BF9 hb
    cases x<;>cases y<;>simp only [eq1] at hb<;>first|(cases hb;done)|skip
    obtain rfl:=Option.some.inj hb
    simp only [RR_bool] at hxu hyv
    subst hxu;subst hyv
    refine ⟨_,_,?_,?_,run_equalIn_bool w D t _ _ hu⟩<;>simp [part,isAgg,run_underlying hu,hu1,hv1]
   case string =>
    simp only [V7,hu,Option.some.injEq] at h
    subst h
    intro w i xs ys us vs b h1 h2 hx hy hb
    obtain ⟨x,u,rfl,hu1,hxu⟩:=one_cell h1 hx
    obtain ⟨y,v,rfl,hv1,hyv⟩:=one_cell h2 hy
    replace hb:=BF9 hb
    cases x<;>cases y<;>simp only [eq1] at hb<;>first|(cases hb;done)|skip
    obtain rfl:=Option.some.inj hb
    simp only [RR_str] at hxu hyv
    subst hxu;subst hyv
    refine ⟨_,_,?_,?_,run_equalIn_string w D t _ _ hu⟩<;>simp [part,isAgg,run_underlying hu,hu1,hv1]
   all_goals (simp [V7,hu] at h;done)
theorem BN9:∀ {ks:List Nat} {xs ys:List AV} {b:Bool},eqL ks xs ys=some b→xs.length=ks.length∧ys.length=ks.length
 | [],[],[],_,_=>⟨rfl,rfl⟩
 | k::ks,x::r,y::s,_,h=>by
  obtain ⟨p,t,_,h2,_⟩:=Aj1 h
  obtain ⟨e1,e2⟩:=BN9 h2
  exact ⟨by simp [e1],by simp [e2]⟩
 | [],[],_::_,_,h=>by cases h
 | [],_::_,_,_,h=>by cases h
 | _::_,[],_,_,h=>by cases h
 | _::_,_::_,[],_,h=>by cases h
theorem snd_eqs {op:BinOp} {t:TypeId} {ks:List Nat} {x y:AV} {u v:Value} {r:AV} (ht:(∃ fs,P.underlying t=some (.struct fs))∨∃ n e,P.underlying t=some (.array n e)) (hl:V7 P 9 t=some ks) (hop:op = .eql∨op = .neq) (hx:RR c x u) (hy:RR c y v) (h:eqsV (op == .neq) ks x y=some r) :
  ∃ xs ys val,u = .agg xs∧v = .agg ys∧(binOp op t u v).run P c.w = .ok val c.w∧RR c r val:=by
 unfold eqsV at h
 split at h
 ·simp only [Option.map_eq_some_iff] at h
  obtain ⟨b,hb,rfl⟩:=h
  obtain ⟨xs,rfl,_,h1⟩:=AB4.1 hx
  obtain ⟨ys,rfl,_,h2⟩:=AB4.1 hy
  obtain ⟨l1,l2⟩:=BN9 hb
  have he:(Op.equalIn 10000 t (.agg xs) (.agg ys)).run P c.w = .ok b c.w :=
   (Ax8 (D:=9999) (Ax6 8 (by decide)) hl ht).2.2 c.w _ _ xs ys b l1 l2 (h1.imp (fun _ _ h=>h) fun j u hj=>by simpa using hj) (h2.imp (fun _ _ h=>h) fun j u hj=>by simpa using hj) hb
  rcases hop with rfl|rfl
  ·exact ⟨xs,ys,.bool b,rfl,rfl,by rw [run_eql_struct,he];rfl,RR_bool.2 (by simp)⟩
  ·exact ⟨xs,ys,.bool !b,rfl,rfl,by rw [run_neq_struct,he];rfl,RR_bool.2 (by simp)⟩
 ·cases h
theorem snd_conv {s d:TypeId} {ds:TypeDesc} {k:IntKind} {x:AV} {u:Value} {r:AV} (hs:P.underlying s=some ds) (hd:P.underlying d=some (.int k)) (hx:RR c x u) (h:convV k x=some r):∃ val,(convert s d u).run P c.w = .ok val c.w∧RR c r val:=by
 unfold convV at h
 split at h
 ·simp only [RR_int] at hx
  subst hx
  cases h
  exact ⟨_,by simp [convert,run_underlying hs,run_underlying hd,Conv.intToInt],RR_int.2 rfl⟩
 ·cases h
end
end Go.Am
namespace Go.Am
section
variable {P:Program} {c:Cx} {G:Gl} {fr:List AV} {a:Act}
theorem RC1.drop {xs:List AV} {b q:Nat} (h:RC1 (RR c) xs fun j=>c.w.cell? ⟨b,q+j,none⟩) (o:Nat):RC1 (RR c) (xs.drop o) fun j=>c.w.cell? ⟨b,q+o+j,none⟩ :=
 (RCs.drop h o).imp (fun _ _ h=>h) fun j u hj=>by rw [Nat.add_assoc];exact hj
theorem snd_faddr {s:TypeId} {fs:Array Field} {f:Field} {i n:Nat} {x:AV} {u:Value} {r:AV} (hs:P.underlying s=some (.struct fs)) (hf:fs[i]? = some f) (hn:AJ3 P f.type=some n) (hn0:n ≠ 0) (hx:RR c x u) (h:BV4 f.offset x=some r) :
  ∃ val,(Instr.fieldAt s u i).run P c.w = .ok val c.w∧RR c r val:=by
 have hsz:=AJ2 hn c.w
 unfold BV4 at h
 split at h
 ·cases h
  obtain ⟨h1,rfl⟩:=AC9.1 hx
  exact ⟨.pointer (some ⟨_,_,none⟩),by simp [Instr.fieldAt,run_underlying hs,hf,Instr.sureAddr,fieldPlace,hsz,hn0,AA6];exact ⟨rfl,rfl⟩,AC9.2 ⟨h1,by rw [← Nat.add_assoc]⟩⟩
 ·cases h
  obtain ⟨b,q,rfl,h2,h3⟩:=AH0.1 hx
  exact ⟨_,by simp [Instr.fieldAt,run_underlying hs,hf,Instr.sureAddr,fieldPlace,hsz,hn0,AA6],AH0.2 ⟨b,_,rfl,h2,h3.drop _⟩⟩
 ·cases h
theorem snd_fld {s:TypeId} {fs:Array Field} {f:Field} {i n:Nat} {ag:Bool} {x:AV} {u:Value} {r:AV} (hs:P.underlying s=some (.struct fs)) (hf:fs[i]? = some f) (hn:AJ3 P f.type=some n) (hb:Aq0 P f.type=some ag) (hx:RR c x u) (h:fldV ag f.offset n x=some r) :
  ∃ val,(Instr.field s u i).run P c.w = .ok val c.w∧RR c r val:=by
 unfold fldV at h
 split at h
 ·obtain ⟨vs,rfl,h1,h2⟩:=AB4.1 hx
  obtain ⟨val,h3,h4,_⟩:=part_of c.w hb hn h1 h2 h
  exact ⟨val,by simp [Instr.field,run_underlying hs,hf,asAgg,h3],h4⟩
 ·cases h
theorem snd_iaddrA {t e:TypeId} {n s:Nat} {x y:AV} {u v:Value} {r:AV} (ht:P.underlying t=some (.array n e)) (hs:AJ3 P e=some s) (hx:RR c x u) (hy:RR c y v) (h:An1 n s x y=some r) :
  ∃ val,(Instr.indexAt t u v).run P c.w = .ok val c.w∧RR c r val:=by
 have hsz:=AJ2 hs c.w
 unfold An1 at h
 split at h
 ·split at h
  ·rename_i hc
   cases h
   obtain ⟨h1,rfl⟩:=AC9.1 hx
   simp only [RR_int] at hy
   subst hy
   exact ⟨.pointer (some ⟨_,_,none⟩),by simp [Instr.indexAt,run_underlying ht,asIntOf,Instr.sureAddr,hc,hsz,AA6];exact ⟨rfl,rfl⟩,AC9.2 ⟨h1,by rw [← Nat.add_assoc]⟩⟩
  ·cases h
 ·split at h
  ·rename_i hc
   cases h
   obtain ⟨b,q,rfl,h2,h3⟩:=AH0.1 hx
   simp only [RR_int] at hy
   subst hy
   exact ⟨_,by simp [Instr.indexAt,run_underlying ht,asIntOf,Instr.sureAddr,hc,hsz,AA6],AH0.2 ⟨b,_,rfl,h2,h3.drop _⟩⟩
  ·cases h
 ·cases h
theorem snd_iaddrS {t e:TypeId} {s:Nat} {x y:AV} {u v:Value} {r:AV} (ht:P.underlying t=some (.slice e)) (hs:AJ3 P e=some s) (hx:RR c x u) (hy:RR c y v) (h:Ae5 s x y=some r) :
  ∃ val,(Instr.indexAt t u v).run P c.w = .ok val c.w∧RR c r val:=by
 have hsz:=AJ2 hs c.w
 unfold Ae5 at h
 split at h
 ·split at h
  ·rename_i hc
   cases h
   obtain ⟨h1,_,cap,rfl,_⟩:=AK9.1 hx
   simp only [RR_int] at hy
   subst hy
   obtain ⟨rfl,hc1,hc2⟩:=hc
   exact ⟨.pointer (some ⟨_,_,none⟩),by simp [Instr.indexAt,run_underlying ht,asIntOf,hc1,hc2,hsz,AA6];exact ⟨rfl,rfl⟩,AC9.2 ⟨h1,by rw [← Nat.add_assoc]⟩⟩
  ·cases h
 ·split at h
  ·rename_i els k n hc
   simp only [Option.bind_eq_some_iff] at h
   obtain ⟨el,hel,h⟩:=h
   split at h
   ·rename_i hl
    cases h
    obtain ⟨A,cap,rfl,h2,h3,h4⟩:=AD0.1 hx
    simp only [RR_int] at hy
    subst hy
    obtain ⟨b,off,sz,rfl,h5,h6⟩:=h4 (by intro e;rw [e] at hel;simp at hel)
    obtain ⟨h7,h8⟩:=h6 _ el hel
    have hlt:n < (els.length:Int):=by
     have:=(List.getElem?_eq_some_iff.1 hel).1;omega
    have : sz=s:=by omega
    subst this
    exact ⟨_,by simp [Instr.indexAt,run_underlying ht,asIntOf,hc,hlt,hsz,AA6],AH0.2 ⟨b,_,rfl,h5,h8⟩⟩
   ·cases h
  ·cases h
 ·cases h
theorem snd_idx {t e:TypeId} {n s:Nat} {ag:Bool} {x y:AV} {u v:Value} {r:AV} (ht:P.underlying t=some (.array n e)) (hs:AJ3 P e=some s) (hb:Aq0 P e=some ag) (hx:RR c x u) (hy:RR c y v) (h:idxV ag n s x y=some r) :
  ∃ val,(Instr.index t u v).run P c.w = .ok val c.w∧RR c r val:=by
 have hsz:=AJ2 hs c.w
 unfold idxV at h
 split at h
 ·split at h
  ·rename_i hc
   obtain ⟨vs,rfl,h1,h2⟩:=AB4.1 hx
   simp only [RR_int] at hy
   subst hy
   obtain ⟨val,h3,h4,_⟩:=part_of c.w hb hs h1 h2 h
   exact ⟨val,by simp [Instr.index,run_underlying ht,asIntOf,hc,hsz,h3],h4⟩
  ·cases h
 ·cases h
theorem bnd_spec {o:Option AV} {w:Option Value} {b:Option Nat} (h:bndV o=some b) (hr:(o=none∧w=none)∨∃ x v,o=some x∧w=some v∧RR c x v):(b=none∧w=none)∨∃ k n,b=some n∧w=some (.int k n):=by
 rcases hr with ⟨rfl,rfl⟩ | ⟨x,v,rfl,rfl,hx⟩
 ·cases h;exact .inl ⟨rfl,rfl⟩
 ·cases x<;>simp only [bndV] at h<;>first|(cases h;done)|skip
  split at h
  ·rename_i hn
   cases h
   simp only [RR_int] at hx
   subst hx
   exact .inr ⟨_,_,rfl,by rw [Int.toNat_of_nonneg hn]⟩
  ·cases h
theorem run_bound {k:IntKind} {n y:Nat} {code:BoundsCode} (h:n≤y) (w:World):(Instr.sliceBound (.int k n) y code).run P w = .ok n w:=by
 have : ((n:Int)≤(y:Int)):=by omega
 simp [Instr.sliceBound,asIntOf,this]
theorem AT1 {b:Bool} {len cap:Nat} {lo hi mx:Option Nat} {vl vh vm:Option Value} (hl:(lo=none∧vl=none)∨∃ k n,lo=some n∧vl=some (.int k n)) (hh:(hi=none∧vh=none)∨∃ k n,hi=some n∧vh=some (.int k n))
  (hm:(mx=none∧vm=none)∨∃ k n,mx=some n∧vm=some (.int k n)) (h1:lo.getD 0≤hi.getD len) (h2:hi.getD len≤mx.getD cap) (h3:mx.getD cap≤cap) (h4:mx.isSome=true→hi.isSome=true) (w:World) :
  (Instr.sliceBounds b len cap vl vh vm).run P w = .ok (lo.getD 0,hi.getD len,mx.getD cap) w:=by
 rcases hl with ⟨rfl,rfl⟩ | ⟨k1,n1,rfl,rfl⟩<;>rcases hh with ⟨rfl,rfl⟩ | ⟨k2,n2,rfl,rfl⟩<;>rcases hm with ⟨rfl,rfl⟩ | ⟨k3,n3,rfl,rfl⟩<;>simp at h1 h2 h3 h4<;>simp [Instr.sliceBounds,run_bound,h1,h2,h3]
theorem snd_slS {t e:TypeId} {s:Nat} {x:AV} {u:Value} {lo hi mx:Option Nat} {vl vh vm:Option Value} {r:AV} (ht:P.underlying t=some (.slice e)) (hs:AJ3 P e=some s) (hx:RR c x u) (hl:(lo=none∧vl=none)∨∃ k n,lo=some n∧vl=some (.int k n)) (hh:(hi=none∧vh=none)∨∃ k n,hi=some n∧vh=some (.int k n))
  (hm:(mx=none∧vm=none)∨∃ k n,mx=some n∧vm=some (.int k n)) (h4:mx.isSome=true→hi.isSome=true) (h:slSV s x lo hi mx=some r):∃ val,(Instr.sliceAt t u vl vh vm).run P c.w = .ok val c.w∧RR c r val:=by
 have hsz:=AJ2 hs c.w
 unfold slSV at h
 split at h
 ·rename_i id off len cp sz'
  dsimp only at h
  split at h
  ·rename_i hc
   obtain ⟨rfl,h1,h2,h3⟩:=hc
   obtain ⟨hu,hlt,cap,rfl,h5,h6,h7,h8⟩:=AK9.1 hx
   have hmc:mx.getD cap=mx.getD cp∨(mx=none):=by cases mx<;>simp
   have hb:=AT1 (P:=P) (b:=true) (len:=len) (cap:=cap) hl hh hm h1 (by cases mx<;>simp at h2 h3 ⊢<;>omega) (by cases mx<;>simp at h2 h3 ⊢<;>omega) h4 c.w
   have hrun:(Instr.sliceAt t (.slice (some ⟨(c.mu id).1,(c.mu id).2+off,none⟩) len cap) vl vh vm).run P c.w = .ok (.slice (if mx.getD cap=lo.getD 0 then some ⟨(c.mu id).1,(c.mu id).2+off,none⟩ else some ⟨(c.mu id).1,(c.mu id).2+off+lo.getD 0 * s,none⟩) (hi.getD len - lo.getD 0) (mx.getD cap - lo.getD 0)) c.w:=by
    simp [Instr.sliceAt,Instr.slice,run_underlying ht,hb,hsz,AA6]
   refine ⟨_,hrun,?_⟩
   split at h
   ·rename_i hlm
    cases h
    have hne:mx.getD cap ≠ lo.getD 0:=by cases mx<;>simp at hlm h3 ⊢<;>omega
    rw [if_neg hne]
    refine AK9.2 ⟨hu,hlt,_,by rw [Nat.add_assoc],by omega,?_,by cases mx<;>simp at h3 ⊢<;>omega,?_⟩
    ·cases mx<;>simp at h3 ⊢<;>omega
    ·have hle:mx.getD cap≤cap:=by cases mx<;>simp at h3 ⊢<;>omega
     have hlm':lo.getD 0≤mx.getD cap:=by cases mx<;>simp at hlm h3 ⊢<;>omega
     have : lo.getD 0 * s+(mx.getD cap - lo.getD 0) * s=mx.getD cap * s:=by rw [← Nat.add_mul];congr 1;omega
     have:=Nat.mul_le_mul_right s hle
     omega
   ·rename_i hlm
    have e1:hi.getD len - lo.getD 0=0:=by omega
    split at h
    ·rename_i hms
     cases h
     have : mx.getD cap=mx.getD cp:=by cases mx<;>simp at hms ⊢
     have e2:mx.getD cap - lo.getD 0=0:=by omega
     rw [e1,e2]
     exact RR_nils.2 ⟨_,rfl⟩
    ·cases h
     rw [e1]
     exact AD0.2 ⟨_,_,rfl,Nat.zero_le _,by cases mx<;>simp at h3 ⊢<;>omega,fun h=>absurd rfl h⟩
  ·cases h
 ·rename_i els
  dsimp only at h
  split at h
  ·rename_i hc
   obtain ⟨h1,h2,h3,hall⟩:=hc
   obtain ⟨A,cap,rfl,h5,h6,h7⟩:=AD0.1 hx
   have hb:=AT1 (P:=P) (b:=true) (len:=els.length) (cap:=cap) hl hh hm h1 (by cases mx<;>simp at h2 h3 ⊢<;>omega) (by cases mx<;>simp at h2 h3 ⊢<;>omega) h4 c.w
   have hrun:(Instr.sliceAt t (.slice A els.length cap) vl vh vm).run P c.w = .ok (.slice (if mx.getD cap=lo.getD 0 then A else A.map (·.add (lo.getD 0 * s))) (hi.getD els.length - lo.getD 0) (mx.getD cap - lo.getD 0)) c.w:=by
    simp [Instr.sliceAt,Instr.slice,run_underlying ht,hb,hsz]
   refine ⟨_,hrun,?_⟩
   split at h
   ·rename_i hms
    cases h
    have : mx.getD cap=mx.getD els.length:=by have:=hms.1;cases mx<;>simp at this ⊢
    have e1:hi.getD els.length - lo.getD 0=0:=by omega
    have e2:mx.getD cap - lo.getD 0=0:=by omega
    rw [e1,e2]
    exact RR_nils.2 ⟨_,rfl⟩
   ·cases h
    have hlen:((els.take (hi.getD els.length)).drop (lo.getD 0)).length=hi.getD els.length - lo.getD 0:=by
     simp;omega
    refine AD0.2 ⟨_,_,by rw [hlen],by rw [hlen];cases mx<;>simp at h2 h3 ⊢<;>omega,by cases mx<;>simp at h3 ⊢<;>omega,fun hne=>?_⟩
    have hpos:0 < ((els.take (hi.getD els.length)).drop (lo.getD 0)).length:=List.length_pos_iff.2 hne
    rw [hlen] at hpos
    obtain ⟨b,q,sz,rfl,h8,h9⟩:=h7 (by intro e;subst e;simp at h2 h3 hpos;cases hi<;>cases mx<;>simp at h2 h3 hpos<;>omega)
    have hne':mx.getD cap ≠ lo.getD 0:=by cases mx<;>simp at h2 h3 ⊢<;>omega
    have hoff:lo.getD 0 * s=lo.getD 0 * sz:=by
     rcases hall with h0|hall
     ·rw [h0];simp
     ·have hlt:lo.getD 0 < els.length:=by cases mx<;>simp at h2 h3<;>omega
      have e1:=(h9 _ _ (List.getElem?_eq_getElem hlt)).1
      have e2:=List.all_eq_true.1 hall _ (List.getElem_mem hlt)
      simp at e2
      rw [← e1,e2]
    rw [if_neg hne']
    refine ⟨b,q+lo.getD 0 * s,sz,by simp [AA6],h8,fun k el hk=>?_⟩
    rw [List.getElem?_drop,List.getElem?_take] at hk
    split at hk
    ·obtain ⟨h10,h11⟩:=h9 _ el hk
     refine ⟨h10,h11.imp (fun _ _ h=>h) fun j u hj=>?_⟩
     rw [hoff,show q+lo.getD 0 * sz+k * sz+j=q+(lo.getD 0+k) * sz+j by rw [Nat.add_mul];omega]
     exact hj
    ·cases hk
  ·cases h
 ·split at h
  ·rename_i hc
   cases h
   obtain ⟨A,rfl⟩:=RR_nils.1 hx
   have hb:=AT1 (P:=P) (b:=true) (len:=0) (cap:=0) hl hh hm (by omega) (by omega) (by omega) h4 c.w
   rw [hc.1,hc.2.1,hc.2.2] at hb
   exact ⟨.slice A 0 0,by simp [Instr.sliceAt,Instr.slice,run_underlying ht,hb,hsz],RR_nils.2 ⟨_,rfl⟩⟩
  ·cases h
 ·cases h
end
end Go.Am
namespace Go.Am
section
variable {P:Program} {c:Cx} {G:Gl} {fr:List AV} {a:Act}
def Cx.wd (c:Cx) (w':World):Cx:={ c with w:=w' }
theorem ext_wd {w':World} (h:w'.heap=c.w.heap) (henv:w'.os=c.w.os∧w'.tape=c.w.tape∧w'.output=c.w.output):Ext c (c.wd w') :=
 ⟨fun _ h=>h,fun _ _=>rfl,fun b _=>by simp [csize,Cx.wd,h],fun b hb=>⟨⟨by simp [Cx.wd,h];exact hb.1,hb.2,hb.3⟩,by simp [Cx.wd,h]⟩,by simp [Cx.wd,h],fun _=>Iff.rfl,(fun b _=>by simp [Cx.wd,h]),henv⟩
theorem rel_wd {w':World} (h:w'.heap=c.w.heap) (henv:w'.os=c.w.os∧w'.tape=c.w.tape∧w'.output=c.w.output) (hR:Rel P c):Rel P (c.wd w') :=
 ⟨hR.used,hR.inj,fun id o ho=>(hR.obj id o ho).ext (ext_wd h henv) (by simp [Cx.wd,h]),hR.many,hR.nohid,fun b hb=>by simp [Cx.wd,h];exact hR.hidlt b hb⟩
def Cx.drop (c:Cx) (d:Nat):Cx:={ c with at_:=upd c.at_ [(d,none)] }
theorem Af3 {d i:Nat} {o:AObj} (h:(c.drop d).at_ i=some o):i ≠ d∧c.at_ i=some o:=by
 simp only [Cx.drop,upd] at h
 split at h
 ·cases h
 ·rename_i hne;exact ⟨hne,h⟩
theorem BV5 (d:Nat):Ext c (c.drop d) :=
 ⟨fun _ h=>h,fun _ _=>rfl,fun _ _=>rfl,fun b hb=>⟨⟨hb.1,fun i o hi=>hb.2 i o (Af3 hi).2,hb.3⟩,rfl⟩,Nat.le_refl _,fun _=>Iff.rfl,fun _ _=>rfl,rfl,rfl,rfl⟩
theorem rel_drop (d:Nat) (hR:Rel P c):Rel P (c.drop d) :=
 ⟨fun i o h=>hR.used i o (Af3 h).2,fun i j o o' hi hj=>hR.inj i j o o' (Af3 hi).2 (Af3 hj).2,fun i o h=>(hR.obj i o (Af3 h).2).ext (BV5 d) rfl,hR.many,fun i o h=>hR.nohid i o (Af3 h).2,hR.hidlt⟩
def Cx.mv (c:Cx) (d id off:Nat) (cs:List AV) (w':World):Cx :=
 { U:=fun i=>c.U i∨i=id,at_:=upd c.at_ [(d,none),(id,some (.cells cs))],mu:=fun i=>if i=id then ((c.mu d).1,(c.mu d).2+off) else c.mu i,w:=w',hid:=c.hid }
theorem at_mv {d id off i:Nat} {cs:List AV} {w':World} {o:AObj} (hid:¬ c.U id) (hd:c.U d) (h:(c.mv d id off cs w').at_ i=some o):(i=id∧o = .cells cs∧(c.mv d id off cs w').mu i=((c.mu d).1,(c.mu d).2+off))∨(i ≠ id∧i ≠ d∧c.at_ i=some o∧(c.mv d id off cs w').mu i=c.mu i):=by
 have hne:d ≠ id:=fun e=>hid (e▸hd)
 simp only [Cx.mv,upd] at h ⊢
 split at h
 ·cases h
 ·rename_i h1
  split at h
  ·rename_i h2;cases h;exact .inl ⟨h2,rfl,by simp [h2]⟩
  ·rename_i h2;exact .inr ⟨h2,h1,h,by simp [h2]⟩
theorem ext_mv {d id off:Nat} {cs:List AV} {w':World} {o:AObj} (hid:¬ c.U id) (hd:c.at_ d=some o) (hR:Rel P c) (hother:∀ b,b ≠ (c.mu d).1→w'.heap[b]? = c.w.heap[b]?) (hcs:csize w' (c.mu d).1=csize c.w (c.mu d).1) (hsz:w'.heap.size=c.w.heap.size) (henv:w'.os=c.w.os∧w'.tape=c.w.tape∧w'.output=c.w.output) :
  Ext c (c.mv d id off cs w'):=by
 have hud:=hR.used d o hd
 refine ⟨fun i hi=>.inl hi,fun i hi=>?_,fun b hb=>?_,fun b hb=>?_,by simp [Cx.mv,hsz],fun _=>Iff.rfl,fun b hb=>hother b fun e=>hR.nohid d o hd (e▸hb),henv⟩
 ·have : i ≠ id:=fun e=>hid (e▸hi)
  simp [Cx.mv,this]
 ·by_cases e:b=(c.mu d).1
  ·subst e;exact hcs
  ·simp only [csize,Cx.mv,hother b e]
 ·have hne:b ≠ (c.mu d).1:=fun e=>hb.2 d o hd e.symm
  refine ⟨⟨by simp [Cx.mv,hsz];exact hb.1,fun i o' hi=>?_,hb.3⟩,hother b hne⟩
  rcases at_mv hid hud hi with ⟨rfl,_,h3⟩ | ⟨_,_,h2,h3⟩
  ·rw [h3];exact Ne.symm hne
  ·rw [h3];exact hb.2 i o' h2
theorem rel_mv {d id off:Nat} {cs:List AV} {w':World} {o:AObj} (hid:¬ c.U id) (hd:c.at_ d=some o) (hR:Rel P c) (hother:∀ b,b ≠ (c.mu d).1→w'.heap[b]? = c.w.heap[b]?) (hcs:csize w' (c.mu d).1=csize c.w (c.mu d).1) (hsz:w'.heap.size=c.w.heap.size) (henv:w'.os=c.w.os∧w'.tape=c.w.tape∧w'.output=c.w.output)
  (hob:Aq8 P (c.mv d id off cs w') ((c.mu d).1,(c.mu d).2+off) (.cells cs)):Rel P (c.mv d id off cs w'):=by
 have hud:=hR.used d o hd
 have he:=ext_mv (cs:=cs) (off:=off) hid hd hR hother hcs hsz henv
 refine ⟨fun i o' hi=>?_,fun i j o1 o2 hi hj hij=>?_,fun i o' hi=>?_,?_,fun i o' hi hh=>?_,fun b hb=>by have:=hR.hidlt b hb;simp [Cx.mv,hsz];exact this⟩
 ·rcases at_mv hid hud hi with ⟨h1,_,_⟩ | ⟨_,_,h2,_⟩
  ·exact .inr h1
  ·exact .inl (hR.used i o' h2)
 ·rcases at_mv hid hud hi with ⟨h1,_,h3⟩ | ⟨_,h1,h2,h3⟩<;>rcases at_mv hid hud hj with ⟨h4,_,h6⟩ | ⟨_,h4,h5,h6⟩
  ·rw [h1,h4]
  ·rw [h3,h6] at hij;exact absurd (hR.inj d j o o2 hd h5 hij).symm h4
  ·rw [h3,h6] at hij;exact absurd (hR.inj i d o1 o h2 hd hij) h1
  ·rw [h3,h6] at hij;exact hR.inj i j o1 o2 h2 h5 hij
 ·rcases at_mv hid hud hi with ⟨h1,h2,h3⟩ | ⟨_,h1,h2,h3⟩
  ·rw [h3,h2];exact hob
  ·rw [h3];exact (hR.obj i o' h2).ext he (hother _ fun e=>h1 (hR.inj i d o' o h2 hd e))
 ·obtain ⟨N,hN⟩:=hR.many
  exact ⟨max N (id+1),fun i hi=>by
   rcases hi with hi|hi
   ·have:=hN i hi;omega
   ·omega⟩
 ·rcases at_mv hid hud hi with ⟨_,_,h3⟩ | ⟨_,_,h2,h3⟩
  ·rw [h3] at hh;exact hR.nohid d o hd hh
  ·rw [h3] at hh;exact hR.nohid i o' h2 hh

theorem At5 {sz:Nat}:∀ (els:List (List AV)),(∀ e ∈ els,e.length=sz)→∀ (j:Nat) x,els.flatten[j]? = some x→∃ el,els[j / sz]? = some el∧el[j % sz]? = some x∧0 < sz
 | [],_,j,x,h=>by simp at h
 | e::els,hl,j,x,h=>by
  have he:=hl e (List.mem_cons_self ..)
  rw [List.flatten_cons] at h
  rcases Nat.lt_or_ge j sz with hj|hj
  ·rw [List.getElem?_append_left (by omega)] at h
   refine ⟨e,?_,?_,by omega⟩
   ·rw [Nat.div_eq_of_lt hj];rfl
   ·rw [Nat.mod_eq_of_lt hj];exact h
  ·rw [List.getElem?_append_right (by omega),he] at h
   obtain ⟨el,h1,h2,h3⟩:=At5 els (fun e' he'=>hl e' (List.mem_cons_of_mem _ he')) (j - sz) x h
   refine ⟨el,?_,?_,h3⟩
   ·rw [Nat.div_eq_sub_div h3 hj];exact h1
   ·rw [Nat.mod_eq_sub_mod hj];exact h2
theorem AU9 {sz:Nat}:∀ (els:List (List AV)),(∀ e ∈ els,e.length=sz)→els.flatten.length=els.length * sz
 | [],_=>by simp
 | e::els,hl=>by
  rw [List.flatten_cons,List.length_append,AU9 els fun e' he'=>hl e' (List.mem_cons_of_mem _ he'),hl e (List.mem_cons_self ..),List.length_cons,Nat.succ_mul];omega
theorem src_spec (hR:Rel P c) {sz n:Nat} {x:AV} {u:Value} {src:List AV} {rd:List Nat} (hx:RR c x u) (h:Av0 c.at_ sz x=some (src,n,rd)) :
  src.length=n * sz∧∃ A cap,u = .slice A n cap∧(0 < n→∃ b q,A=some ⟨b,q,none⟩∧RC1 (RR c) src fun j=>c.w.cell? ⟨b,q+j,none⟩):=by
 unfold Av0 at h
 split at h
 ·cases h
  obtain ⟨A,rfl⟩:=RR_nils.1 hx
  exact ⟨by simp,A,0,rfl,fun h=>by omega⟩
 ·split at h
  ·rename_i els hall
   cases h
   have hall':∀ e ∈ els,e.length=sz:=fun e he=>by have:=List.all_eq_true.1 hall e he;simpa using this
   obtain ⟨A,cap,rfl,_,_,h3⟩:=AD0.1 hx
   refine ⟨AU9 els hall',A,cap,rfl,fun hpos=>?_⟩
   obtain ⟨b,off,sz',rfl,_,h5⟩:=h3 (by intro e;subst e;simp at hpos)
   refine ⟨b,off,rfl,fun j y hy=>?_⟩
   obtain ⟨el,h6,h7,h8⟩:=At5 els hall' j y hy
   obtain ⟨h9,h10⟩:=h5 _ el h6
   have : sz'=sz:=by rw [← h9];exact hall' el (List.mem_of_getElem? h6)
   subst this
   obtain ⟨v,hv,hr⟩:=h10 _ y h7
   refine ⟨v,?_,hr⟩
   have : off+j / sz' * sz'+j % sz'=off+j:=by have:=Nat.div_add_mod j sz';rw [Nat.mul_comm] at this;omega
   have hv':c.w.cell? ⟨b,off+j / sz' * sz'+j % sz',none⟩=some v:=hv
   rw [this] at hv';exact hv'
  ·cases h
 ·rename_i id off len cp sz'
  split at h
  ·rename_i cs hcs
   split at h
   ·rename_i hc
    cases h
    obtain ⟨h1,_,cap,rfl,_⟩:=AK9.1 hx
    refine ⟨by simp;omega,_,cap,rfl,fun _=>⟨_,_,rfl,?_⟩⟩
    obtain ⟨ar,T,h2,h3⟩:=hR.obj id _ (AA1 hcs)
    refine (RCs.take (RCs.drop h3 off) _).imp (fun _ _ h=>h) fun j u hj=>?_
    rw [cell_of h2,Nat.add_assoc];exact hj
   ·cases h
  ·cases h
 ·cases h
theorem src_list (hR:Rel P c) {sz n:Nat} {x:AV} {u:Value} {src:List AV} {rd:List Nat} (hx:RR c x u) (h:Av0 c.at_ sz x=some (src,n,rd)) :
  ∃ (A:Option Addr) (cap:Nat) (news:List Value),u = .slice A n cap∧news.length=n * sz∧src.length=n * sz∧RC1 (RR c) src (fun j=>news[j]?)∧(0 < n→∃ p,A=some p∧∀ (j:Nat) v,news[j]? = some v→c.w.cell? (p.add j)=some v) ∧
   ∀ w:World,w.heap=c.w.heap→(Builtin.firstCells sz n u).run P w = .ok news.toArray w:=by
 obtain ⟨h1,A,cap,rfl,h2⟩:=src_spec hR hx h
 rcases Nat.eq_zero_or_pos n with h0|h0
 ·subst h0
  have : src=[]:=List.eq_nil_of_length_eq_zero (by simpa using h1)
  subst this
  refine ⟨A,cap,[],rfl,by simp,h1,fun j x hx=>by simp at hx,fun h=>by omega,fun w _=>?_⟩
  cases A<;>simp [Builtin.firstCells,loadCells,loadCellsFrom]
 ·obtain ⟨b,q,rfl,h3⟩:=h2 h0
  obtain ⟨news,h4,h5,h6⟩:=h3.list
  have hc:∀ (j:Nat) v,news[j]? = some v→c.w.cell? ((⟨b,q,none⟩:Addr).add j)=some v:=fun j v hv=>by rw [AA6];exact h5 j v hv
  refine ⟨_,cap,news,rfl,by rw [h4,h1],h1,h6,fun _=>⟨_,rfl,hc⟩,fun w hw=>?_⟩
  exact run_firstCells_some (P:=P) w sz n _ n cap news (by rw [h4,h1]) fun j v hv=>by
   have:=hc j v hv
   simp only [World.cell?,hw] at this ⊢
   exact this
theorem BL1 {xs:List AV} {vs:List Value} (hl:vs.length=xs.length) (h:RC1 (RR c) xs fun j=>vs[j]?):∀ v ∈ vs,One v:=fun v hv=>by
 obtain ⟨j,hj⟩:=List.mem_iff_getElem?.1 hv
 have hlt:j < xs.length:=by rw [← hl];exact (List.getElem?_eq_some_iff.1 hj).1
 obtain ⟨u,hu,_,h1⟩:=h j _ (List.getElem?_eq_getElem hlt)
 have hu':vs[j]? = some u:=hu
 rw [hj] at hu';cases hu';exact h1
theorem Aj7 (hR:Rel P c) {d off:Nat} {cs src:List AV} {news:List Value} (hd:c.at_ d=some (.cells cs)) (hl:news.length=src.length) (hs:RC1 (RR c) src fun j=>news[j]?) (hfit:(c.mu d).2+off+news.length≤csize c.w (c.mu d).1) :
  ∃ w' ar T,(storeCells ⟨(c.mu d).1,(c.mu d).2+off,none⟩ news).run P c.w = .ok () w'∧c.w.heap[(c.mu d).1]? = some (.cells ar T (0,0))∧RC1 (RR c) cs (fun j=>ar[(c.mu d).2+j]?) ∧
   w'.heap[(c.mu d).1]? = some (.cells (AU4 ar ((c.mu d).2+off) news) T (0,0))∧(∀ b,b ≠ (c.mu d).1→w'.heap[b]? = c.w.heap[b]?)∧csize w' (c.mu d).1=csize c.w (c.mu d).1∧w'.heap.size=c.w.heap.size∧(c.mu d).2+off+news.length≤ar.size∧w'.os=c.w.os∧w'.tape=c.w.tape∧w'.output=c.w.output:=by
 obtain ⟨ar,T,h1,h2⟩:=hR.obj d _ hd
 have hcs:csize c.w (c.mu d).1=ar.size:=by simp [csize,h1]
 obtain ⟨w',h3,h4,h5,h6,h7⟩:=AB9 (P:=P) news (c.mu d).1 ((c.mu d).2+off) 0 c.w ar T h1 (by omega) (BL1 hl hs)
 exact ⟨w',ar,T,h3,h1,h2,h4,h5,by simp [csize,h1,h4,AT6],h6,by omega,h7⟩
end
end Go.Am
namespace Go.Am
section
variable {P:Program} {c:Cx} {G:Gl} {fr:List AV} {a:Act}
theorem BS8:∀ (vs:List Value) (o:Nat) (a:Array Value) (k:Nat),o+vs.length≤a.size→(AU4 a o vs)[k]? = if o≤k∧k < o+vs.length then vs[k - o]? else a[k]?
 | [],o,a,k,_=>by rw [AU4,if_neg (by simp)]
 | v::vs,o,a,k,h=>by
  simp only [List.length_cons] at h
  rw [AU4,BS8 vs (o+1) (a.setIfInBounds o v) k (by simp;omega)]
  simp only [List.length_cons]
  by_cases h1:o+1≤k∧k < o+1+vs.length
  ·rw [if_pos h1,if_pos (by omega),show k - o=(k - (o+1))+1 by omega,List.getElem?_cons_succ]
  ·rw [if_neg h1]
   by_cases h2:o=k
   ·subst h2
    rw [if_pos (by omega)]
    simp [show o < a.size by omega]
   ·rw [if_neg (by omega),Array.getElem?_setIfInBounds_ne h2]
theorem AY8 {t ty e:TypeId} {i:TypeInfo} {n m cap cap2 sz:Nat} {b:Addr} {A:Option Addr} {news:List Value} {w w':World} (ht:P.underlying t=some (.slice e)) (hi:P.info? e=some i) (hsz:i.size=sz) (hroom:n+m≤cap)
  (hfc:(Builtin.firstCells sz m (.slice A m cap2)).run P w = .ok news.toArray w) (hst:(storeCells (b.add (n * sz)) news).run P w = .ok () w') :
  (Builtin.append_ #[t,t] ty #[.slice (some b) n cap,.slice A m cap2]).run P w = .ok (.slice (some b) (n+m) cap) w':=by
 subst hsz
 simp [Builtin.append_,run_underlying ht,sizeOf,typeInfo,hi,Builtin.lenOf,hroom,hfc,hst]
theorem snd_append {t ty e:TypeId} {sz bytes id:Nat} {s x:AV} {u v:Value} {r:AV} {up:Up} {rd:List Nat} (hR:Rel P c) (hid:¬ c.U id) (ht:P.underlying t=some (.slice e)) (hsz:AJ3 P e=some sz) (hby:bytesOf P e=some bytes) (hz:(zeroOf P e).map List.length=some sz) (h0:0 < sz)
  (hs:RR c s u) (hx:RR c x v) (h:BI3 c.at_ id sz bytes s x=some (r,up,rd)) :
  ∃ val c',(Builtin.append_ #[t,t] ty #[u,v]).run P c.w = .ok val c'.w∧RR c' r val∧Rel P c'∧Ext c c'∧c'.at_=upd c.at_ up∧(∀ i,c'.U i ↔ c.U i∨(i=id∧up.any (fun p=>p.1 == id)=true)):=by
 unfold BI3 at h
 split at h
 ·rename_i src m rd' hsrc
  obtain ⟨A,cap2,news,rfl,hnl,hsl,hnr,hnc,hfc⟩:=src_list hR hx hsrc
  unfold AJ3 at hsz
  simp only [Option.map_eq_some_iff] at hsz
  obtain ⟨i,hi,hsz⟩:=hsz
  unfold bytesOf at hby
  simp only [Option.map_eq_some_iff] at hby
  obtain ⟨i',hi',hby⟩:=hby
  rw [hi] at hi'
  cases hi'
  obtain ⟨zv,hzv,hzs⟩:∃ zv,i.zero=some zv∧zv.cells.size=sz:=by
   simp only [Option.map_eq_some_iff,zeroOf,Option.bind_eq_some_iff] at hz
   obtain ⟨l,⟨z,⟨i2,hi2,hz2⟩,hm⟩,hl⟩:=hz
   rw [hi] at hi2
   cases hi2
   refine ⟨z,hz2,?_⟩
   have:=(mapM_some hm).1
   simp at this;omega
  -- a new row
  have grown:∀ (old:List Value) (oldA:List AV) (need ocap:Nat) (up':Up) (c1:Cx) (w1:World),w1.heap=c.w.heap→(w1.os=c.w.os∧w1.tape=c.w.tape∧w1.output=c.w.output)→oldA.length=old.length→RC1 (RR c) oldA (fun j=>old[j]?)→old.length+news.length=need * sz→need≤1000000000000→(c1=c∨∃ d,d ≠ id∧c1=c.drop d) →
    ∃ c',c'.w=w1.alloc (.cells (old.toArray++news.toArray++Builtin.zeroCells zv.cells (grownCap c.w need ocap e - need)) e)∧RR c' (.sl id 0 need need sz) (.slice (some ⟨c.w.heap.size,0,none⟩) need (grownCap c.w need ocap e)) ∧
     Rel P c'∧Ext c c'∧c'.at_=upd c1.at_ [(id,some (.cells (oldA++src)))]∧(∀ i,c'.U i ↔ c.U i∨i=id):=by
   intro old oldA need ocap up' c1 w1 hw1 henv1 hol hor hlen hneed hc1
   have e1:Ext c c1:=by
    rcases hc1 with h | ⟨d,_,h⟩
    ·rw [h];exact Ext.refl _
    ·rw [h];exact BV5 d
   have r1:Rel P c1:=by
    rcases hc1 with h | ⟨d,_,h⟩
    ·rw [h];exact hR
    ·rw [h];exact rel_drop d hR
   have u1:c1.U=c.U:=by rcases hc1 with h | ⟨d,_,h⟩<;>rw [h]<;>rfl
   have hh1:w1.heap=c1.w.heap:=by rcases hc1 with h | ⟨d,_,h⟩<;>rw [h]<;>exact hw1
   have he1:w1.os=c1.w.os∧w1.tape=c1.w.tape∧w1.output=c1.w.output:=by rcases hc1 with h | ⟨d,_,h⟩<;>rw [h]<;>exact henv1
   have e2:=ext_wd (c:=c1) hh1 he1
   have r2:=rel_wd hh1 he1 r1
   have hid2:¬ (c1.wd w1).U id:=by show ¬ c1.U id;rw [u1];exact hid
   have hge:=grownCap_ge c.w need ocap e
   have hle:=grownCap_le_maxLen c.w need ocap e (by unfold maxLen;omega)
   generalize grownCap c.w need ocap e=cap at hge hle
   have hsize:(old.toArray++news.toArray++Builtin.zeroCells zv.cells (cap - need)).size=cap * sz:=by
    simp only [Array.size_append,List.size_toArray,size_zeroCells,hzs,hlen,← Nat.add_mul]
    congr 1;omega
   have e3:=Ao3 r2 hid2 (.cells (oldA++src)) (.cells (old.toArray++news.toArray++Builtin.zeroCells zv.cells (cap - need)) e)
   have hcells:RC1 (RR c) (oldA++src) fun j=>(old.toArray++news.toArray++Builtin.zeroCells zv.cells (cap - need))[j]?:=fun j y hy=>by
    have hr:∃ u,(old++news)[j]? = some u∧RR c y u∧One u:=by
     rw [List.getElem?_append] at hy ⊢
     split at hy
     ·rename_i hj;rw [if_pos (by omega)];exact hor j y hy
     ·rename_i hj;rw [if_neg (by omega),← hol];exact hnr _ y hy
    obtain ⟨u,hu,hr⟩:=hr
    refine ⟨u,?_,hr⟩
    have hlt:=(List.getElem?_eq_some_iff.1 hu).1
    show (old.toArray++news.toArray++Builtin.zeroCells zv.cells (cap - need))[j]? = some u
    rw [Array.getElem?_append_left (by simpa using hlt)]
    simpa using hu
   refine ⟨(c1.wd w1).mk' id (.cells (oldA++src)) (.cells (old.toArray++news.toArray++Builtin.zeroCells zv.cells (cap - need)) e),rfl,?_,Av2 r2 hid2 _ _ ⟨_,e,AA2 _ _,?_⟩,(e1.trans e2).trans e3,rfl,fun i=>?_⟩
   ·have:=BC3 (c:=c1.wd w1) (id:=id) (n:=need) (sz:=sz) (o:=.cells (oldA++src)) (T:=e) (vs:=old.toArray++news.toArray++Builtin.zeroCells zv.cells (cap - need)) hge hle (by omega)
    have hs2:(c1.wd w1).w.heap.size=c.w.heap.size:=by show w1.heap.size=_;rw [hw1]
    rw [hs2] at this
    exact this
   ·exact (RC1.ext ((e1.trans e2).trans e3) hcells).imp (fun _ _ h=>h) fun j u hj=>by rw [Nat.zero_add];exact hj
   ·show (c1.U i∨i=id) ↔ _;rw [u1]
  split at h
  ·-- nil,or no room at all
   obtain ⟨B,rfl⟩:=RR_nils.1 hs
   split at h
   ·rename_i hm
    cases h
    subst hm
    have hn:news=[]:=List.eq_nil_of_length_eq_zero (by simpa using hnl)
    subst hn
    refine ⟨.slice B 0 0,c,?_,RR_nils.2 ⟨_,rfl⟩,hR,Ext.refl c,rfl,fun i=>by simp⟩
    have hfc':=hfc c.w rfl
    cases B<;>simp [Builtin.append_,run_underlying ht,sizeOf,typeInfo,hi,hsz,Builtin.lenOf,hfc',storeCells]
   ·rename_i hm
    split at h
    ·rename_i hb
     cases h
     obtain ⟨p,rfl,hpc⟩:=hnc (by omega)
     obtain ⟨c',h1,h2,h3,h4,h5,h6⟩:=grown [] [] m 0 [] c c.w.drew rfl ⟨rfl,rfl,rfl⟩ rfl (fun j x hx=>by simp at hx) (by simpa using hnl) hb.2 (.inl rfl)
     refine ⟨_,c',?_,h2,h3,h4,by simpa using h5,fun i=>by rw [h6];simp⟩
     cases B with
     | none =>
      have:=run_append_nil (P:=P) c.w t ty e i zv ht hi hzv p m cap2 news (by rw [hsz];exact hnl) hpc (by omega) (by omega) (by rw [hby];omega)
      rw [this,h1];simp
     | some B =>
      have:=run_append_grow (P:=P) c.w t ty e i zv ht hi hzv B 0 0 [] (by simp) (fun j v h=>by simp at h) p m cap2 news (by rw [hsz];exact hnl) hpc (by omega) (by omega) (growslice_fits (by omega) (by rw [hby,Nat.zero_add];exact hb.1))
      simp only [Nat.zero_add] at this
      rw [this,h1]
    ·cases h
  ·-- a row
   rename_i d off len cp sz'
   obtain ⟨hu,hlt,cap,rfl,g1,g2,g3,g4⟩:=AK9.1 hs
   split at h
   ·rename_i cs hcs
    have hd:=AA1 hcs
    have hdid:d ≠ id:=fun e=>hid (e▸hu)
    split at h
    ·rename_i hc
     obtain ⟨rfl,hc⟩:=hc
     have hadd:((⟨(c.mu d).1,(c.mu d).2+off,none⟩:Addr).add (len * sz))=⟨(c.mu d).1,(c.mu d).2+(off+len * sz),none⟩:=by rw [AA6];congr 1;omega
     split at h
     ·rename_i hroom
      split at h
      ·rename_i hfit
       cases h
       have hcap:(len+m) * sz≤cap * sz:=Nat.mul_le_mul_right _ (by omega)
       rw [Nat.add_mul] at hcap
       obtain ⟨w',ar,T,k1,k2,k3,k4,k5,k6,k7,k8,k9⟩:=Aj7 (off:=off+len * sz) hR hd (by omega) hnr (by omega)
       have he:=Ao2 (cs:=over cs (off+len * sz) src) hR hd k5 k6 k7 k9
       refine ⟨_,c.wr d (over cs (off+len * sz) src) w',AY8 ht hi hsz (by omega) (hfc c.w rfl) (by rw [hadd];exact k1),?_,BR3 hR hd k5 k6 k7 k9 ⟨_,T,k4,RC1.ext he ?_⟩,he,rfl,fun i=>?_⟩
       ·exact AK9.2 ⟨hu,by show (c.mu d).1 < w'.heap.size;omega,cap,rfl,by omega,g2,g3,by show _≤csize w' (c.mu d).1;rw [k6];exact g4⟩
       ·exact AR0 src news (c.mu d).2 (off+len * sz) cs ar (by omega) hnr k3
       ·simp [Cx.wr,hdid]
      ·cases h
     ·rename_i hroom
      split at h
      ·rename_i hb
       cases h
       have hmpos:0 < m:=by
        rcases Nat.eq_zero_or_pos m with h|h
        ·omega
        ·exact h
       obtain ⟨p,rfl,hpc⟩:=hnc hmpos
       obtain ⟨ar,T,hrow,hcells⟩:=hR.obj d _ hd
       have hold:RC1 (RR c) ((cs.drop off).take (len * sz)) fun j=>ar[(c.mu d).2+off+j]?:=(RCs.take (RCs.drop hcells off) _).imp (fun _ _ h=>h) fun j u hj=>by rw [Nat.add_assoc];exact hj
       have holdl:((cs.drop off).take (len * sz)).length=len * sz:=by simp;omega
       by_cases hin:len+m≤cap
       ·-- there was room all the same: the old row gets a new name
        have hcap:(len+m) * sz≤cap * sz:=Nat.mul_le_mul_right _ hin
        rw [Nat.add_mul] at hcap
        obtain ⟨w',ar',T',k1,k2,k3,k4,k5,k6,k7,k8,k9⟩:=Aj7 (off:=off+len * sz) hR hd (by omega) hnr (by omega)
        rw [hrow] at k2
        cases k2
        have he:=ext_mv (cs:=(cs.drop off).take (len * sz)++src) (off:=off) hid hd hR k5 k6 k7 k9
        refine ⟨_,c.mv d id off ((cs.drop off).take (len * sz)++src) w',AY8 ht hi hsz hin (hfc c.w rfl) (by rw [hadd];exact k1),?_,rel_mv hid hd hR k5 k6 k7 k9 ⟨_,T,k4,RC1.ext he ?_⟩,he,rfl,fun i=>?_⟩
        ·refine AK9.2 ⟨.inr rfl,by simp [Cx.mv];omega,cap,by simp [Cx.mv],Nat.le_refl _,hin,g3,?_⟩
         simp only [Cx.mv,if_true]
         rw [k6]
         omega
        ·intro j y hy
         rw [List.getElem?_append,holdl] at hy
         show ∃ u,(AU4 ar ((c.mu d).2+(off+len * sz)) news)[(c.mu d).2+off+j]? = some u∧_
         rw [BS8 _ _ _ _ (by omega)]
         split at hy
         ·rename_i hj
          rw [if_neg (by omega)]
          exact hold j y hy
         ·rename_i hj
          have hjl:=(List.getElem?_eq_some_iff.1 hy).1
          rw [if_pos (by omega),show (c.mu d).2+off+j - ((c.mu d).2+(off+len * sz))=j - len * sz by omega]
          exact hnr _ y hy
        ·simp [Cx.mv]
       ·obtain ⟨olds,ho1,ho2,ho3⟩:=hold.list
        have hoc:∀ (j:Nat) v,olds[j]? = some v→c.w.cell? ((⟨(c.mu d).1,(c.mu d).2+off,none⟩:Addr).add j)=some v:=fun j v hv=>by
         rw [AA6,cell_of hrow];exact ho2 j v hv
        obtain ⟨c',h1,h2,h3,h4,h5,h6⟩:=grown olds _ (len+m) cap [] (c.drop d) c.w.drew rfl ⟨rfl,rfl,rfl⟩ (by omega) ho3 (by rw [ho1,holdl,hnl,Nat.add_mul]) hb.2 (.inr ⟨d,hdid,rfl⟩)
        refine ⟨_,c',?_,h2,h3,h4,?_,fun i=>by rw [h6];simp [hdid]⟩
        ·have:=run_append_grow (P:=P) c.w t ty e i zv ht hi hzv ⟨(c.mu d).1,(c.mu d).2+off,none⟩ len cap olds (by rw [hsz,ho1,holdl]) hoc p m cap2 news (by rw [hsz];exact hnl) hpc (by omega) (by omega) (growslice_fits (by omega) (by rw [hby];exact hb.1))
         rw [this,h1]
        ·rw [h5]
         funext i
         simp only [Cx.drop,upd]
         by_cases e1:i=id
         ·subst e1;simp [Ne.symm hdid]
         ·by_cases e2:i=d
          ·subst e2;simp [e1]
          ·simp [e1,e2]
      ·cases h
    ·cases h
   ·cases h
  ·cases h
 ·cases h
end
end Go.Am
namespace Go.Am
section
variable {P:Program} {c:Cx} {G:Gl} {fr:List AV} {a:Act}
theorem snd_slA {t e:TypeId} {n s:Nat} {x:AV} {u:Value} {lo hi:Option Nat} {vl vh:Option Value} {r:AV} {rd:List Nat} (hR:Rel P c) (ht:P.underlying t=some (.array n e)) (hs:AJ3 P e=some s) (hx:RR c x u) (hl:(lo=none∧vl=none)∨∃ k n,lo=some n∧vl=some (.int k n))
  (hh:(hi=none∧vh=none)∨∃ k n,hi=some n∧vh=some (.int k n)) (h:slAV c.at_ n s x lo hi=some (r,rd)):∃ val,(Instr.sliceAt t u vl vh none).run P c.w = .ok val c.w∧RR c r val:=by
 have hsz:=AJ2 hs c.w
 unfold slAV at h
 split at h
 ·rename_i id off
  split at h
  case h_2=>cases h
  rename_i cs hcs
  dsimp only at h
  split at h
  ·rename_i hc
   obtain ⟨h1,h2,h3,hle,hpos⟩:=hc
   obtain ⟨hu,rfl⟩:=AC9.1 hx
   obtain ⟨ar,T,hrow,hcells⟩:=hR.obj id _ (AA1 hcs)
   have hsize:(c.mu id).2+(off+n * s)≤ar.size:=by
    obtain ⟨v,hv,_⟩:=hcells (off+n * s - 1) _ (List.getElem?_eq_getElem (by omega))
    have hv':ar[(c.mu id).2+(off+n * s - 1)]? = some v:=hv
    have:=(Array.getElem?_eq_some_iff.1 hv').1
    omega
   have hb:=AT1 (P:=P) (b:=false) (len:=n) (cap:=n) (mx:=none) (vm:=none) hl hh (.inl ⟨rfl,rfl⟩) h1 h2 (Nat.le_refl _) (by simp) c.w
   simp only [Option.getD_none] at hb
   have hrun:(Instr.sliceAt t (.pointer (some ⟨(c.mu id).1,(c.mu id).2+off,none⟩)) vl vh none).run P c.w = .ok (.slice (some (if n=lo.getD 0 then ⟨(c.mu id).1,(c.mu id).2+off,none⟩ else ⟨(c.mu id).1,(c.mu id).2+off+lo.getD 0 * s,none⟩)) (hi.getD n - lo.getD 0) (n - lo.getD 0)) c.w:=by
    simp [Instr.sliceAt,run_underlying ht,Instr.sureAddr,hb,hsz,AA6]
   refine ⟨_,hrun,?_⟩
   split at h
   ·rename_i hlt
    cases h
    rw [if_neg (by omega)]
    refine AK9.2 ⟨hu,(hR.obj id _ (AA1 hcs)).lt,_,by rw [Nat.add_assoc],by omega,Nat.le_refl _,by omega,?_⟩
    simp only [csize,hrow]
    have : lo.getD 0 * s+(n - lo.getD 0) * s=n * s:=by rw [← Nat.add_mul];congr 1;omega
    omega
   ·cases h
    have e1:hi.getD n - lo.getD 0=0:=by omega
    have e2:n - lo.getD 0=0:=by omega
    rw [e1,e2]
    exact RR_nils.2 ⟨_,rfl⟩
  ·cases h
 ·cases h
theorem snd_mks {t e:TypeId} {sz bytes id:Nat} {z:List AV} {x y:AV} {u v:Value} {r:AV} {up:Up} (hR:Rel P c) (hid:¬ c.U id) (ht:P.underlying t=some (.slice e)) (hs:AJ3 P e=some sz) (hb:bytesOf P e=some bytes) (hz:zeroOf P e=some z) (hzl:z.length=sz) (hx:RR c x u) (hy:RR c y v)
  (h:mksV id sz bytes z x y=some (r,up)):∃ cs,up=[(id,some (.cells cs))]∧∃ val vs,(Instr.makeSlice t u v).run P c.w = .ok val (c.w.alloc (.cells vs e))∧RC1 (RR c) cs (fun j=>vs[j]?)∧RR (c.mk' id (.cells cs) (.cells vs e)) r val:=by
 unfold mksV at h
 split at h
 ·rename_i l k
  split at h
  ·rename_i hc
   obtain ⟨h1,h2,h3,h4⟩:=hc
   cases h
   simp only [RR_int] at hx hy
   subst hx;subst hy
   obtain ⟨zv,g1,g2,g3⟩:=AN5 (c:=c) hz c.w
   unfold bytesOf at hb
   simp only [Option.map_eq_some_iff] at hb
   obtain ⟨i,hi,hb⟩:=hb
   unfold AJ3 at hs
   simp only [Option.map_eq_some_iff] at hs
   obtain ⟨i',hi',hs⟩:=hs
   rw [hi] at hi'
   cases hi'
   obtain ⟨zv',hzi⟩:∃ zv',i.zero=some zv':=by
    unfold zeroOf at hz
    rw [hi] at hz
    cases hq:i.zero with
    | none=>simp [hq] at hz
    | some q=>exact ⟨q,rfl⟩
   have hzz:zv=zv':=by
    have : (zeroValue e).run P c.w = .ok zv' c.w:=by simp [zeroValue,typeInfo,hi,hzi]
    rw [g1] at this;cases this;rfl
   subst hzz
   have hrep:=BK3 (n:=k.toNat) hzl (by rw [g2,hzl]) g3
   have hrun:=run_make (P:=P) c.w t e i zv ht hi hzi .i64 .i64 l k h1 h2 (by rw [hb];omega) (by omega)
   rw [hs] at hrun
   refine ⟨_,rfl,_,_,hrun,hrep,?_⟩
   refine AK9.2 ⟨.inr rfl,by simp [Cx.mk'],k.toNat,by simp [Cx.mk'],by omega,Nat.le_refl _,by unfold maxLen;omega,?_⟩
   have : (madeCells zv.cells (k.toNat * sz)).size=k.toNat * sz:=by simp [madeCells]
   simp [Cx.mk',BG1,this]
  ·cases h
 ·cases h
theorem snd_mm {mx:Bool}:∀ {l:List AV} {vs:List Value} {x:AV} {u r:_},RR c x u→vs.length=l.length→RCs (RR c) l (fun j=>vs[j]?)→mmV mx x l=some r→∃ val,(vs.foldlM (if mx then Builtin.max2 else Builtin.min2) u).run P c.w = .ok val c.w∧RR c r val
 | [],[],x,u,r,hx,_,_,h=>by cases h;exact ⟨u,by simp,hx⟩
 | [],_::_,_,_,_,_,hl,_,_=>by simp at hl
 | _::_,[],_,_,_,_,hl,_,_=>by simp at hl
 | y::l,v::vs,x,u,r,hx,hl,hr,h=>by
  have hy:RR c y v:=by obtain ⟨w,hw,hyw⟩:=hr 0 y rfl;simp at hw;subst hw;exact hyw
  have hrest:RCs (RR c) l fun j=>vs[j]?:=fun j z hz=>by simpa using hr (j+1) z (by simpa using hz)
  cases x<;>cases y<;>simp only [mmV] at h<;>first|(cases h;done)|skip
  rename_i k p k' q
  split at h
  ·rename_i hk
   subst hk
   simp only [RR_int] at hx hy
   subst hx;subst hy
   obtain ⟨val,h1,h2⟩:=snd_mm (x:=.int k (if mx then (if q > p then q else p) else (if q < p then q else p))) (u:=.int k (if mx then (if q > p then q else p) else (if q < p then q else p))) (RR_int.2 rfl) (by simpa using hl) hrest h
   refine ⟨val,?_,h2⟩
   cases mx<;>simpa [List.foldlM_cons,Builtin.max2,Builtin.min2] using h1
  ·cases h
theorem snd_clear {t e:TypeId} {ty:TypeId} {z:List AV} {x:AV} {u:Value} {up:Up} {rd:List Nat} (hR:Rel P c) (ht:P.underlying t=some (.slice e)) (hz:zeroOf P e=some z) (h0:0 < z.length) (hx:RR c x u) (h:Ab1 c.at_ z x=some (up,rd)) :
  ∃ c',(Builtin.clear_ #[t] ty #[u]).run P c.w = .ok (.tuple #[]) c'.w∧Rel P c'∧Ext c c'∧c'.at_=upd c.at_ up∧(∀ i,c'.U i ↔ c.U i):=by
 unfold Ab1 at h
 split at h
 ·cases h
  obtain ⟨A,rfl⟩:=RR_nils.1 hx
  exact ⟨c,by cases A<;>simp [Builtin.clear_,run_underlying ht],hR,Ext.refl c,rfl,fun _=>Iff.rfl⟩
 ·rename_i id off len cp sz
  split at h
  ·rename_i cs hcs
   split at h
   ·rename_i hc
    obtain ⟨hsz,hle⟩:=hc
    cases h
    have hd:=AA1 hcs
    obtain ⟨hu,hlt,cap,rfl,g1,g2,g3,g4⟩:=AK9.1 hx
    rcases Nat.eq_zero_or_pos len with hl0|hl0
    ·subst hl0
     have hover:over cs off (List.replicate 0 z).flatten=cs:=by simp [over]
     refine ⟨c.wr id (over cs off (List.replicate 0 z).flatten) c.w,by simp [Builtin.clear_,run_underlying ht,Cx.wr],?_,?_,rfl,fun _=>Iff.rfl⟩
     ·rw [hover]
      exact BR3 hR hd (fun _ _=>rfl) rfl rfl ⟨rfl,rfl,rfl⟩ ((hR.obj id _ hd).ext (Ao2 hR hd (fun _ _=>rfl) rfl rfl ⟨rfl,rfl,rfl⟩) rfl)
     ·exact Ao2 hR hd (fun _ _=>rfl) rfl rfl ⟨rfl,rfl,rfl⟩
    ·obtain ⟨zv,z1,z2,z3⟩:=AN5 (c:=c) hz c.w
     have hrep:=BK3 (n:=len) rfl z2 z3
     obtain ⟨news,n1,n2,n3⟩:=hrep.list
     have hcap:len * sz≤cap * sz:=Nat.mul_le_mul_right _ (by omega)
     have hfl:=AX3 (z:=z) rfl len
     obtain ⟨w',ar,T,k1,k2,k3,k4,k5,k6,k7,k8,k9⟩:=Aj7 (off:=off) hR hd n1 n3 (by rw [n1,hfl,← hsz];omega)
     have he:=Ao2 (cs:=over cs off (List.replicate len z).flatten) hR hd k5 k6 k7 k9
     have hnews:(Builtin.zeroCells zv.cells len).toList=news:=by
      apply List.ext_getElem?
      intro j
      cases hj:news[j]? with
      | some v =>
       have e:Builtin.zeroCells zv.cells len=(Array.range (len * z.length)).map fun i=>zv.cells[i % zv.cells.size]!:=by simp only [Builtin.zeroCells,z2]
       rw [Array.getElem?_toList,e];exact n2 j v hj
      | none =>
       rw [List.getElem?_eq_none]
       have:=List.getElem?_eq_none_iff.1 hj
       simp only [Array.length_toList,size_zeroCells,z2]
       rw [n1,hfl] at this;exact this
     refine ⟨c.wr id (over cs off (List.replicate len z).flatten) w',?_,BR3 hR hd k5 k6 k7 k9 ⟨_,T,k4,RC1.ext he ?_⟩,he,rfl,fun _=>Iff.rfl⟩
     ·obtain ⟨len',rfl⟩:∃ q,len=q+1:=⟨len - 1,by omega⟩
      simp [Builtin.clear_,run_underlying ht,z1,hnews,k1,Cx.wr]
     ·exact AR0 _ news (c.mu id).2 off cs ar n1 n3 k3
   ·cases h
  ·cases h
 ·cases h
  obtain ⟨A,cap,rfl,_⟩:=AD0.1 hx
  exact ⟨c,by cases A<;>simp [Builtin.clear_,run_underlying ht],hR,Ext.refl c,rfl,fun _=>Iff.rfl⟩
 ·cases h
end
end Go.Am
namespace Go.Am
def Cx.wrO (c:Cx) (id:Nat) (o:AObj) (w':World):Cx:={ U:=c.U,at_:=upd c.at_ [(id,some o)],mu:=c.mu,w:=w',hid:=c.hid }
section
variable {P:Program} {c:Cx}
theorem BN5 {id:Nat} {o o2:AObj} {w':World} (hR:Rel P c) (ho:c.at_ id=some o) (hother:∀ b,b ≠ (c.mu id).1→w'.heap[b]? = c.w.heap[b]?) (hcs:csize w' (c.mu id).1=csize c.w (c.mu id).1) (hsz:w'.heap.size=c.w.heap.size) (henv:w'.os=c.w.os∧w'.tape=c.w.tape∧w'.output=c.w.output) :
  Ext c (c.wrO id o2 w'):=by
 refine ⟨fun i hi=>hi,fun i _=>rfl,fun b hb=>?_,fun b hb=>?_,by simp [Cx.wrO,hsz],fun _=>Iff.rfl,fun b hb=>hother b fun e=>hR.nohid id o ho (e▸hb),henv⟩
 ·by_cases e:b=(c.mu id).1
  ·subst e;exact hcs
  ·simp only [csize,Cx.wrO,hother b e]
 ·have hne:b ≠ (c.mu id).1:=fun e=>hb.2 id o ho e.symm
  refine ⟨⟨by simp [Cx.wrO,hsz];exact hb.1,fun i o' hi=>?_,hb.3⟩,hother b hne⟩
  simp only [Cx.wrO,upd] at hi ⊢
  split at hi
  ·rename_i e;subst e;exact Ne.symm hne
  ·exact hb.2 i o' hi
theorem rel_wrO {id:Nat} {o o2:AObj} {w':World} (hR:Rel P c) (ho:c.at_ id=some o) (hother:∀ b,b ≠ (c.mu id).1→w'.heap[b]? = c.w.heap[b]?) (hcs:csize w' (c.mu id).1=csize c.w (c.mu id).1) (hsz:w'.heap.size=c.w.heap.size) (henv:w'.os=c.w.os∧w'.tape=c.w.tape∧w'.output=c.w.output)
  (hob:Aq8 P (c.wrO id o2 w') (c.mu id) o2):Rel P (c.wrO id o2 w'):=by
 have he:=BN5 (o2:=o2) hR ho hother hcs hsz henv
 have hat:∀ i o',(c.wrO id o2 w').at_ i=some o'→(i=id∧o'=o2)∨(i ≠ id∧c.at_ i=some o'):=fun i o' hi=>by
  simp only [Cx.wrO,upd] at hi
  split at hi
  ·rename_i e;cases hi;exact .inl ⟨e,rfl⟩
  ·rename_i e;exact .inr ⟨e,hi⟩
 have hlive:∀ i o',(c.wrO id o2 w').at_ i=some o'→∃ o1,c.at_ i=some o1:=fun i o' hi=>by
  rcases hat i o' hi with ⟨e,_⟩ | ⟨_,h⟩
  ·exact ⟨o,e▸ho⟩
  ·exact ⟨o',h⟩
 refine ⟨fun i o' hi=>?_,fun i j o1 o2 hi hj hij=>?_,fun i o' hi=>?_,hR.many,fun i o' hi=>(let ⟨o1,h1⟩:=hlive i o' hi;hR.nohid i o1 h1),fun b hb=>by have:=hR.hidlt b hb;simp [Cx.wrO,hsz];exact this⟩
 ·obtain ⟨o1,h1⟩:=hlive i o' hi;exact hR.used i o1 h1
 ·obtain ⟨p1,h1⟩:=hlive i o1 hi
  obtain ⟨p2,h2⟩:=hlive j o2 hj
  exact hR.inj i j p1 p2 h1 h2 hij
 ·rcases hat i o' hi with ⟨e1,e2⟩ | ⟨n1,h1⟩
  ·rw [e1,e2];exact hob
  ·exact (hR.obj i o' h1).ext he (hother _ fun e=>n1 (hR.inj i id o' o h1 ho e))
theorem At0 {x:AV} (h:x.isInt=true):∃ k n,x = .int k n:=by
 cases x<;>simp [AV.isInt] at h
 exact ⟨_,_,rfl⟩
theorem BU6 {ag:Bool} {x:AV} {kc:List AV} (h:BU7 ag x=some kc):∀ y ∈ kc,y.isInt=true:=by
 unfold BU7 at h
 split at h
 ·split at h
  ·rename_i hc;cases h;exact List.all_eq_true.1 hc.2
  ·cases h
 ·split at h
  ·cases h
  ·cases h;intro y hy;obtain rfl:=List.mem_singleton.1 hy;rfl
 ·cases h
theorem eq1_int {k:Nat} {kk:IntKind} {n:Int} {y:AV} (h:eq1 k (.int kk n) y=some true):AV.int kk n=y:=by
 cases y<;>(rcases k with _|_|_|k)<;>simp [eq1] at h
 obtain ⟨rfl,rfl⟩:=h;rfl
theorem eqL_int:∀ {ks:List Nat} {xs ys:List AV},(∀ x ∈ xs,x.isInt=true)→eqL ks xs ys=some true→xs=ys
 | [],[],[],_,_=>rfl
 | [],[],_::_,_,h=>by simp [eqL] at h
 | [],_::_,_,_,h=>by simp [eqL] at h
 | _::_,[],_,_,h=>by simp [eqL] at h
 | _::_,_::_,[],_,h=>by simp [eqL] at h
 | k::ks,x::xs,y::ys,hi,h=>by
  obtain ⟨p,t,h1,h2,h3⟩:=Aj1 h
  have hp:p=true∧t=true:=by simpa using h3.symm
  obtain ⟨rfl,rfl⟩:=hp
  obtain ⟨kk,n,rfl⟩:=At0 (hi x (List.mem_cons_self ..))
  have he:=eq1_int h1
  rw [he,eqL_int (fun x hx=>hi x (List.mem_cons_of_mem _ hx)) h2]
inductive KeyR (P:Program) (kt:TypeId):Bool→List AV→Value→Prop
 | one {q k:IntKind} {n:Int} (hu:P.underlying kt=some (.int q)):KeyR P kt false [.int k n] (.int k n)
 | many {fs:Array Field} {kc:List AV} {vs:Array Value} (hu:P.underlying kt=some (.struct fs)) (hs:vs.size=kc.length) (hv:∀ (j:Nat) (x:AV),kc[j]? = some x→∃ k n,x = .int k n∧vs[j]? = some (.int k n)):KeyR P kt true kc (.agg vs)
theorem AR4 {t:TypeId} {ag:Bool} {ks:List Nat} (h:BM6 P t=some (ag,ks)):(ag=false∧ks=[0]∧∃ q,P.underlying t=some (.int q))∨(ag=true∧∃ fs,P.underlying t=some (.struct fs)∧(∀ f ∈ fs.toList,∃ q,P.underlying f.type=some (.int q))∧V7 P 9 t=some ks):=by
 unfold BM6 at h
 split at h
 ·rename_i q hq;cases h;exact .inl ⟨rfl,rfl,q,hq⟩
 ·rename_i fs hfs
  split at h
  ·rename_i hall
   simp only [Option.map_eq_some_iff] at h
   obtain ⟨l,hl,he⟩:=h
   cases he
   refine .inr ⟨rfl,fs,hfs,fun f hf=>?_,hl⟩
   have:=List.all_eq_true.1 hall f hf
   split at this
   ·rename_i q hq;exact ⟨q,hq⟩
   ·cases this
  ·cases h
 ·cases h
theorem Ae3 {t:TypeId} {ag:Bool} {ks:List Nat} (h:BM6 P t=some (ag,ks)) {x:AV} {kc:List AV} (hk:BU7 ag x=some kc) {v:Value} (hv:RR c x v):KeyR P t ag kc v:=by
 have hi:=BU6 hk
 rcases AR4 h with ⟨rfl,rfl,q,hq⟩ | ⟨rfl,fs,hfs,_,_⟩
 ·unfold BU7 at hk
  split at hk
  ·simp at hk
  ·simp at hk;subst hk;rw [RR_int.1 hv];exact .one hq
  ·cases hk
 ·unfold BU7 at hk
  split at hk
  ·rename_i cs
   split at hk
   ·cases hk
    obtain ⟨vs,rfl,h1,h2⟩:=AB4.1 hv
    refine .many hfs h1 fun j y hy=>?_
    obtain ⟨k,n,rfl⟩:=At0 (hi y (List.mem_of_getElem? hy))
    obtain ⟨u,hu,hr,_⟩:=h2 j _ hy
    have hu':vs[j]? = some u:=hu
    exact ⟨k,n,rfl,by rw [hu',RR_int.1 hr]⟩
   ·cases hk
  ·simp at hk
  ·cases hk
theorem KeyR.uniq {t:TypeId} {ag:Bool} {kc:List AV} {v v':Value} (h:KeyR P t ag kc v) (h':KeyR P t ag kc v'):v=v':=by
 cases h with
 | one=>cases h';rfl
 | many hu hs hv =>
  cases h' with
  | many hu' hs' hv' =>
   rename_i vs _ vs'
   congr 1
   apply Array.ext_getElem?
   intro j
   cases hj:kc[j]? with
   | none =>
    have:=List.getElem?_eq_none_iff.1 hj
    rw [Array.getElem?_eq_none (by omega),Array.getElem?_eq_none (by omega)]
   | some x =>
    obtain ⟨k,n,rfl,e1⟩:=hv j x hj
    obtain ⟨k',n',e,e2⟩:=hv' j _ hj
    cases e
    rw [e1,e2]
theorem KeyR.stays {t:TypeId} {ag:Bool} {kc:List AV} {v:Value} (h:KeyR P t ag kc v) (w:World):(Instr.keyThatStays v v).run P w = .ok v w:=by
 have hb:∀ d,Instr.sameBits (d+2) v v=true:=fun d=>by
  cases h with
  | one=>simp [Instr.sameBits]
  | many hu hs hv =>
   rename_i vs
   simp only [Instr.sameBits,beq_self_eq_true,Bool.true_and,List.all_eq_true]
   rintro ⟨a,b⟩ hab
   obtain ⟨j,hj⟩:=List.getElem?_of_mem hab
   rw [List.getElem?_zip_eq_some] at hj
   obtain ⟨ha,hb⟩:=hj
   simp only [Array.getElem?_toList] at ha hb
   have hlt:j < kc.length:=by rw [← hs];exact (Array.getElem?_eq_some_iff.1 ha).1
   obtain ⟨k,n,_,e1⟩:=hv j _ (List.getElem?_eq_getElem hlt)
   rw [ha] at e1
   rw [hb] at ha
   obtain rfl:=Option.some.inj ha
   obtain rfl:=Option.some.inj e1
   simp [Instr.sameBits]
 have hb:=hb 9998
 simp [Instr.keyThatStays,hb]
theorem leaf_int {t:TypeId} {q:IntKind} (h:P.underlying t=some (.int q)) (d:Nat):V7 P (d+1) t=some [0]:=by simp only [V7,h]
theorem BM4 {t:TypeId} {fs:Array Field} {d:Nat} {ks:List Nat} (hu:P.underlying t=some (.struct fs)) (h:V7 P (d+1) t=some ks):AX1 (V7 P d) fs.toList 0=some ks:=by
 simp only [V7,hu] at h
 split at h
 ·split at h
  ·rename_i l hl'
   split at h
   ·cases h;exact hl'
   ·cases h
  ·cases h
 ·cases h
theorem int_eq {t:TypeId} {q:IntKind} (hu:P.underlying t=some (.int q)) (k:IntKind) (n n':Int) (d:Nat) (w:World):(Op.equalIn (d+1) t (.int k n) (.int k n')).run P w = .ok (n == n') w:=by
 simp [Op.equalIn,run_underlying hu]
theorem KeyR.checkD {t:TypeId} {ag:Bool} {ks:List Nat} (h:BM6 P t=some (ag,ks)) {kc:List AV} {v:Value} (hv:KeyR P t ag kc v) (hl:kc.length=ks.length) (em:Bool) (w:World) (d:Nat):(Instr.checkKey em (d+2) t v).run P w = .ok () w:=by
 cases hv with
 | one hu=>simp [Instr.checkKey,run_underlying hu]
 | many hu hs hv =>
  rename_i fs vs
  rcases AR4 h with ⟨h1,_⟩ | ⟨_,fs',hu',hf,hlv⟩
  ·cases h1
  ·rw [hu] at hu';cases hu'
   have hF:AX1 (V7 P 8) fs.toList 0=some ks:=BM4 hu hlv
   have hus:∀ j,0≤j→j < 0+ks.length→∃ k n,vs[j]? = some (.int k n):=fun j _ hj=>by
    obtain ⟨k,n,_,e⟩:=hv j _ (List.getElem?_eq_getElem (show j < kc.length by omega))
    exact ⟨k,n,e⟩
   rw [Instr.checkKey]
   simp only [Sem.run_bind,run_underlying hu,Result.andThen_ok]
   rw [← Array.forIn_toList]
   clear hlv hl h hu hs hv
   generalize fs.toList=L at hF hf
   generalize 0=i at hF hus
   induction L generalizing i ks with
   | nil=>simp
   | cons f L ih =>
    simp only [AX1] at hF
    split at hF
    ·rename_i hno
     obtain ⟨q,hq⟩:=hf f (List.mem_cons_self ..)
     rw [leaf_int hq 7] at hF
     simp only [Option.map_eq_some_iff] at hF
     obtain ⟨r,hr,rfl⟩:=hF
     obtain ⟨k,n,hkn⟩:=hus i (Nat.le_refl _) (by simp)
     have hp:(part f.type vs f.offset).run P w = .ok (.int k n) w:=run_part_plain w (by simp [Program.plainKey,hq]) (by rw [hno.2];exact hkn)
     have hc:(Instr.checkKey em (d+1) f.type (.int k n)).run P w = .ok () w:=by simp [Instr.checkKey,run_underlying hq]
     simp only [List.forIn_cons,Sem.run_bind,hno.1,ne_eq,not_false_eq_true,if_true,Result.andThen_ok,hp,hc,Sem.run_pure]
     exact ih (fun g hg=>hf g (List.mem_cons_of_mem _ hg)) (i + [0].length) hr fun j h1 h2=>hus j (by simp at h1;omega) (by simp at h2 ⊢;omega)
    ·cases hF
theorem KeyR.check {t:TypeId} {ag:Bool} {ks:List Nat} (h:BM6 P t=some (ag,ks)) {kc:List AV} {v:Value} (hv:KeyR P t ag kc v) (hl:kc.length=ks.length) (em:Bool) (w:World):(Instr.checkKey em 10000 t v).run P w = .ok () w:=KeyR.checkD h hv hl em w 9998
def Ents (c:Cx) (es:List (AV × AV)) (ms:List MapEntry):Prop:=ms.length=es.length∧∀ (j:Nat) (kv:AV × AV),es[j]? = some kv→∃ m:MapEntry,ms[j]? = some m∧RR c kv.1 m.key∧RR c kv.2 m.val
theorem Ents.tail {e:AV × AV} {es:List (AV × AV)} {m:MapEntry} {ms:List MapEntry} (h:Ents c (e::es) (m::ms)):Ents c es ms:=⟨by have:=h.1;simpa using this,fun j kv hj=>by simpa using h.2 (j+1) kv (by simpa using hj)⟩
theorem Ents.head {e:AV × AV} {es:List (AV × AV)} {m:MapEntry} {ms:List MapEntry} (h:Ents c (e::es) (m::ms)):RR c e.1 m.key∧RR c e.2 m.val:=by
 obtain ⟨m',h1,h2⟩:=h.2 0 e rfl
 cases h1;exact h2
theorem key_eq {t:TypeId} {ag:Bool} {ks:List Nat} (h:BM6 P t=some (ag,ks)) {kc kc':List AV} {v v':Value} (hv:KeyR P t ag kc v) (hv':KeyR P t ag kc' v') {b:Bool} (he:eqL ks kc kc'=some b) (w:World):(Op.equal t v v').run P w = .ok b w:=by
 obtain ⟨l1,l2⟩:=BN9 he
 rw [Aa8]
 cases hv with
 | one hu =>
  cases hv' with
  | one hu' =>
   rename_i q k n _ k' n'
   rcases AR4 h with ⟨_,rfl,_⟩ | ⟨h1,_⟩
   ·have:=BF9 he
    simp only [eq1] at this
    split at this
    ·rename_i hkk;subst hkk;cases this
     exact int_eq hu _ _ _ 9999 w
    ·cases this
   ·cases h1
 | many hu hs hv =>
  cases hv' with
  | many hu' hs' hv' =>
   rename_i fs vs _ vs'
   rcases AR4 h with ⟨h1,_⟩ | ⟨_,_,_,_,hlv⟩
   ·cases h1
   ·obtain ⟨_,_,hq⟩:=Ax8 (c:={ U:=fun _=>False,at_:=fun _=>none,mu:=fun _=>(0,0),w:=w,hid:=fun _=>False }) (d:=8) (D:=9999) (Ax6 8 (by decide)) hlv (.inl ⟨fs,hu⟩)
    refine hq w kc kc' vs vs' b l1 l2 (fun j x hx=>?_) (fun j x hx=>?_) he
    ·obtain ⟨k,n,rfl,e⟩:=hv j x hx
     exact ⟨_,by simpa using e,RR_int.2 rfl,⟨fun _ h=>(by cases h),fun _ h=>(by cases h)⟩⟩
    ·obtain ⟨k,n,rfl,e⟩:=hv' j x hx
     exact ⟨_,by simpa using e,RR_int.2 rfl,⟨fun _ h=>(by cases h),fun _ h=>(by cases h)⟩⟩
theorem Ap7 {t:TypeId} {ag:Bool} {ks:List Nat} (h:BM6 P t=some (ag,ks)) {kc:List AV} {v:Value} (hv:KeyR P t ag kc v) (w:World):∀ (es:List (AV × AV)) (ms:List MapEntry) (i:Nat) (o:Option Nat),Ents c es ms→AO1 ag ks kc es=some o→(Instr.findAsking t v ms i).run P w = .ok (o.bind fun j=>(ms[j]?).map fun m=>(i+j,m.val)) w
 | [],[],i,o,_,hf=>by simp [AO1] at hf;subst hf;simp [Instr.findAsking]
 | [],_::_,i,o,he,_=>by have:=he.1;simp at this
 | _::_,[],i,o,he,_=>by have:=he.1;simp at this
 | e::es,m::ms,i,o,he,hf=>by
  simp only [AO1] at hf
  split at hf
  ·rename_i k' hk'
   have hm:=Ae3 h hk' he.head.1
   split at hf
   ·rename_i hq
    cases hf
    simp [Instr.findAsking,key_eq h hv hm hq w]
   ·rename_i hq
    simp only [Option.map_eq_some_iff] at hf
    obtain ⟨o',ho',rfl⟩:=hf
    have ih:=Ap7 h hv w es ms (i+1) o' he.tail ho'
    simp [Instr.findAsking,key_eq h hv hm hq w,ih]
    cases o' with
    | none=>rfl
    | some j=>simp [Nat.add_assoc,Nat.add_comm 1 j]
   ·cases hf
  ·cases hf
theorem BT0 {t:TypeId} {q k:IntKind} {n:Int} (hu:P.underlying t=some (.int q)) (h:BM6 P t=some (false,[0])):∀ (es:List (AV × AV)) (ms:List MapEntry) (i:Nat) (o:Option Nat),Ents c es ms→AO1 false [0] [.int k n] es=some o→Instr.findNow (.int q) (.int k n) ms i=some (o.bind fun j=>(ms[j]?).map fun m=>(i+j,m.val))
 | [],[],i,o,_,hf=>by simp [AO1] at hf;subst hf;simp [Instr.findNow]
 | [],_::_,i,o,he,_=>by have:=he.1;simp at this
 | _::_,[],i,o,he,_=>by have:=he.1;simp at this
 | e::es,m::ms,i,o,he,hf=>by
  simp only [AO1] at hf
  split at hf
  ·rename_i k' hk'
   have hm:=Ae3 h hk' he.head.1
   cases hm':m.key<;>rw [hm'] at hm<;>try (cases hm;done)
   rename_i k2 n2
   cases hm
   have e1:∀ b,eqL [0] [AV.int k n] [AV.int k2 n2]=some b→k=k2∧b=(n == n2):=fun b hb=>by
    have:=BF9 hb
    simp only [eq1] at this
    split at this
    ·rename_i hkk;cases this;exact ⟨hkk,rfl⟩
    ·cases this
   split at hf
   ·rename_i hq
    obtain ⟨rfl,hb⟩:=e1 _ hq
    cases hf
    simp [Instr.findNow,Instr.sameNow,hm',← hb]
   ·rename_i hq
    obtain ⟨rfl,hb⟩:=e1 _ hq
    simp only [Option.map_eq_some_iff] at hf
    obtain ⟨o',ho',rfl⟩:=hf
    have ih:=BT0 hu h es ms (i+1) o' he.tail ho'
    simp [Instr.findNow,Instr.sameNow,hm',← hb,ih]
    cases o' with
    | none=>rfl
    | some j=>simp [Nat.add_assoc,Nat.add_comm 1 j]
   ·cases hf
  ·cases hf
theorem find_spec {t:TypeId} {ag:Bool} {ks:List Nat} (h:BM6 P t=some (ag,ks)) {kc:List AV} {v:Value} (hv:KeyR P t ag kc v) (w:World) {es:List (AV × AV)} {ms:List MapEntry} {o:Option Nat} (he:Ents c es ms) (hf:AO1 ag ks kc es=some o):(Instr.findKey t v ms).run P w = .ok (o.bind fun j=>(ms[j]?).map fun m=>(j,m.val)) w:=by
 cases hv with
 | one hu =>
  rcases AR4 h with ⟨_,rfl,_⟩ | ⟨h1,_⟩
  ·have:=BT0 hu h es ms 0 o he hf
   simp [Instr.findKey,run_underlying hu,this]
  ·cases h1
 | many hu hs hv =>
  rw [run_findKey_eq w (by simp [hu])]
  have:=Ap7 h (KeyR.many hu hs hv) w es ms 0 o he hf
  simpa using this
theorem Ax9 {i:Nat} {es:List (AV × AV)} (hR:Rel P c) (h:AN1 c.at_ i=some es):c.at_ i=some (.maps es)∧∃ (a:Array MapEntry) (clock:Nat),c.w.heap[(c.mu i).1]? = some (.map a clock)∧Ents c es a.toList:=by
 have hi:c.at_ i=some (.maps es):=by
  unfold AN1 at h
  split at h
  ·rename_i hq;cases h;exact hq
  ·cases h
 obtain ⟨a,k,h1,h2,h3⟩:=hR.obj i _ hi
 exact ⟨hi,a,k,h1,by simpa using h2.1,fun j kv hj=>by simpa using h3 j kv hj⟩
theorem AY6 {i:Nat} {es:List (AV × AV)} {a:Array MapEntry} {k:Nat} (hR:Rel P c) (hi:c.at_ i=some (.maps es)) (hb:c.w.heap[(c.mu i).1]? = some (.map a k)):Stamps a k:=by
 obtain ⟨a',k',h1,h2,-⟩:=hR.obj i _ hi
 rw [hb] at h1
 cases h1
 exact h2.2
theorem An0 {ag:Bool} {ks:List Nat} {m x:AV} {q:Nat × List (AV × AV) × Option Nat} (h:keyV c.at_ ag ks m x=some q):m = .mapr q.1∧AN1 c.at_ q.1=some q.2.1∧∃ kc,BU7 ag x=some kc∧kc.length=ks.length∧AO1 ag ks kc q.2.1=some q.2.2:=by
 unfold keyV at h
 split at h
 ·split at h
  ·rename_i es kc h1 h2
   split at h
   ·rename_i hl
    simp only [Option.map_eq_some_iff] at h
    obtain ⟨o,ho,rfl⟩:=h
    exact ⟨rfl,h1,kc,h2,hl,ho⟩
   ·cases h
  ·cases h
 ·cases h
theorem Ai2 {ag:Bool} {ks:List Nat} {kc:List AV}:∀ {es:List (AV × AV)} {j:Nat},AO1 ag ks kc es=some (some j)→∃ e k',es[j]? = some e∧BU7 ag e.1=some k'∧eqL ks kc k'=some true
 | [],j,h=>by simp [AO1] at h
 | e::es,j,h=>by
  simp only [AO1] at h
  split at h
  ·rename_i k' hk'
   split at h
   ·rename_i hq;cases h;exact ⟨e,k',rfl,hk',hq⟩
   ·simp only [Option.map_eq_some_iff] at h
    obtain ⟨o,ho,h⟩:=h
    cases o with
    | none=>simp at h
    | some i=>simp at h;subst h;obtain ⟨e',k2,h1,h2⟩:=Ai2 ho;exact ⟨e',k2,by simpa using h1,h2⟩
   ·cases h
  ·cases h
theorem zeroV_spec {t:TypeId} {z:AV} (h:zeroV P t=some z) (w:World):∃ v:Value,(zeroValue t).run P w = .ok v w∧RR c z v:=by
 unfold zeroV at h
 simp only [Option.bind_eq_some_iff] at h
 obtain ⟨zv,⟨i,hi,hz⟩,hm⟩:=h
 exact ⟨zv,by simp [zeroValue,typeInfo,hi,hz],ofV_rr hm⟩
theorem snd_mlook {t k e:TypeId} {ok ag:Bool} {ks:List Nat} {z m x r:AV} {u v:Value} {rd:List Nat} (hR:Rel P c) (ht:P.underlying t=some (.map k e)) (hk:BM6 P k=some (ag,ks)) (hz:zeroV P e=some z) (hm:RR c m u) (hx:RR c x v) (h:AU7 c.at_ ok ag ks z m x=some (r,rd)) :
  ∃ val,(Instr.lookup t u v ok).run P c.w = .ok val c.w∧RR c r val:=by
 unfold AU7 at h
 simp only [Option.map_eq_some_iff,Prod.mk.injEq] at h
 obtain ⟨⟨i,es,o⟩,hq,hr,-⟩:=h
 obtain ⟨rfl,h1,kc,h2,h3,h4⟩:=An0 hq
 obtain ⟨-,a,clock,hb,he⟩:=Ax9 hR h1
 obtain ⟨-,rfl⟩:=AK6.1 hm
 have hv:=Ae3 hk h2 hx
 have hc:=hv.check hk h3 a.isEmpty c.w
 have hf:=find_spec hk hv c.w he h4
 obtain ⟨zv,z1,z2⟩:=zeroV_spec (c:=c) hz c.w
 have hg:=MapKept.run_getObj_map (P:=P) hb
 dsimp only at h4 hr
 cases o with
 | none =>
  have hrun:(Instr.lookup t (.map (some (c.mu i).1)) v ok).run P c.w = .ok (if ok then .tuple #[zv,.bool false] else zv) c.w:=by
   simp at hf
   simp [Instr.lookup,run_underlying ht,hg,hc,hf,z1]
  refine ⟨_,hrun,?_⟩
  subst hr
  cases ok with
  | false=>simpa [Aw1] using z2
  | true=>exact AH3.2 ⟨_,rfl,rfl,fun j y hy=>by
    match j with
    | 0=>simp [Aw1] at hy;subst hy;exact ⟨_,rfl,z2⟩
    | 1=>simp at hy;subst hy;exact ⟨_,rfl,RR_bool.2 rfl⟩
    | j+2=>simp at hy⟩
 | some j =>
  obtain ⟨e',k',g1,g2,g3⟩:=Ai2 h4
  obtain ⟨me,g4,g5,g6⟩:=he.2 j e' g1
  have hrun:(Instr.lookup t (.map (some (c.mu i).1)) v ok).run P c.w = .ok (if ok then .tuple #[me.val,.bool true] else me.val) c.w:=by
   simp only [Option.bind_some,g4,Option.map_some] at hf
   simp [Instr.lookup,run_underlying ht,hg,hc,hf]
  have hget:Aw1 z es (some j)=e'.2:=by simp [Aw1,g1]
  refine ⟨_,hrun,?_⟩
  subst hr
  cases ok with
  | false=>simpa [hget] using g6
  | true=>exact AH3.2 ⟨_,rfl,rfl,fun j y hy=>by
    match j with
    | 0=>simp [hget] at hy;subst hy;exact ⟨_,rfl,g6⟩
    | 1=>simp at hy;subst hy;exact ⟨_,rfl,RR_bool.2 rfl⟩
    | j+2=>simp at hy⟩
theorem BG2 {w:World} {b:Nat} {a:Array MapEntry} {k:Nat} (h:w.heap[b]? = some (.map a k)):csize w b=0:=by unfold csize;rw [h]
theorem Av5 {i:Nat} {es es':List (AV × AV)} {a a':Array MapEntry} {k k':Nat} (hR:Rel P c) (hi:c.at_ i=some (.maps es)) (hb:c.w.heap[(c.mu i).1]? = some (.map a k)) (he:Ents c es' a'.toList) (hst:Stamps a' k') :
  ∃ c',c'.w={ c.w with heap:=c.w.heap.setIfInBounds (c.mu i).1 (.map a' k') }∧Rel P c'∧Ext c c'∧c'.at_=upd c.at_ [(i,some (.maps es'))]∧∀ j,c'.U j ↔ c.U j:=by
 have hlt:(c.mu i).1 < c.w.heap.size:=(Array.getElem?_eq_some_iff.1 hb).1
 have hsame:({ c.w with heap:=c.w.heap.setIfInBounds (c.mu i).1 (.map a' k') }:World).heap[(c.mu i).1]? = some (.map a' k'):=by simp [hlt]
 have hoth:∀ b,b ≠ (c.mu i).1→({ c.w with heap:=c.w.heap.setIfInBounds (c.mu i).1 (.map a' k') }:World).heap[b]? = c.w.heap[b]?:=fun b hb=>by
  show (c.w.heap.setIfInBounds (c.mu i).1 (.map a' k'))[b]? = _
  rw [Array.getElem?_setIfInBounds_ne (fun e=>hb e.symm)]
 have hcs:=(BG2 hsame).trans (BG2 hb).symm
 have hx:=BN5 (o2:=.maps es') hR hi hoth hcs (by simp) ⟨rfl,rfl,rfl⟩
 refine ⟨c.wrO i (.maps es') _,rfl,rel_wrO hR hi hoth hcs (by simp) ⟨rfl,rfl,rfl⟩ ⟨a',k',hsame,⟨by simpa using he.1,hst⟩,fun j kv hj=>?_⟩,hx,rfl,fun _=>Iff.rfl⟩
 obtain ⟨m,h1,h2,h3⟩:=he.2 j kv hj
 exact ⟨m,by simpa using h1,h2.ext hx,h3.ext hx⟩
theorem snd_mset {t k e:TypeId} {ag:Bool} {ks:List Nat} {m x y:AV} {u v p:Value} {up:Up} {rd:List Nat} (hR:Rel P c) (ht:P.underlying t=some (.map k e)) (hk:BM6 P k=some (ag,ks)) (hm:RR c m u) (hx:RR c x v) (hy:RR c y p) (h:BL6 c.at_ ag ks m x y=some (up,rd)) :
  (∃ i o,c.U i∧up=[(i,some o)])∧∃ c',(Instr.mapUpdate t u v p).run P c.w = .ok () c'.w∧Rel P c'∧Ext c c'∧c'.at_=upd c.at_ up∧∀ j,c'.U j ↔ c.U j:=by
 unfold BL6 at h
 simp only [Option.map_eq_some_iff,Prod.mk.injEq] at h
 obtain ⟨⟨i,es,o⟩,hq,hr,-⟩:=h
 obtain ⟨rfl,h1,kc,h2,h3,h4⟩:=An0 hq
 obtain ⟨hi,a,clock,hb,he⟩:=Ax9 hR h1
 obtain ⟨hU,rfl⟩:=AK6.1 hm
 have hv:=Ae3 hk h2 hx
 have hc:=hv.check hk h3 false c.w
 have hf:=find_spec hk hv c.w he h4
 have hg:=MapKept.run_getObj_map (P:=P) hb
 dsimp only at h4 hr hi
 subst hr
 refine ⟨⟨i,_,hU,rfl⟩,?_⟩
 cases o with
 | none =>
  obtain ⟨c',e1,e2⟩:=Av5 (es':=es++[(x,y)]) (a':=a.push { key:=v,val:=p,born:=clock }) (k':=clock+1) hR hi hb ⟨by simp [he.1],fun j kv hj=>by
   rw [Array.toList_push,List.getElem?_append,he.1]
   rw [List.getElem?_append] at hj
   split
   ·rename_i hlt;rw [if_pos hlt] at hj;exact he.2 j kv hj
   ·rename_i hlt
    rw [if_neg hlt] at hj
    have : j - es.length=0:=by
     have:=(List.getElem?_eq_some_iff.1 hj).1
     simp at this;omega
    rw [this] at hj ⊢
    cases hj;exact ⟨_,rfl,hx,hy⟩⟩ (by
   obtain ⟨s1,s2⟩:=AY6 hR hi hb
   refine ⟨fun z hz=>?_,?_⟩
   ·rw [Array.toList_push] at hz
    rcases List.mem_append.1 hz with hz|hz
    ·exact Nat.lt_succ_of_lt (s1 z hz)
    ·rw [List.mem_singleton.1 hz];exact Nat.lt_succ_self _
   ·rw [Array.toList_push,List.map_append,List.nodup_append]
    refine ⟨s2,by simp,fun q hq r hr=>?_⟩
    obtain ⟨z,hz,rfl⟩:=List.mem_map.1 hq
    simp only [List.map_cons,List.map_nil,List.mem_singleton] at hr
    have:=s1 z hz
    rw [hr];omega)
  refine ⟨c',?_,e2⟩
  rw [e1]
  simp at hf
  simp [Instr.mapUpdate,run_underlying ht,hg,hc,hf,MapKept.run_setObj_map _ hb]
 | some j =>
  obtain ⟨e',k',g1,g2,g3⟩:=Ai2 h4
  obtain ⟨me,g4,g5,g6⟩:=he.2 j e' g1
  have hkk:me.key=v:=by
   have:=Ae3 hk g2 g5
   rw [← eqL_int (BU6 h2) g3] at this
   exact this.uniq hv
  have hst:=hv.stays c.w
  have ga:a[j]? = some me:=by simpa using g4
  obtain ⟨c',e1,e2⟩:=Av5 (es':=es.set j (x,y)) (a':=a.modify j fun q=>{ q with key:=v,val:=p }) (k':=clock) hR hi hb ⟨by simp [he.1],fun l kv hl=>by
   rw [Array.getElem?_toList,Array.getElem?_modify]
   rw [List.getElem?_set] at hl
   by_cases e:j=l
   ·subst e
    rw [if_pos rfl] at hl
    split at hl
    ·cases hl;rw [if_pos rfl,ga];exact ⟨_,rfl,hx,hy⟩
    ·cases hl
   ·rw [if_neg e] at hl ⊢
    obtain ⟨m',h5,h6⟩:=he.2 l kv hl
    exact ⟨m',by simpa using h5,h6⟩⟩ (by
   obtain ⟨s1,s2⟩:=AY6 hR hi hb
   have e:(a.modify j fun q=>{ q with key:=v,val:=p }).toList.map (·.born)=a.toList.map (·.born):=by
    refine List.ext_getElem? fun l=>?_
    rw [List.getElem?_map,List.getElem?_map,Array.getElem?_toList,Array.getElem?_toList,Array.getElem?_modify]
    split
    ·cases a[l]?<;>rfl
    ·rfl
   refine ⟨fun z hz=>?_,by rw [e];exact s2⟩
   have h7:z.born ∈ a.toList.map (·.born):=by rw [← e];exact List.mem_map.2 ⟨z,hz,rfl⟩
   obtain ⟨y',h8,h9⟩:=List.mem_map.1 h7
   rw [← h9];exact s1 y' h8)
  refine ⟨c',?_,e2⟩
  rw [e1]
  simp only [Option.bind_some,g4,Option.map_some] at hf
  simp [Instr.mapUpdate,run_underlying ht,hg,hc,hf,ga,hkk,hst,MapKept.run_setObj_map _ hb]
theorem snd_mdel {t k e ty:TypeId} {ag:Bool} {ks:List Nat} {m x:AV} {u v:Value} {up:Up} {rd:List Nat} {t2:TypeId} (hR:Rel P c) (ht:P.underlying t=some (.map k e)) (hk:BM6 P k=some (ag,ks)) (hm:RR c m u) (hx:RR c x v) (h:BL8 c.at_ ag ks m x=some (up,rd)) :
  (∃ i o,c.U i∧up=[(i,some o)])∧∃ c',(Builtin.delete_ #[t,t2] ty #[u,v]).run P c.w = .ok (.tuple #[]) c'.w∧Rel P c'∧Ext c c'∧c'.at_=upd c.at_ up∧∀ j,c'.U j ↔ c.U j:=by
 unfold BL8 at h
 simp only [Option.map_eq_some_iff,Prod.mk.injEq] at h
 obtain ⟨⟨i,es,o⟩,hq,hr,-⟩:=h
 obtain ⟨rfl,h1,kc,h2,h3,h4⟩:=An0 hq
 obtain ⟨hi,a,clock,hb,he⟩:=Ax9 hR h1
 obtain ⟨hU,rfl⟩:=AK6.1 hm
 have hv:=Ae3 hk h2 hx
 have hc:=hv.check hk h3 a.isEmpty c.w
 have hf:=find_spec hk hv c.w he h4
 have hg:=MapKept.run_getObj_map (P:=P) hb
 dsimp only at h4 hr hi
 subst hr
 refine ⟨⟨i,_,hU,rfl⟩,?_⟩
 cases o with
 | none =>
  obtain ⟨c',e1,e2⟩:=Av5 (es':=es) (a':=a) (k':=clock) hR hi hb he (AY6 hR hi hb)
  refine ⟨c',?_,e2⟩
  rw [e1]
  simp at hf
  simp [Builtin.delete_,run_underlying ht,hg,hc,hf,MapKept.run_setObj_map _ hb]
 | some j =>
  obtain ⟨e',k',g1,g2,g3⟩:=Ai2 h4
  obtain ⟨me,g4,g5,g6⟩:=he.2 j e' g1
  obtain ⟨c',e1,e2⟩:=Av5 (es':=es.eraseIdx j) (a':=a.eraseIdxIfInBounds j) (k':=clock) hR hi hb ⟨by simp [List.length_eraseIdx,he.1],fun l kv hl=>by
   rw [Array.toList_eraseIdxIfInBounds,List.getElem?_eraseIdx]
   rw [List.getElem?_eraseIdx] at hl
   split
   ·rename_i hlt;rw [if_pos hlt] at hl;exact he.2 l kv hl
   ·rename_i hlt;rw [if_neg hlt] at hl;exact he.2 (l+1) kv hl⟩ (by
   obtain ⟨s1,s2⟩:=AY6 hR hi hb
   have hsub:(a.eraseIdxIfInBounds j).toList.Sublist a.toList:=by rw [Array.toList_eraseIdxIfInBounds];exact List.eraseIdx_sublist _ _
   exact ⟨fun z hz=>s1 z (hsub.subset hz),(hsub.map _).nodup s2⟩)
  refine ⟨c',?_,e2⟩
  rw [e1]
  simp only [Option.bind_some,g4,Option.map_some] at hf
  simp [Builtin.delete_,run_underlying ht,hg,hc,hf,MapKept.run_setObj_map _ hb]
theorem snd_mlen {t k e ty:TypeId} {m r:AV} {u:Value} {rd:List Nat} (hR:Rel P c) (ht:P.underlying t=some (.map k e)) (hm:RR c m u) (h:BL7 c.at_ m=some (r,rd)):∃ val,(Builtin.len_ #[t] ty #[u]).run P c.w = .ok val c.w∧RR c r val:=by
 unfold BL7 at h
 split at h
 ·rename_i i
  simp only [Option.map_eq_some_iff,Prod.mk.injEq] at h
  obtain ⟨es,h1,rfl,-⟩:=h
  obtain ⟨-,a,clock,hb,he⟩:=Ax9 hR h1
  obtain ⟨-,rfl⟩:=AK6.1 hm
  refine ⟨.int .i64 es.length,?_,RR_int.2 rfl⟩
  have hl:=he.1
  simp at hl
  simp [Builtin.len_,run_underlying ht,MapKept.run_getObj_map (P:=P) hb,goInt,hl]
 ·cases h
theorem snd_mkmap {t:TypeId} {id:Nat} (hR:Rel P c) (hid:¬ c.U id):∃ val c',(Instr.makeMap t none).run P c.w = .ok val c'.w∧RR c' (.mapr id) val∧Rel P c'∧Ext c c'∧c'.at_=upd c.at_ [(id,some (.maps []))]∧∀ j,c'.U j ↔ c.U j∨j=id:=by
 refine ⟨.map (some c.w.heap.size),c.mk' id (.maps []) (.map #[] 0),by simp [Instr.makeMap,newObj,Sem.run,Cx.mk'],AK6.2 ⟨.inr rfl,by simp [Cx.mk']⟩,Av2 hR hid _ _ ⟨#[],0,AA2 _ _,⟨rfl,fun z hz=>by simp at hz,by simp⟩,fun j kv hj=>by simp at hj⟩,Ao3 hR hid _ _,rfl,fun _=>Iff.rfl⟩
end
end Go.Am
namespace Go.Am
def AB5 (up:Up) (id:Nat):List Nat:=if up.any (fun p=>p.1 == id) then [id] else []
section
variable {P:Program} {c:Cx} {G:Gl} {fr:List AV} {a:Act}
theorem AL8 {s:Sem Value} {r:Result Next} {x:AV} (hR:Rel P c) (h:∃ val,s.run P c.w = .ok val c.w∧RR c x val) (hr:r=(s.run P c.w).andThen fun v w=>.ok (.value v) w):Done P c r x [] []:=by
 obtain ⟨val,h1,h2⟩:=h
 exact Done.pure hR (by rw [hr,h1];rfl) h2
theorem Aq5 (s:Sem Value) (w:World):(do pure (Next.value (← s)):Sem Next).run P w=(s.run P w).andThen fun v w=>.ok (.value v) w:=by
 simp only [Sem.run_bind]
 cases s.run P w<;>rfl
theorem BH0 {G:Gl} {o:Option Operand} {y:Option AX} {b:Option Nat} (hF:FR c fr a.tmps) (hG:AV2 G c) (hc:coxO o=some y) (hv:(evO (ax G fr) y).bind bndV=some b):(b=none∧o.map a.eval=none)∨∃ k n,b=some n∧o.map a.eval=some (.int k n):=by
 cases o with
 | none=>cases hc;simp [evO,bndV] at hv;exact .inl ⟨hv.symm,rfl⟩
 | some x =>
  simp only [coxO,Option.map_eq_some_iff] at hc
  obtain ⟨z,hz,rfl⟩:=hc
  simp only [evO,Option.bind_eq_some_iff,Option.map_eq_some_iff] at hv
  obtain ⟨q,⟨v,hv1,rfl⟩,hb⟩:=hv
  rcases bnd_spec hb (.inr ⟨v,a.eval x,rfl,rfl,J9 hF hG hz hv1⟩) with ⟨_,h⟩ | ⟨k,n,h1,h2⟩
  ·cases h
  ·exact .inr ⟨k,n,h1,h2⟩
theorem AK1 {op:BinOp} {t:TypeId} {x y:Operand} {u v:Value} {w:World} (h:(∀ cs,u ≠ .agg cs)∧u ≠ .nilIface):(eqGuard op t x y u v).run P w = .ok () w:=by
 obtain ⟨h1,h2⟩:=h
 cases op<;>first
  | rfl
  | (cases u<;>first
    | exact absurd rfl (h1 _)
    | exact absurd rfl h2
    | rfl
    | (cases v<;>rfl))
theorem Az2 {args:Array Operand} {x:AX} (h:args.toList.mapM cox=some [x]):∃ o,args = #[o]∧cox o=some x:=by
 obtain ⟨m1,m2⟩:=mapM_some h
 match hq:args.toList with
 | [o] =>
  rw [hq] at m2
  obtain ⟨y,g1,g2⟩:=m2 0 x rfl
  simp at g1
  subst g1
  exact ⟨_,by rw [← Array.toArray_toList (xs:=args),hq],g2⟩
 | []=>rw [hq] at m1;simp at m1
 | _::_::_=>rw [hq] at m1;simp at m1
theorem BH6 {args:Array Operand} {x:AX} {l:List AX} (h:args.toList.mapM cox=some (x::l)):∃ o os,args.toList=o::os∧cox o=some x∧os.mapM cox=some l:=by
 match hq:args.toList with
 | o::os =>
  rw [hq] at h
  simp only [List.mapM_cons,Option.bind_eq_bind,Option.bind_eq_some_iff] at h
  obtain ⟨y,hy,ys,hys,h2⟩:=h
  cases h2
  exact ⟨o,os,rfl,hy,hys⟩
 | []=>rw [hq] at h;simp at h
theorem BV6 {ng fn:Bool} {x y r:AV} {u:Value} (hx:RR c x u) (h:eqpV ng fn x y=some r):(∀ cs,u ≠ .agg cs)∧u ≠ .nilIface:=by
 have : ∃ b,nilK fn x=some b:=by
  unfold eqpV at h
  split at h
  ·exact ⟨_,by assumption⟩
  ·exact ⟨_,by assumption⟩
  ·cases h
 obtain ⟨b,hb⟩:=this
 rcases Aa0 hx hb with ⟨_,p,rfl,_⟩ | ⟨_,⟨rfl,_⟩ | ⟨_,_,_,rfl,_⟩⟩<;>exact ⟨fun _ h=>(by cases h),fun h=>(by cases h)⟩
theorem snd {o:Oper} {ao:AOp} {id:Nat} {v:AV} {up:Up} {rd:List Nat} (hF:FR c fr a.tmps) (hG:AV2 G c) (hR:Rel P c) (hid:¬ c.U id) (hc:cop P o.op=some ao) (hv:G7 (ax G fr) c.at_ id ao=some (v,up,rd)) :
  Done P c ((execOp a.eval o).run P c.w) v up (AB5 up id):=by
 have pure0:up=[]→Done P c ((execOp a.eval o).run P c.w) v up []→Done P c ((execOp a.eval o).run P c.w) v up (AB5 up id):=fun h hd=>by subst h;exact hd
 cases hop:o.op<;>rw [hop] at hc<;>simp only [cop] at hc<;>try (cases hc;done)
 case move x =>
  simp only [Option.map_eq_some_iff] at hc
  obtain ⟨y,hy,rfl⟩:=hc
  exact pure0 (Z0 hv).2.1 (snd_mv hF hG hR (.inl hop) hy hv)
 case assign x =>
  simp only [Option.map_eq_some_iff] at hc
  obtain ⟨y,hy,rfl⟩:=hc
  exact pure0 (Z0 hv).2.1 (snd_mv hF hG hR (.inr hop) hy hv)
 case pick x y z =>
  split at hc
  ·rename_i x' y' z' h1 h2 h3
   cases hc
   refine pure0 ?_ (snd_pick hF hG hR hop h1 h2 h3 hv)
   simp only [G7] at hv
   split at hv
   ·exact (Z0 hv).2.1
   ·cases hv
  ·cases hc
 case alloc e =>
  simp only [Option.map_eq_some_iff] at hc
  obtain ⟨z,hz,rfl⟩:=hc
  cases hv
  simp only [AB5,List.any_cons,List.any_nil,beq_self_eq_true,Bool.or_false,if_true]
  exact snd_new hR hid hop hz
 case box e x =>
  simp only [Option.map_eq_some_iff] at hc
  obtain ⟨y,hy,rfl⟩:=hc
  simp only [G7] at hv
  split at hv
  ·rename_i u hu
   split at hv
   ·rename_i hf
    cases hv
    simp only [AB5,List.any_cons,List.any_nil,beq_self_eq_true,Bool.or_false,if_true]
    exact snd_box hF hG hR hid hop hy hu hf
   ·cases hv
  ·cases hv
 case build t ps =>
  obtain ⟨h1,h2⟩:=snd_build hF hG hR hop (by simpa only [cop] using hc) hv
  exact pure0 h2 h1
 case buildSlice t n ps =>
  split at hc
  ·rename_i e hu
   split at hc
   ·rename_i s z hs hz
    split at hc
    ·rename_i hcond
     simp only [Option.map_eq_some_iff] at hc
     obtain ⟨l,hl,rfl⟩:=hc
     have hd:=snd_bslice hF hG hR hid hop hu hs hz hcond.1 hcond.2.1 hcond.2.2 hl hv
     have : AB5 up id=[id]:=by
      simp only [G7] at hv
      split at hv
      ·split at hv
       ·cases hv;simp [AB5]
       ·cases hv
      ·cases hv
     rw [this];exact hd
    ·cases hc
   ·cases hc
  ·cases hc
 case load t x =>
  split at hc
  ·rename_i b n y h1 h2 h3
   cases hc
   refine pure0 ?_ (snd_load hF hG hR hop h1 h2 h3 hv)
   simp only [G7] at hv
   split at hv
   ·split at hv
    ·cases hv;rfl
    ·cases hv
   ·cases hv
  ·cases hc
 case store t x y =>
  split at hc
  ·rename_i n x' y' h1 h2 h3
   cases hc
   have hd:=snd_store hF hG hR hop h1 h2 h3 hv
   have : AB5 up id=[]:=by
    simp only [G7] at hv
    split at hv
    ·rename_i p u hp hu
     have hr:=J9 hF hG h2 hp
     split at hv
     ·rename_i up' rd' hw
      cases hv
      unfold Af8 at hw
      split at hw
      ·split at hw
       ·split at hw
        ·cases hw
         have : _ ≠ id:=fun e=>hid (e▸(AC9.1 hr).1)
         simp [AB5,this]
        ·cases hw
       ·cases hw
      ·cases hw
     ·cases hv
    ·cases hv
   rw [this];exact hd
  ·cases hc
 case nilCheck x =>
  simp only [Option.map_eq_some_iff] at hc
  obtain ⟨y,hy,rfl⟩:=hc
  obtain ⟨u,hu,hf,rfl,rfl⟩:=AO5 hv
  have hr:=J9 hF hG hy hu
  obtain ⟨rfl,p,hp⟩:=snd_nchk hr hf
  exact Done.pure (val:=a.eval x) hR (by simp [execOp,hop,hp]) hr
 case binOp op t x y t' =>
  split at hc
  ·rename_i x' y' h1 h2
   have go:∀ (f:AV→AV→Option AV),ev2 (ax G fr x') (ax G fr y') f=some (v,up,rd)→(∀ p q,RR c p (a.eval x)→RR c q (a.eval y)→f p q=some v→(∃ val,(binOp op t (a.eval x) (a.eval y)).run P c.w = .ok val c.w∧RR c v val)∧(eqGuard op t x y (a.eval x) (a.eval y)).run P c.w = .ok () c.w) →
     Done P c ((execOp a.eval o).run P c.w) v up (AB5 up id):=fun f hf hfin=>by
    obtain ⟨p,q,hp,hq,hpq,rfl,rfl⟩:=Ai9 hf
    obtain ⟨⟨val,h3,h4⟩,h5⟩:=hfin p q (J9 hF hG h1 hp) (J9 hF hG h2 hq) hpq
    exact Done.pure hR (by simp [execOp,hop,h5,h3]) h4
   have bin:∀ p q,RR c p (a.eval x)→RR c q (a.eval y)→BH1 op p q=some v→(∃ val,(binOp op t (a.eval x) (a.eval y)).run P c.w = .ok val c.w∧RR c v val)∧(eqGuard op t x y (a.eval x) (a.eval y)).run P c.w = .ok () c.w:=fun p q hp hq hpq=>by
    refine ⟨snd_bin hp hq hpq,AK1 ?_⟩
    cases p<;>simp only [BH1] at hpq<;>try (cases hpq;done)
    simp only [RR_int] at hp
    rw [hp];exact ⟨fun _ h=>(by cases h),fun h=>(by cases h)⟩
   split at hc
   ·rename_i heq
    split at hc
    ·cases hc;exact go _ hv bin
    ·cases hc;exact go _ hv bin
    ·rename_i ht
     cases hc
     refine go _ hv fun p q hp hq hpq=>⟨snd_eqb ht heq hp hq hpq,AK1 ?_⟩
     cases p<;>simp only [eqbV] at hpq<;>try (cases hpq;done)
     simp only [RR_bool] at hp
     rw [hp];exact ⟨fun _ h=>(by cases h),fun h=>(by cases h)⟩
    ·rename_i e ht
     cases hc
     exact go _ hv fun p q hp hq hpq=>⟨snd_eqp ht (.inl ⟨rfl,e,rfl⟩) heq hp hq hpq,AK1 (BV6 hp hpq)⟩
    ·rename_i e1 e2 e3 ht
     cases hc
     exact go _ hv fun p q hp hq hpq=>⟨snd_eqp ht (.inr ⟨rfl,_,_,_,rfl⟩) heq hp hq hpq,AK1 (BV6 hp hpq)⟩
    ·split at hc
     ·cases hc;simp [G7] at hv
     ·cases hc
    ·rename_i fs ht
     split at hc
     ·rename_i hcond
      simp only [Option.map_eq_some_iff] at hc
      obtain ⟨ks,hks,rfl⟩:=hc
      simp only [Bool.not_eq_true'] at hcond
      refine go _ hv fun p q hp hq hpq=>?_
      obtain ⟨xs,ys,val,hx',hy',h3,h4⟩:=snd_eqs (.inl ⟨fs,ht⟩) hks heq hp hq hpq
      exact ⟨⟨val,h3,h4⟩,by rw [hx',hy'];exact run_eqGuard_agg c.w op t x y xs ys hcond⟩
     ·cases hc
    ·rename_i n e ht
     split at hc
     ·rename_i hcond
      simp only [Option.map_eq_some_iff] at hc
      obtain ⟨ks,hks,rfl⟩:=hc
      simp only [Bool.not_eq_true'] at hcond
      refine go _ hv fun p q hp hq hpq=>?_
      obtain ⟨xs,ys,val,hx',hy',h3,h4⟩:=snd_eqs (.inr ⟨n,e,ht⟩) hks heq hp hq hpq
      exact ⟨⟨val,h3,h4⟩,by rw [hx',hy'];exact run_eqGuard_agg c.w op t x y xs ys hcond⟩
     ·cases hc
    ·cases hc
   ·cases hc;exact go _ hv bin
  ·cases hc
 case unOp op t x =>
  simp only [Option.map_eq_some_iff] at hc
  obtain ⟨y,hy,rfl⟩:=hc
  obtain ⟨u,hu,hf,rfl,rfl⟩:=AO5 hv
  exact AL8 hR (snd_un (J9 hF hG hy hu) hf) (by simp only [execOp,hop];exact Aq5 _ _)
 case convert s d x =>
  split at hc
  ·rename_i ds k hs hd
   simp only [Option.map_eq_some_iff] at hc
   obtain ⟨y,hy,rfl⟩:=hc
   obtain ⟨u,hu,hf,rfl,rfl⟩:=AO5 hv
   exact AL8 hR (snd_conv hs hd (J9 hF hG hy hu) hf) (by simp only [execOp,hop];exact Aq5 _ _)
  ·cases hc
 case fieldAddr s x i =>
  split at hc
  ·rename_i fs y hs hy
   simp only [Option.bind_eq_some_iff] at hc
   obtain ⟨f,hf,n,hn,hc⟩:=hc
   split at hc
   ·cases hc
   ·rename_i hn0
    cases hc
    obtain ⟨u,hu,hfv,rfl,rfl⟩:=AO5 hv
    exact AL8 hR (snd_faddr hs hf hn hn0 (J9 hF hG hy hu) hfv) (by simp only [execOp,hop];exact Aq5 _ _)
  ·cases hc
 case field s x i =>
  split at hc
  ·rename_i fs y hs hy
   simp only [Option.bind_eq_some_iff,Option.map_eq_some_iff] at hc
   obtain ⟨f,hf,n,hn,b,hb,rfl⟩:=hc
   obtain ⟨u,hu,hfv,rfl,rfl⟩:=AO5 hv
   exact AL8 hR (snd_fld hs hf hn hb (J9 hF hG hy hu) hfv) (by simp only [execOp,hop];exact Aq5 _ _)
  ·cases hc
 case indexAddr t x i =>
  split at hc
  ·rename_i n e y j ht hy hj
   simp only [Option.map_eq_some_iff] at hc
   obtain ⟨s,hs,rfl⟩:=hc
   obtain ⟨p,q,hp,hq,hpq,rfl,rfl⟩:=Ai9 hv
   exact AL8 hR (snd_iaddrA ht hs (J9 hF hG hy hp) (J9 hF hG hj hq) hpq) (by simp only [execOp,hop];exact Aq5 _ _)
  ·rename_i e y j ht hy hj
   simp only [Option.map_eq_some_iff] at hc
   obtain ⟨s,hs,rfl⟩:=hc
   obtain ⟨p,q,hp,hq,hpq,rfl,rfl⟩:=Ai9 hv
   exact AL8 hR (snd_iaddrS ht hs (J9 hF hG hy hp) (J9 hF hG hj hq) hpq) (by simp only [execOp,hop];exact Aq5 _ _)
  ·cases hc
 case index t x i =>
  split at hc
  ·rename_i n e y j ht hy hj
   simp only [Option.bind_eq_some_iff,Option.map_eq_some_iff] at hc
   obtain ⟨s,hs,b,hb,rfl⟩:=hc
   obtain ⟨p,q,hp,hq,hpq,rfl,rfl⟩:=Ai9 hv
   exact AL8 hR (snd_idx ht hs hb (J9 hF hG hy hp) (J9 hF hG hj hq) hpq) (by simp only [execOp,hop];exact Aq5 _ _)
  ·cases hc
 case slice t x lo hi mx =>
  split at hc
  ·rename_i y lo' hi' mx' hy hlo hhi hmx
   split at hc
   ·rename_i e _ ht
    split at hc
    ·cases hc
    ·rename_i hcond
     simp only [Option.map_eq_some_iff] at hc
     obtain ⟨s,hs,rfl⟩:=hc
     simp only [G7] at hv
     split at hv
     ·rename_i xv l h m hxv hl hh hm
      obtain ⟨hvv,rfl,rfl⟩:=Z0 hv
      have bl:=BH0 hF hG hlo hl
      have bh:=BH0 hF hG hhi hh
      have bm:=BH0 hF hG hmx hm
      refine AL8 hR (snd_slS ht hs (J9 hF hG hy hxv) bl bh bm (fun hms=>?_) hvv) (by simp only [execOp,hop];exact Aq5 _ _)
      cases hi with
      | some hi=>rcases bh with ⟨_,h⟩ | ⟨k,n,rfl,_⟩<;>first|rfl|cases h
      | none =>
       cases hhi
       cases mx with
       | some mx =>
        simp only [coxO,Option.map_eq_some_iff] at hmx
        obtain ⟨z,_,rfl⟩:=hmx
        simp at hcond
       | none=>rcases bm with ⟨rfl,_⟩ | ⟨k,n,_,h⟩<;>first|cases hms|cases h
     ·cases hv
   ·rename_i n e ht
    simp only [Option.map_eq_some_iff] at hc
    obtain ⟨s,hs,rfl⟩:=hc
    simp only [G7] at hv
    split at hv
    ·rename_i xv l h hxv hl hh
     split at hv
     ·rename_i r rd' hr
      cases hv
      have hmn:mx=none:=by
       cases mx with
       | none=>rfl
       | some m=>simp [coxO,Option.map_eq_some_iff] at hmx
      subst hmn
      exact AL8 hR (snd_slA hR ht hs (J9 hF hG hy hxv) (BH0 hF hG hlo hl) (BH0 hF hG hhi hh) hr) (by simp only [execOp,hop];exact Aq5 _ _)
     ·cases hv
    ·cases hv
   ·cases hc
  ·cases hc
 case makeFunc fn fs cs =>
  cases fn with
  | func f =>
   simp only [cop] at hc
   split at hc
   ·rename_i fs' cs' hfs hcs
    cases hc
    simp only [G7] at hv
    split at hv
    ·rename_i l1 l2 h1 h2
     cases hv
     obtain ⟨k1,k2⟩:=Ak3 hF hG hfs h1
     obtain ⟨k3,k4⟩:=Ak3 hF hG hcs h2
     exact Done.pure (val:=.func (.func f) (fs.map a.eval) (cs.map a.eval)) hR (by simp [execOp,hop,Instr.makeFunc]) (AS6.2 ⟨_,_,rfl,⟨by simp [k1],k2.imp (fun _ _ h=>h) fun j u hj=>by simpa using hj⟩,by simp [k3],k4.imp (fun _ _ h=>h) fun j u hj=>by simpa using hj⟩)
    ·cases hv
   ·cases hc
  | _=>simp [cop] at hc
 case makeSlice t l k =>
  split at hc
  ·rename_i e l' k' ht hl hk
   split at hc
   ·rename_i s b z hs hb hz
    split at hc
    ·rename_i hzl
     cases hc
     simp only [G7] at hv
     split at hv
     ·rename_i lv kv hlv hkv
      split at hv
      ·rename_i r up' hr
       cases hv
       obtain ⟨cs,rfl,val,vs,h1,h2,h3⟩:=snd_mks hR hid ht hs hb hz hzl (J9 hF hG hl hlv) (J9 hF hG hk hkv) hr
       simp only [AB5,List.any_cons,List.any_nil,beq_self_eq_true,Bool.or_false,if_true]
       exact Aj2 hR hid h2 (by simp [execOp,hop,h1]) h3
      ·cases hv
     ·cases hv
    ·cases hc
   ·cases hc
  ·cases hc
 case extract x i =>
  simp only [Option.map_eq_some_iff] at hc
  obtain ⟨y,hy,rfl⟩:=hc
  obtain ⟨u,hu,hf,rfl,rfl⟩:=AO5 hv
  have hr:=J9 hF hG hy hu
  unfold extV at hf
  split at hf
  ·obtain ⟨vs,h1,h2,h3⟩:=AH3.1 hr
   obtain ⟨w,hw,hvw⟩:=h3 i v hf
   have hw':vs[i]? = some w:=hw
   exact Done.pure (val:=w) hR (by simp [execOp,hop,Instr.extract,h1,hw']) hvw
  ·cases hf
 case makeMap t rs =>
  split at hc
  ·rename_i h1
   obtain rfl:rs=none:=by simpa using h1
   cases hc
   cases hv
   obtain ⟨val,c',k1,k2,k3,k4,k5,k6⟩:=snd_mkmap (t:=t) (id:=id) hR hid
   refine ⟨c',.inl ⟨val,by simp [execOp,hop,k1],k2⟩,k3,k4,k5,fun i=>?_⟩
   rw [k6];simp [AB5]
  ·cases hc
 case lookup t x i ok =>
  split at hc
  ·rename_i k e ht
   split at hc
   ·rename_i ag ks z x' i' hk hz hx hi
    cases hc
    simp only [G7] at hv
    split at hv
    ·rename_i mv kv hm hkv
     split at hv
     ·rename_i v' rd' hw
      cases hv
      exact pure0 rfl (AL8 hR (snd_mlook hR ht hk hz (J9 hF hG hx hm) (J9 hF hG hi hkv) hw) (by simp only [execOp,hop];exact Aq5 _ _))
     ·cases hv
    ·cases hv
   ·cases hc
  ·cases hc
 case mapUpdate t m i x =>
  split at hc
  ·rename_i k e ht
   split at hc
   ·rename_i ag ks m' i' x' hk hm hi hx
    cases hc
    simp only [G7] at hv
    split at hv
    ·rename_i mv kv xv hmv hkv hxv
     split at hv
     ·rename_i up' rd' hw
      cases hv
      obtain ⟨⟨j,o,hU,rfl⟩,c',k1,k2,k3,k4,k5⟩:=snd_mset hR ht hk (J9 hF hG hm hmv) (J9 hF hG hi hkv) (J9 hF hG hx hxv) hw
      refine ⟨c',.inr ⟨by simp [execOp,hop,k1],rfl⟩,k2,k3,k4,fun l=>?_⟩
      have : j ≠ id:=fun e=>hid (e▸hU)
      rw [k5];simp [AB5,this]
     ·cases hv
    ·cases hv
   ·cases hc
  ·cases hc
 case call cl =>
  split at hc
  ·split at hc
   ·cases hc;cases hv
   ·cases hc
  ·rename_i b hb
   split at hc
   ·rename_i s x t u hargs hts
    split at hc
    ·rename_i e e' ht hu
     split at hc
     ·rename_i n b hn hby
      split at hc
      ·rename_i hcond
       cases hc
       obtain ⟨hn0,rfl,hzl⟩:=hcond
       simp only [G7] at hv
       split at hv
       ·rename_i sv xv hs hx
        have hal:∃ o1 o2,cl.args = #[o1,o2]∧cox o1=some s∧cox o2=some x:=by
         obtain ⟨m1,m2⟩:=mapM_some hargs
         match hq:cl.args.toList with
         | [o1,o2] =>
          rw [hq] at m2
          obtain ⟨y1,g1,g2⟩:=m2 0 s rfl
          obtain ⟨y2,g3,g4⟩:=m2 1 x rfl
          simp at g1 g3
          subst g1;subst g3
          exact ⟨_,_,by rw [← Array.toArray_toList (xs:=cl.args),hq],g2,g4⟩
         | []=>rw [hq] at m1;simp at m1
         | [_]=>rw [hq] at m1;simp at m1
         | _::_::_::_=>rw [hq] at m1;simp at m1
        obtain ⟨o1,o2,hargs',g1,g2⟩:=hal
        have hat:cl.argTypes = #[t,t]:=by rw [← Array.toArray_toList (xs:=cl.argTypes),hts]
        obtain ⟨val,c',h1,h2,h3,h4,h5,h6⟩:=snd_append (ty:=o.type) hR hid ht hn hby hzl hn0 (J9 hF hG g1 hs) (J9 hF hG g2 hx) hv
        refine ⟨c',.inl ⟨val,?_,h2⟩,h3,h4,h5,fun i=>?_⟩
        ·simp [execOp,hop,resolve,hb,hargs',hat,invoke,builtin,h1]
        ·rw [h6]
         unfold AB5
         split
         ·rename_i h;simp [h]
         ·rename_i h;simp [h]
       ·cases hv
      ·cases hc
     ·cases hc
    ·cases hc
   ·rename_i x t hargs hts
    split at hc
    ·rename_i e ht
     cases hc
     obtain ⟨o1,hargs',g1⟩:=Az2 hargs
     have hat:cl.argTypes = #[t]:=by rw [← Array.toArray_toList (xs:=cl.argTypes),hts]
     obtain ⟨u,hu,hf,rfl,rfl⟩:=AO5 hv
     have hr:=J9 hF hG g1 hu
     have key:∃ A n k,a.eval o1 = .slice A n k∧v = .int .i64 n:=by
      unfold lenV at hf
      split at hf<;>cases hf
      ·obtain ⟨_,_,_,h,_⟩:=AK9.1 hr;exact ⟨_,_,_,h,rfl⟩
      ·obtain ⟨_,_,h,_⟩:=AD0.1 hr;exact ⟨_,_,_,h,rfl⟩
      ·obtain ⟨_,h⟩:=RR_nils.1 hr;exact ⟨_,_,_,h,rfl⟩
     obtain ⟨A,n,k,h1,rfl⟩:=key
     exact Done.pure (val:=.int .i64 n) hR (by simp [execOp,hop,resolve,hb,hargs',hat,invoke,builtin,Builtin.len_,run_underlying ht,h1,goInt]) (RR_int.2 rfl)
    ·rename_i k e ht
     cases hc
     obtain ⟨o1,hargs',g1⟩:=Az2 hargs
     have hat:cl.argTypes = #[t]:=by rw [← Array.toArray_toList (xs:=cl.argTypes),hts]
     simp only [G7] at hv
     split at hv
     ·rename_i u hu
      split at hv
      ·rename_i r' rd' hw
       cases hv
       obtain ⟨val,h1,h2⟩:=snd_mlen (ty:=o.type) hR ht (J9 hF hG g1 hu) hw
       exact pure0 rfl (Done.pure hR (by simp [execOp,hop,resolve,hb,hargs',hat,invoke,builtin,h1]) h2)
      ·cases hv
     ·cases hv
    ·cases hc
   ·rename_i m x t t2 hargs hts
    split at hc
    ·rename_i k e ht
     simp only [Option.map_eq_some_iff] at hc
     obtain ⟨⟨ag,ks⟩,hk,rfl⟩:=hc
     have hal:∃ o1 o2,cl.args = #[o1,o2]∧cox o1=some m∧cox o2=some x:=by
      obtain ⟨m1,m2⟩:=mapM_some hargs
      match hq:cl.args.toList with
      | [o1,o2] =>
       rw [hq] at m2
       obtain ⟨y1,g1,g2⟩:=m2 0 m rfl
       obtain ⟨y2,g3,g4⟩:=m2 1 x rfl
       simp at g1 g3
       subst g1;subst g3
       exact ⟨_,_,by rw [← Array.toArray_toList (xs:=cl.args),hq],g2,g4⟩
      | []=>rw [hq] at m1;simp at m1
      | [_]=>rw [hq] at m1;simp at m1
      | _::_::_::_=>rw [hq] at m1;simp at m1
     obtain ⟨o1,o2,hargs',g1,g2⟩:=hal
     have hat:cl.argTypes = #[t,t2]:=by rw [← Array.toArray_toList (xs:=cl.argTypes),hts]
     simp only [G7] at hv
     split at hv
     ·rename_i mv kv hmv hkv
      split at hv
      ·rename_i up' rd' hw
       cases hv
       obtain ⟨⟨j,ob,hU,rfl⟩,c',k1,k2,k3,k4,k5⟩:=snd_mdel (ty:=o.type) (t2:=t2) hR ht hk (J9 hF hG g1 hmv) (J9 hF hG g2 hkv) hw
       refine ⟨c',.inl ⟨.tuple #[],by simp [execOp,hop,resolve,hb,hargs',hat,invoke,builtin,k1],AH3.2 ⟨#[],rfl,rfl,fun j x hx=>by simp at hx⟩⟩,k2,k3,k4,fun l=>?_⟩
       have : j ≠ id:=fun e=>hid (e▸hU)
       rw [k5];simp [AB5,this]
      ·cases hv
     ·cases hv
    ·cases hc
   ·rename_i x t hargs hts
    split at hc
    ·rename_i e ht
     split at hc
     ·rename_i n z hn hz
      split at hc
      ·rename_i hcond
       cases hc
       obtain ⟨o1,hargs',g1⟩:=Az2 hargs
       have hat:cl.argTypes = #[t]:=by rw [← Array.toArray_toList (xs:=cl.argTypes),hts]
       simp only [G7] at hv
       split at hv
       ·rename_i u hu
        split at hv
        ·rename_i up' rd' hw
         cases hv
         have hr:=J9 hF hG g1 hu
         obtain ⟨c',h1,h2,h3,h4,h5⟩:=snd_clear (ty:=o.type) hR ht hz (by omega) hr hw
         refine ⟨c',.inl ⟨.tuple #[],by simp [execOp,hop,resolve,hb,hargs',hat,invoke,builtin,h1],AH3.2 ⟨#[],rfl,rfl,fun j x hx=>by simp at hx⟩⟩,h2,h3,h4,fun i=>?_⟩
         rw [h5]
         have : AB5 up id=[]:=by
          unfold Ab1 at hw
          split at hw
          ·cases hw;rfl
          ·split at hw
           ·split at hw
            ·cases hw
             have : _ ≠ id:=fun e=>hid (e▸(AK9.1 hr).1)
             simp [AB5,this]
            ·cases hw
           ·cases hw
          ·cases hw;rfl
          ·cases hw
         simp [this]
        ·cases hv
       ·cases hv
      ·cases hc
     ·cases hc
    ·cases hc
   ·rename_i x l hargs
    cases hc
    obtain ⟨o1,os,hargs',g1,g2⟩:=BH6 hargs
    simp only [G7] at hv
    split at hv
    ·rename_i xv lv hx hl
     obtain ⟨hm,rfl,rfl⟩:=Z0 hv
     obtain ⟨k1,k2⟩:=Ak3 hF hG g2 hl
     obtain ⟨val,h1,h2⟩:=snd_mm (P:=P) (mx:=false) (vs:=os.map a.eval) (J9 hF hG g1 hx) (by simp [k1]) k2 hm
     exact Done.pure hR (by simp at h1;simp [execOp,hop,resolve,hb,invoke,builtin,Builtin.min_,hargs',h1]) h2
    ·cases hv
   ·rename_i x l hargs
    cases hc
    obtain ⟨o1,os,hargs',g1,g2⟩:=BH6 hargs
    simp only [G7] at hv
    split at hv
    ·rename_i xv lv hx hl
     obtain ⟨hm,rfl,rfl⟩:=Z0 hv
     obtain ⟨k1,k2⟩:=Ak3 hF hG g2 hl
     obtain ⟨val,h1,h2⟩:=snd_mm (P:=P) (mx:=true) (vs:=os.map a.eval) (J9 hF hG g1 hx) (by simp [k1]) k2 hm
     exact Done.pure hR (by simp at h1;simp [execOp,hop,resolve,hb,invoke,builtin,Builtin.max_,hargs',h1]) h2
    ·cases hv
   ·cases hc
  ·cases hc
end
end Go.Am
