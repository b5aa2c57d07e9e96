/-
 Stores that are written out;what a call does;one operation after the other. No program in sight.
 One operation after the other: a region that does not draw its order. No program in sight.
 What an operation depends on: slots,and blocks that it reads. No program in sight.
-/
import Derived.Test.YtbhgfoikbkaohaaGreatAmTwo
import Derived.RangeFuncIn
import Derived.RangeFuncLeaves
set_option linter.unusedSimpArgs false
set_option linter.unusedVariables false
namespace Go.Am
structure Hp where
 l:List (Nat × AObj)
 next:Nat
def lk:List (Nat × AObj)→At
 | [],_=>none
 | (i,o)::r,j=>if j=i then some o else lk r j
def put:List (Nat × AObj)→Nat→Option AObj→List (Nat × AObj)
 | [],_,none=>[]
 | [],i,some o=>[(i,o)]
 | (j,p)::r,i,some o=>if i=j then (i,o)::r else (j,p)::put r i (some o)
 | (j,p)::r,i,none=>if i=j then put r i none else (j,p)::put r i none
def puts (l:List (Nat × AObj)):Up→List (Nat × AObj)
 | []=>l
 | (i,o)::r=>put (puts l r) i o
theorem BE4 (l:List (Nat × AObj)) (i:Nat) (o:Option AObj):lk (put l i o)=upd (lk l) [(i,o)]:=by
 funext j
 simp only [upd]
 induction l with
 | nil=>cases o<;>simp [put,lk]
 | cons p r ih =>
  obtain ⟨q,x⟩:=p
  cases o with
  | some o =>
   simp only [put]
   by_cases e:i=q
   ·subst e
    by_cases e2:j=i<;>simp [lk,e2]
   ·rw [if_neg e]
    simp only [lk]
    by_cases e2:j=q
    ·subst e2;simp [Ne.symm e]
    ·simp only [e2,if_false];exact ih
  | none =>
   simp only [put]
   by_cases e:i=q
   ·subst e
    rw [if_pos rfl,ih]
    by_cases e2:j=i<;>simp [lk,e2]
   ·rw [if_neg e]
    simp only [lk]
    by_cases e2:j=q
    ·subst e2;simp [Ne.symm e]
    ·simp only [e2,if_false];exact ih
theorem AO2 (l:List (Nat × AObj)):∀ up:Up,lk (puts l up)=upd (lk l) up
 | []=>rfl
 | (i,o)::r=>by rw [puts,BE4,AO2 l r];rfl
def AR6 (up:Up) (i:Nat):Bool:=up.any fun p=>p.1 == i
def Hp.app (h:Hp) (up:Up):Hp:={ l:=puts h.l up,next:=if AR6 up h.next then h.next+1 else h.next }
structure Mat (c:Cx) (h:Hp):Prop where
 at_:c.at_=lk h.l
 U:∀ i,c.U i ↔ i < h.next
theorem Mat.fresh {c:Cx} {h:Hp} (m:Mat c h):¬ c.U h.next:=by rw [m.U];omega
theorem Mat.app {c c':Cx} {h:Hp} {up:Up} (m:Mat c h) (ha:c'.at_=upd c.at_ up) (hu:∀ i,c'.U i ↔ c.U i∨i ∈ AB5 up h.next):Mat c' (h.app up):=by
 refine ⟨by rw [ha,m.at_,Hp.app,AO2],fun i=>?_⟩
 rw [hu,m.U]
 unfold AB5 Hp.app AR6
 by_cases e:up.any (fun p=>p.1 == h.next)=true
 ·simp only [e,if_true,List.mem_singleton];omega
 ·simp only [e,if_false];simp

def DF (B:Nat) (c:Cx) (ds:List Deferred):Prop:=ds.Pairwise (fun d e=>d.target ≠ e.target)∧∀ d ∈ ds,∃ r,d={ target:=.collected r,args:=#[] }∧B≤r∧c.Froz r∧c.w.heap[r]? = some (.deferred (some []))
theorem DF.ext {B:Nat} {c c':Cx} (e:Ext c c') {ds:List Deferred} (h:DF B c ds):DF B c' ds:=⟨h.1,fun d hd=>by
 obtain ⟨r,h1,h0,h2,h3⟩:=h.2 d hd
 exact ⟨r,h1,h0,(e.froz r h2).1,(e.froz r h2).2.trans h3⟩⟩

structure St (P:Program) (G:Gl) (B:Nat) (c:Cx) (fr:List AV) (h:Hp) (a:Act):Prop where
 rel:Rel P c
 glo:AV2 G c
 mat:Mat c h
 fr:FR c fr a.tmps
 df:DF B c a.defers
 old:B≤c.w.heap.size

def Ends (P:Program) (c:Cx) (K:AV→Hp→Prop) (v:Value) (w':World):Prop:=∃ r h' c',c'.w=w'∧K r h'∧RR c' r v∧Rel P c'∧Mat c' h'∧Ext c c'
def UponA (P:Program) (R:Value→World→Prop):Next→World→Prop
 | .enter f args,w=>Calls P f args w fun e w'=>∃ v,e = .returned v∧R v w'
 | .round l f tmps assign body,w=>∀ n,RoundIn Fence.wide n P l f tmps assign body w fun e w'=>∃ v,e = .returned v∧R v w'
 | .value v,w=>R v w
 | _,_=>False
def AI7 (c:Cx) (args:List AV) (vs:Array Value):Prop:=vs.size=args.length∧RCs (RR c) args fun j=>vs[j]?
theorem AI7.ext {c c':Cx} (e:Ext c c') {args:List AV} {vs:Array Value} (h:AI7 c args vs):AI7 c' args vs:=⟨h.1,h.2.imp (fun _ _=>RR.ext e) fun _ _ h=>h⟩
def Ah6 (P:Program) (G:Gl) (fv:AV) (args:List AV) (h:Hp) (K:AV→Hp→Prop):Prop :=
 ∀ (c:Cx) (u:Value) (vs:Array Value),Rel P c→AV2 G c→Mat c h→RR c fv u→AI7 c args vs →
  ∃ next w1,(do let d ← Deferred.ofValue u vs;invoke d.target d.args:Sem Next).run P c.w = .ok next w1∧UponA P (Ends P c K) next w1
def AD4 (fr:List AV):Option Nat→AV→List AV
 | some d,v=>fr.set d v
 | none,_=>fr
theorem FR.put {c:Cx} {fr:List AV} {a:Act} (h:FR c fr a.tmps) (d:Option Nat) {x:AV} {v:Value} (hx:RR c x v):FR c (AD4 fr d x) (a.put d v).tmps:=by
 cases d with
 | none=>exact h
 | some d=>exact h.set d hx
theorem put_defers (a:Act) (d:Option Nat) (v:Value):(a.put d v).defers=a.defers:=by cases d<;>rfl
def eqnA (a:AV) (K:Bool→Prop):Prop:=match a with
 | .nils=>K true∧K false
 | .isl []=>K true∧K false
 | .isl (_::_)=>K false
 | .sl _ _ _ _ _=>K false
 | _=>False
theorem BF6 {a:AV} {K K':Bool→Prop} (hk:∀ b,K b→K' b) (h:eqnA a K):eqnA a K':=by
 unfold eqnA at h ⊢
 split at h
 ·exact ⟨hk _ h.1,hk _ h.2⟩
 ·exact ⟨hk _ h.1,hk _ h.2⟩
 ·exact hk _ h
 ·exact hk _ h
 ·exact h.elim
def Ac5 (P:Program) (G:Gl) (o:AOp) (fr:List AV) (h:Hp) (K:AV→Hp→Prop):Prop :=
 match o with
 | .call f args=>∃ fv avs,ax G fr f=some fv∧AV9 (ax G fr) args=some avs∧Ah6 P G fv avs h K
 | .eqn ng x=>∃ a,ax G fr x=some a∧eqnA a fun b=>K (.bool (if ng then !b else b)) (h.app [])
 | o=>∃ v up rd,G7 (ax G fr) (lk h.l) h.next o=some (v,up,rd)∧K v (h.app up)
def gval:AV→Option (Option Bool)
 | .bool p=>some (some p)
 | .tup _=>some none
 | _=>none
theorem BP4 {c:Cx}:RR c (.tup []) undef:=AH3.2 ⟨#[],rfl,rfl,fun j x hx=>by simp at hx⟩
def BI1 (P:Program) (G:Gl):List L6→(List AV→Hp→Prop)→List AV→Hp→Prop
 | [],Q,fr,h=>Q fr h
 | o::os,Q,fr,h=>match o.guard with
  | none=>Ac5 P G o.op fr h fun v h'=>BI1 P G os Q (AD4 fr o.dst v) h'
  | some (t,b)=>∃ p,(fr[t]?).bind gval=some p∧(p=some b→Ac5 P G o.op fr h fun v h'=>BI1 P G os Q (AD4 fr o.dst v) h')∧(p ≠ some b→BI1 P G os Q (AD4 fr o.dst (.tup [])) h)
section
variable {P:Program} {G:Gl}
def fence (c:Cx):Option Nat→Fence
 | none=>Fence.wide
 | some l=>Fence.wide.inRound (c.mu l).1
theorem AU1 (c:Cx) (rd:Option Nat) (o:Oper) (w:World) (ρ:Operand→Value):∀ f,o.about P w ρ=some f→(fence c rd).fn f:=fun f _=>by cases rd<;>trivial
theorem Ay1 {n:Nat} (c:Cx) (rd:Option Nat):(fence c rd).depth.isSome=true→1≤n:=by cases rd<;>simp [fence,Fence.wide]
theorem BW3 {op:Op} {f:AX} {xs:List AX} (h:cop P op=some (.call f xs)):∃ c fo,op = .call c∧c.callee = .value fo∧cox fo=some f∧c.args.toList.mapM cox=some xs:=by
 cases op with
 | call c =>
  simp only [cop] at h
  split at h
  ·rename_i fo hfo
   split at h
   ·rename_i f' l h1 h2
    cases h
    exact ⟨c,fo,rfl,hfo,h1,h2⟩
   ·cases h
  ·exfalso
   revert h
   (repeat' split)<;>simp
  ·cases h
 | makeFunc fn fs cs =>
  exfalso
  cases fn<;>simp only [cop] at h<;>revert h<;>(repeat' split)<;>simp
 | _ =>
  exfalso
  simp only [cop] at h
  revert h
  (repeat' split)<;>simp [Option.bind_eq_some_iff]<;>intros<;>(repeat' split)<;>simp
end
end Go.Am
namespace Go.Am
section
variable {P:Program} {G:Gl} {B:Nat} {c:Cx} {fr:List AV} {h:Hp} {a:Act}
theorem BG5 {o:Oper} {ao:AOp} (hc:cop P o.op=some ao):∀ k,o.op ≠ .defer k:=fun k e=>by rw [e] at hc;simp [cop] at hc
theorem Ak5 {o:Oper} {n:Nat} {rd:Option Nat} {r:Result Next} {x:AV} {up:Up} {new:List Nat} {next:Act→World→Prop} {Q:Exit→Act→World→Prop} (hd:Done P c r x up new)
  (hk:∀ c' val,RR c' x val→Rel P c'→Ext c c'→c'.at_=upd c.at_ up→(∀ i,c'.U i ↔ c.U i∨i ∈ new)→next (a.put o.dst val) c'.w):o.uponIn (fence c rd) n P a next Q r:=by
 obtain ⟨c',h1,h2,h3,h4,h5⟩:=hd
 rcases h1 with ⟨val,rfl,hx⟩ | ⟨rfl,rfl⟩
 ·exact hk c' val hx h2 h3 h4 h5
 ·exact hk c' undef RR_undef h2 h3 h4 h5
theorem BB3 {o:Oper} {n:Nat} {rd:Option Nat} {nx:Next} {w1:World} {R:Value→World→Prop} {next:Act→World→Prop} {Q:Exit→Act→World→Prop} (hu:UponA P R nx w1) (hk:∀ val w',R val w'→next (a.put o.dst val) w'):o.uponIn (fence c rd) n P a next Q (.ok nx w1):=by
 cases nx<;>simp only [UponA] at hu
 ·exact hk _ _ hu
 ·rename_i f args
  rw [Oper.uponIn_enter]
  refine ⟨Ay1 c rd,?_⟩
  have h1:CallsIn Fence.wide (n - 1) P f args w1 (fun e w'=>∃ v,e = .returned v∧R v w'):=callsIn_wide.2 hu
  have h2:CallsIn (fence c rd) (n - 1) P f args w1 (fun e w'=>∃ v,e = .returned v∧R v w'):=by cases rd<;>exact h1
  refine h2.mono ?_
  rintro e w' ⟨v,rfl,hR⟩
  exact hk _ _ hR
 ·rename_i l f tmps assign body
  rw [Oper.uponIn_round]
  refine ⟨Ay1 c rd,?_⟩
  have h2:RoundIn (fence c rd) (n - 1) P l f tmps assign body w1 (fun e w'=>∃ v,e = .returned v∧R v w'):=by cases rd<;>exact hu (n - 1)
  refine h2.mono ?_
  rintro e w' ⟨v,rfl,hR⟩
  exact hk _ _ hR
theorem ofL_nils {v:Value} (h:ofL v=some .nils):v = .slice none 0 0:=by
 unfold ofL at h
 split at h<;>first|(cases h;done)|rfl|skip
 all_goals (split at h<;>cases h)
theorem cox_nils {y:Operand} (h:cox y=some (.k .nils)):y = .const (.slice none 0 0):=by
 cases y<;>simp only [cox,Option.map_eq_some_iff,Option.some.injEq,reduceCtorEq] at h
 ·obtain ⟨v,h1,h2⟩:=h
  cases h2
  have : ofV 9 _=some AV.nils:=h1
  simp only [ofV] at this
  split at this
  ·simp only [Option.map_eq_some_iff] at this
   obtain ⟨_,_,h⟩:=this
   cases h
  ·rw [ofL_nils this]
 ·cases h
theorem cop_eqn {op:Op} {ng:Bool} {x:AX} (hc:cop P op=some (.eqn ng x)):∃ bo t xo yo t' ,op = .binOp bo t xo yo t'∧∃ e,P.underlying t=some (.slice e)∧ng=(bo == .neq)∧cox xo=some x∧yo = .const (.slice none 0 0)∧(bo = .eql∨bo = .neq):=by
 cases op with
 | binOp bo t xo yo t' =>
  simp only [cop] at hc
  split at hc
  ·rename_i x' y' h1 h2
   split at hc
   ·rename_i heq
    split at hc
    all_goals first
     | (cases hc;done)
     | (split at hc<;>first|(cases hc;done)|skip)
    ·rename_i e ht _
     cases hc
     exact ⟨bo,t,xo,yo,t',rfl,e,ht,rfl,h1,cox_nils h2,heq⟩
    all_goals (simp only [Option.map_eq_some_iff] at hc;obtain ⟨_,_,h⟩:=hc;cases h)
   ·cases hc
  ·cases hc
 | _ =>
  exfalso
  revert hc
  simp only [cop]
  repeat' split
  all_goals (intro hc;first|(cases hc;done)|(simp at hc;done)|(simp [Option.bind_eq_some_iff,Option.map_eq_some_iff] at hc;done)|skip)
  all_goals contradiction
theorem run_eqn {w:World} {op:BinOp} {t e:TypeId} (ht:P.underlying t=some (.slice e)) (ho:op = .eql∨op = .neq) (A:Option Addr) (l cp:Nat):(binOp op t (.slice A l cp) (.slice none 0 0)).run P w = .ok (.bool (if (op == .neq) then !A.isNone else A.isNone)) w:=by
 have key:∀ d,(Op.equalIn (d+1) t (.slice A l cp) (.slice none 0 0)).run P w = .ok A.isNone w:=fun d=>by cases A<;>simp [Op.equalIn,run_underlying ht]
 have he:(Op.equal t (.slice A l cp) (.slice none 0 0)).run P w = .ok A.isNone w:=key 9999
 rcases ho with rfl|rfl
 ·simp only [binOp];simp [he]
 ·simp only [binOp];simp [he]
theorem Au1 {os:List Operand} {xs:List AX} {vs:List AV} {args:Array Operand} (hF:FR c fr a.tmps) (hG:AV2 G c) (ho:args.toList=os) (hc:os.mapM cox=some xs) (hv:AV9 (ax G fr) xs=some vs):AI7 c vs (args.map a.eval):=by
 subst ho
 obtain ⟨h1,h2⟩:=Ak3 hF hG hc hv
 exact ⟨by simp [h1],h2.imp (fun _ _ h=>h) fun j u hj=>by simpa using hj⟩
theorem Ac4 {o:Oper} {ao:AOp} {n:Nat} {rd:Option Nat} {K:AV→Hp→Prop} {next:Act→World→Prop} {Q:Exit→Act→World→Prop} (hc:cop P o.op=some ao) (hs:St P G B c fr h a) (h1:Ac5 P G ao fr h K)
  (hk:∀ v val c' h',K v h'→RR c' v val→Rel P c'→Mat c' h'→Ext c c'→next (a.put o.dst val) c'.w):o.wpIn (fence c rd) n P a c.w next Q:=by
 refine ⟨AU1 c rd o _ _,?_⟩
 rw [Oper.semAt_eq _ _ _ (BG5 hc)]
 have plain:∀ v up rd',G7 (ax G fr) (lk h.l) h.next ao=some (v,up,rd')→K v (h.app up)→o.uponIn (fence c rd) n P a next Q ((execOp a.eval o).run P c.w):=fun v up rd' hv hK=>by
  rw [← hs.mat.at_] at hv
  exact Ak5 (snd hs.fr hs.glo hs.rel hs.mat.fresh hc hv) fun c' val hx hr he ha hu=>hk v val c' _ hK hx hr (hs.mat.app ha hu) he
 cases ao with
 | call f xs =>
  obtain ⟨fv,avs,hf,hxs,hcall⟩:=h1
  obtain ⟨cl,fo,hop,hcal,hfo,hargs⟩:=BW3 hc
  obtain ⟨nx,w1,hrun,hu⟩:=hcall c (a.eval fo) (cl.args.map a.eval) hs.rel hs.glo hs.mat (J9 hs.fr hs.glo hfo hf) (Au1 hs.fr hs.glo rfl hargs hxs)
  have : (execOp a.eval o).run P c.w = .ok nx w1:=by
   rw [← hrun]
   simp [execOp,hop,resolve,hcal]
  rw [this]
  refine BB3 hu ?_
  rintro val w' ⟨r,h',c',rfl,hK,hx,hr,hm,he⟩
  exact hk r val c' h' hK hx hr hm he
 | eqn ng x =>
  obtain ⟨x0,hx0,h1⟩:=h1
  obtain ⟨op,t,xo,yo,t',hop,e,ht,hng,hcx,hy,hgu⟩:=cop_eqn hc
  have hr:=J9 hs.fr hs.glo hcx hx0
  have go:∀ A l cp,a.eval xo = .slice A l cp→K (.bool (if ng then !A.isNone else A.isNone)) (h.app [])→o.uponIn (fence c rd) n P a next Q ((execOp a.eval o).run P c.w):=fun A l cp hv hK=>by
   have hrun:(execOp a.eval o).run P c.w = .ok (.value (.bool (if ng then !A.isNone else A.isNone))) c.w:=by
    simp only [execOp,hop]
    rw [hng]
    have h2:=run_eqn (w:=c.w) (op:=op) ht hgu A l cp
    have h3:(eqGuard op t xo yo (a.eval xo) (a.eval yo)).run P c.w = .ok () c.w:=AK1 (by rw [hv];exact ⟨fun _ h=>(by cases h),fun h=>(by cases h)⟩)
    have h4:a.eval yo = .slice none 0 0:=by rw [hy];rfl
    rw [hv,h4] at h3
    simp only [hv,h4]
    simp [h3,h2]
   refine Ak5 (x:=.bool (if ng then !A.isNone else A.isNone)) (up:=[]) (new:=[]) (Done.pure (val:=.bool (if ng then !A.isNone else A.isNone)) hs.rel hrun (RR_bool.2 rfl)) fun c' val hx hr' he ha hu=>?_
   exact hk _ val c' _ hK hx hr' (hs.mat.app ha (by simpa [AB5,AR6] using hu)) he
  unfold eqnA at h1
  split at h1
  ·obtain ⟨A,hv⟩:=RR_nils.1 hr
   refine go A 0 0 hv ?_
   cases A with
   | none=>exact h1.1
   | some p=>exact h1.2
  ·obtain ⟨A,cp,hv,_⟩:=AD0.1 hr
   refine go A _ cp hv ?_
   cases A with
   | none=>exact h1.1
   | some p=>exact h1.2
  ·obtain ⟨A,cp,hv,_,_,h3⟩:=AD0.1 hr
   obtain ⟨b,off,sz,rfl,_⟩:=h3 (by simp)
   exact go _ _ cp hv h1
  ·obtain ⟨_,_,cp,hv,_⟩:=AK9.1 hr
   exact go _ _ cp hv h1
  ·exact h1.elim
 | _=>obtain ⟨v,up,rd',hv,hK⟩:=h1;exact plain v up rd' hv hK
theorem St.step {c':Cx} {h':Hp} {v:AV} {val:Value} (hs:St P G B c fr h a) (d:Option Nat) (hx:RR c' v val) (hr:Rel P c') (hm:Mat c' h') (he:Ext c c'):St P G B c' (AD4 fr d v) h' (a.put d val) :=
 ⟨hr,hs.glo.ext he,hm,(hs.fr.ext he).put d hx,by rw [put_defers];exact hs.df.ext he,Nat.le_trans hs.old he.size⟩
def Post (P:Program) (G:Gl) (B:Nat) (c:Cx) (Q:Exit→List AV→Hp→Prop) (e:Exit) (a':Act) (w':World):Prop:=∃ c' fr' h',c'.w=w'∧Q e fr' h'∧St P G B c' fr' h' a'∧Ext c c'
theorem BA3 {ops:Array Oper} {j t:Nat} {p:Option Bool} (hj:(ops[j]?).bind (·.dst)=some t) (hF:FR c fr a.tmps) (hp:(fr[t]?).bind gval=some p):yielded ops a.tmps j=p:=by
 rw [Option.bind_eq_some_iff] at hp
 obtain ⟨x,hx,hp⟩:=hp
 obtain ⟨u,hu,hr⟩:=hF.2 t _ hx
 have hu':a.tmps[t]? = some u:=hu
 unfold yielded
 rw [hj]
 cases x<;>simp only [gval,Option.some.injEq,reduceCtorEq] at hp
 ·simp only [RR_bool] at hr
  subst hr;subst hp
  simp [hu']
 ·obtain ⟨vs,rfl,_⟩:=AH3.1 hr
  subst hp
  simp [hu']
theorem AT9 {ops:Array Oper} {o:Oper} {ao:L6} (h:Aq7 P ops o=some ao):cop P o.op=some ao.op∧ao.dst=o.dst∧((o.guard=none∧ao.guard=none)∨∃ j b t,o.guard=some (j,b)∧ao.guard=some (t,b)∧(ops[j]?).bind (·.dst)=some t):=by
 unfold Aq7 at h
 split at h
 ·cases h
 ·rename_i x hx
  split at h
  ·rename_i hg
   cases h;exact ⟨hx,rfl,.inl ⟨hg,rfl⟩⟩
  ·rename_i j b hg
   simp only [Option.map_eq_some_iff] at h
   obtain ⟨t,ht,rfl⟩:=h
   exact ⟨hx,rfl,.inr ⟨j,b,t,hg,rfl,ht⟩⟩
theorem AV8 {ops:Array Oper} {o:Oper} (h:o.guard=none):Region.wanted o (yielded ops a.tmps)=true:=by simp [Region.wanted,h]
theorem Ak1 {ops:Array Oper} {o:Oper} {j t:Nat} {b:Bool} {p:Option Bool} (h:o.guard=some (j,b)) (hj:(ops[j]?).bind (·.dst)=some t) (hF:FR c fr a.tmps) (hp:(fr[t]?).bind gval=some p):Region.wanted o (yielded ops a.tmps)=(p == some b):=by
 simp [Region.wanted,h,BA3 hj hF hp]
theorem Ac7 {ops:Array Oper} {n:Nat} {rd:Option Nat} {Q:Exit→List AV→Hp→Prop} {c0:Cx}:∀ (os:List Oper) (aos:List L6) (k:Nat),(∀ j,os[j]? = ops[k+j]?)→os.mapM (Aq7 P ops)=some aos→∀ {c:Cx} {fr:List AV} {h:Hp} {a:Act},St P G B c fr h a→Ext c0 c→fence c rd=fence c0 rd→(∀ l,rd=some l→c.U l) →
  BI1 P G aos (Q .normal) fr h→wpOpsIn (fence c0 rd) n P ops (Post P G B c0 Q) (List.range' k os.length) a c.w
 | [],aos,k,_,hm,c,fr,h,a,hs,he,_,_,hr=>by
  simp at hm;subst hm
  exact ⟨c,fr,h,rfl,hr,hs,he⟩
 | o::os,aos,k,hk,hm,c,fr,h,a,hs,he,hf,hU,hr=>by
  simp only [List.mapM_cons,Option.bind_eq_bind,Option.bind_eq_some_iff] at hm
  obtain ⟨ao,hao,aos',haos,h2⟩:=hm
  cases h2
  obtain ⟨hc,hd,hg⟩:=AT9 hao
  have h0:ops[k]? = some o:=by simpa using (hk 0).symm
  have hrest:∀ j,os[j]? = ops[k+1+j]?:=fun j=>by have:=hk (j+1);simpa [Nat.add_assoc,Nat.add_comm 1 j] using this
  simp only [List.length_cons,List.range'_succ,wpOpsIn,h0]
  have step:Ac5 P G ao.op fr h (fun v h'=>BI1 P G aos' (Q .normal) (AD4 fr ao.dst v) h')→Oper.wpIn (fence c0 rd) n P o a c.w (wpOpsIn (fence c0 rd) n P ops (Post P G B c0 Q) (List.range' (k+1) os.length)) (Post P G B c0 Q):=fun h1=>by
   rw [← hf]
   refine Ac4 hc hs h1 fun v val c' h' hK hx hr' hm' he'=>?_
   rw [hf,← hd]
   have hf':fence c' rd=fence c0 rd:=by
    rw [← hf]
    cases rd with
    | none=>rfl
    | some l=>simp only [fence];rw [he'.mu l (hU l rfl)]
   exact Ac7 os aos' (k+1) hrest haos (hs.step ao.dst hx hr' hm' he') (he.trans he') hf' (fun l hl=>he'.used l (hU l hl)) hK
  rcases hg with ⟨hg1,hg2⟩ | ⟨j,b,t,hg1,hg2,hj⟩
  ·rw [if_pos (AV8 hg1)]
   simp only [BI1,hg2] at hr
   exact step hr
  ·simp only [BI1,hg2] at hr
   obtain ⟨p,hp,hr1,hr2⟩:=hr
   rw [Ak1 hg1 hj hs.fr hp]
   by_cases e:p=some b
   ·rw [if_pos (by simp [e])]
    exact step (hr1 e)
   ·rw [if_neg (by simp [e])]
    refine ⟨by rw [← hf];exact AU1 c rd o _ _,?_⟩
    rw [← hd]
    exact Ac7 os aos' (k+1) hrest haos (hs.step ao.dst (v:=.tup []) (val:=undef) BP4 hs.rel hs.mat (Ext.refl c)) he hf hU (hr2 e)
end
end Go.Am
namespace Go.Am
def AX.slots:AX→List Nat
 | .t n=>[n]
 | _ => []
def As3:Option AX→List Nat
 | none=>[]
 | some x=>x.slots
def BD4:List (Nat × Nat × AX)→List Nat
 | [] => []
 | (_,_,x)::r=>x.slots++BD4 r
def Ag5:List AX→List Nat
 | [] => []
 | x::r=>x.slots++Ag5 r
def AOp.slots:AOp→List Nat
 | .eqn _ x | .mv x | .box x | .load _ _ x | .nchk x | .un _ x | .conv _ x | .faddr _ x | .fld _ _ _ x | .ext x _ | .len x | .clear _ x=>x.slots
 | .pick c a b=>c.slots++(a.slots++b.slots)
 | .new _=>[]
 | .build _ ps | .bslice _ _ _ ps=>BD4 ps
 | .store _ a v=>a.slots++v.slots
 | .bin _ x y | .eqb _ x y | .eqp _ _ x y | .eqs _ _ x y | .iaddrA _ _ x y | .iaddrS _ x y | .idx _ _ _ x y | .mks _ _ _ x y | .append _ _ x y=>x.slots++y.slots
 | .slS _ x lo hi mx=>x.slots++(As3 lo++(As3 hi++As3 mx))
 | .slA _ _ x lo hi=>x.slots++(As3 lo++As3 hi)
 | .mkfn _ fs cs=>Ag5 fs++Ag5 cs
 | .minmax _ x xs=>x.slots++Ag5 xs
 | .mkmap=>[]
 | .mlook _ _ _ _ m k | .mdel _ _ m k=>m.slots++k.slots
 | .mset _ _ m k v=>m.slots++(k.slots++v.slots)
 | .mlen m=>m.slots
 | .call f xs=>f.slots++Ag5 xs
section
variable {G:Gl} {fr fr':List AV}
theorem U5 {x:AX} (h:∀ n ∈ x.slots,fr'[n]? = fr[n]?):ax G fr' x=ax G fr x:=by
 cases x with
 | t n=>exact h n (by simp [AX.slots])
 | _=>rfl
theorem AR9 {x:Option AX} (h:∀ n ∈ As3 x,fr'[n]? = fr[n]?):evO (ax G fr') x=evO (ax G fr) x:=by
 cases x with
 | none=>rfl
 | some x=>simp only [evO,U5 (x:=x) h]
theorem AJ1:∀ {l:List AX},(∀ n ∈ Ag5 l,fr'[n]? = fr[n]?)→AV9 (ax G fr') l=AV9 (ax G fr) l
 | [],_=>rfl
 | x::r,h=>by
  simp only [AV9,U5 (x:=x) fun n hn=>h n (by simp [Ag5,hn]),AJ1 (l:=r) fun n hn=>h n (by simp [Ag5,hn])]
theorem AQ7:∀ {l:List (Nat × Nat × AX)},(∀ n ∈ BD4 l,fr'[n]? = fr[n]?)→AU6 (ax G fr') l=AU6 (ax G fr) l
 | [],_=>rfl
 | (o,s,x)::r,h=>by
  simp only [AU6,U5 (x:=x) fun n hn=>h n (by simp [BD4,hn]),AQ7 (l:=r) fun n hn=>h n (by simp [BD4,hn])]
theorem BN8 {at_:At} {id:Nat} {o:AOp} (h:∀ n ∈ o.slots,fr'[n]? = fr[n]?):G7 (ax G fr') at_ id o=G7 (ax G fr) at_ id o:=by
 cases o<;>simp only [AOp.slots,List.mem_append] at h
 case call=>rfl
 case new=>rfl
 case mkmap=>rfl
 case mlook o ag ks z m k=>simp only [G7,U5 (G:=G) (x:=m) fun n hn=>h n (.inl hn),U5 (G:=G) (x:=k) fun n hn=>h n (.inr hn)]
 case mdel ag ks m k=>simp only [G7,U5 (G:=G) (x:=m) fun n hn=>h n (.inl hn),U5 (G:=G) (x:=k) fun n hn=>h n (.inr hn)]
 case mset ag ks m k v=>simp only [G7,U5 (G:=G) (x:=m) fun n hn=>h n (.inl hn),U5 (G:=G) (x:=k) fun n hn=>h n (.inr (.inl hn)),U5 (G:=G) (x:=v) fun n hn=>h n (.inr (.inr hn))]
 case build z ps=>simp only [G7,AQ7 (G:=G) h]
 case bslice s n z ps=>simp only [G7,AQ7 (G:=G) h]
 case pick c a b=>simp only [G7,U5 (G:=G) (x:=c) fun n hn=>h n (.inl hn),U5 (G:=G) (x:=a) fun n hn=>h n (.inr (.inl hn)),U5 (G:=G) (x:=b) fun n hn=>h n (.inr (.inr hn))]
 case slS s x lo hi mx=>simp only [G7,U5 (G:=G) (x:=x) fun n hn=>h n (.inl hn),AR9 (G:=G) (x:=lo) fun n hn=>h n (.inr (.inl hn)),AR9 (G:=G) (x:=hi) fun n hn=>h n (.inr (.inr (.inl hn))),AR9 (G:=G) (x:=mx) fun n hn=>h n (.inr (.inr (.inr hn)))]
 case slA s m x lo hi=>simp only [G7,U5 (G:=G) (x:=x) fun n hn=>h n (.inl hn),AR9 (G:=G) (x:=lo) fun n hn=>h n (.inr (.inl hn)),AR9 (G:=G) (x:=hi) fun n hn=>h n (.inr (.inr hn))]
 case mkfn f fs cs=>simp only [G7,AJ1 (G:=G) (l:=fs) fun n hn=>h n (.inl hn),AJ1 (G:=G) (l:=cs) fun n hn=>h n (.inr hn)]
 case minmax m x xs=>simp only [G7,U5 (G:=G) (x:=x) fun n hn=>h n (.inl hn),AJ1 (G:=G) (l:=xs) fun n hn=>h n (.inr hn)]
 all_goals first
  | (simp only [G7,U5 (G:=G) h];done)
  | (rename_i x y;simp only [G7,U5 (G:=G) (x:=x) fun n hn=>h n (.inl hn),U5 (G:=G) (x:=y) fun n hn=>h n (.inr hn)];done)
end
theorem AA5 {at_ at':At} {i:Nat} (h:at' i=at_ i):Y2 at' i=Y2 at_ i:=by simp only [Y2,h]
theorem srcV_local {at_ at':At} {sz:Nat} {x:AV} {src:List AV} {n:Nat} {rd:List Nat} (h:Av0 at_ sz x=some (src,n,rd)) (hr:∀ i ∈ rd,at' i=at_ i):Av0 at' sz x=some (src,n,rd):=by
 unfold Av0 at h ⊢
 cases x<;>simp only at h ⊢<;>try exact h
 rename_i id off len cp sz'
 have hid:at' id=at_ id:=by
  split at h
  ·split at h
   ·cases h;exact hr id (by simp)
   ·cases h
  ·cases h
 rw [AA5 hid];exact h
theorem Ag4 {at_ at':At} {i:Nat} (h:at' i=at_ i):AN1 at' i=AN1 at_ i:=by simp only [AN1,h]
theorem Ae2 {at_ at':At} {ag:Bool} {ks:List Nat} {m k:AV} {q:Nat × List (AV × AV) × Option Nat} (h:keyV at_ ag ks m k=some q) (hr:at' q.1=at_ q.1):keyV at' ag ks m k=some q:=by
 have hm:m = .mapr q.1:=by
  unfold keyV at h
  split at h
  ·split at h
   ·split at h
    ·simp only [Option.map_eq_some_iff] at h
     obtain ⟨o,_,rfl⟩:=h;rfl
    ·cases h
   ·cases h
  ·cases h
 subst hm
 unfold keyV at h ⊢
 dsimp only at h ⊢
 rw [Ag4 hr];exact h
theorem BN7 {ev:AX→Option AV} {at_ at':At} {id:Nat} {o:AOp} {v:AV} {up:Up} {rd:List Nat} (h:G7 ev at_ id o=some (v,up,rd)) (hr:∀ i ∈ rd,at' i=at_ i):G7 ev at' id o=some (v,up,rd):=by
 cases o<;>try exact h
 case load ag n x =>
  simp only [G7] at h ⊢
  split at h
  ·rename_i u hu
   split at h
   ·rename_i w rd' hw
    cases h
    have : Ae0 at' ag n u=Ae0 at_ ag n u:=by
     unfold Ae0 at hw ⊢
     cases u<;>simp only at hw ⊢
     rename_i i off
     have hid:at' i=at_ i:=by
      split at hw
      ·simp only [Option.map_eq_some_iff] at hw
       obtain ⟨y,_,hy⟩:=hw
       cases hy;exact hr i (by simp)
      ·cases hw
     rw [AA5 hid]
    simp only [hu,this,hw]
   ·cases h
  ·cases h
 case mlook ok ag ks z m k =>
  simp only [G7] at h ⊢
  split at h
  ·rename_i mv kv hm hk
   split at h
   ·rename_i v' rd' hw
    cases h
    unfold AU7 at hw
    simp only [Option.map_eq_some_iff,Prod.mk.injEq] at hw
    obtain ⟨q,hq,hv,rfl⟩:=hw
    have hq':=Ae2 hq (hr q.1 (by simp))
    simp only [hm,hk,AU7,hq',Option.map_some,hv]
   ·cases h
  ·cases h
 case mset ag ks m k x =>
  simp only [G7] at h ⊢
  split at h
  ·rename_i mv kv xv hm hk hx
   split at h
   ·rename_i up' rd' hw
    cases h
    unfold BL6 at hw
    simp only [Option.map_eq_some_iff,Prod.mk.injEq] at hw
    obtain ⟨q,hq,hv,rfl⟩:=hw
    have hq':=Ae2 hq (hr q.1 (by simp))
    simp only [hm,hk,hx,BL6,hq',Option.map_some,hv]
   ·cases h
  ·cases h
 case mdel ag ks m k =>
  simp only [G7] at h ⊢
  split at h
  ·rename_i mv kv hm hk
   split at h
   ·rename_i up' rd' hw
    cases h
    unfold BL8 at hw
    simp only [Option.map_eq_some_iff,Prod.mk.injEq] at hw
    obtain ⟨q,hq,hv,rfl⟩:=hw
    have hq':=Ae2 hq (hr q.1 (by simp))
    simp only [hm,hk,BL8,hq',Option.map_some,hv]
   ·cases h
  ·cases h
 case mlen m =>
  simp only [G7] at h ⊢
  split at h
  ·rename_i mv hm
   split at h
   ·rename_i v' rd' hw
    cases h
    cases mv<;>simp only [BL7] at hw<;>try (cases hw;done)
    rename_i i
    simp only [Option.map_eq_some_iff,Prod.mk.injEq] at hw
    obtain ⟨es,hes,hv,rfl⟩:=hw
    have : AN1 at' i=some es:=by rw [Ag4 (hr i (by simp))];exact hes
    simp only [hm,BL7,this,Option.map_some,hv]
   ·cases h
  ·cases h
 case store n p q =>
  simp only [G7] at h ⊢
  split at h
  ·rename_i u w hu hw'
   split at h
   ·rename_i up' rd' hw
    cases h
    have : Af8 at' n w u=Af8 at_ n w u:=by
     unfold Af8 at hw ⊢
     cases u<;>simp only at hw ⊢
     rename_i i off
     have hid:at' i=at_ i:=by
      split at hw
      ·split at hw
       ·cases hw;exact hr i (by simp)
       ·cases hw
      ·cases hw
     rw [AA5 hid]
    simp only [hu,hw',this,hw]
   ·cases h
  ·cases h
 case slA n s x lo hi =>
  simp only [G7] at h ⊢
  split at h
  ·rename_i u l k hu hl hk
   split at h
   ·rename_i w rd' hw
    cases h
    have : slAV at' n s u l k=slAV at_ n s u l k:=by
     unfold slAV at hw ⊢
     cases u<;>simp only at hw ⊢
     rename_i i off
     have hid:at' i=at_ i:=by
      split at hw
      ·split at hw
       ·split at hw<;>cases hw<;>exact hr i (by simp)
       ·cases hw
      ·cases hw
     rw [AA5 hid]
    simp only [hu,hl,hk,this,hw]
   ·cases h
  ·cases h
 case clear z x =>
  simp only [G7] at h ⊢
  split at h
  ·rename_i u hu
   split at h
   ·rename_i up' rd' hw
    cases h
    have : Ab1 at' z u=Ab1 at_ z u:=by
     unfold Ab1 at hw ⊢
     cases u with
     | sl i off len cp sz =>
      simp only at hw ⊢
      have hid:at' i=at_ i:=by
       split at hw
       ·split at hw
        ·cases hw;exact hr i (by simp)
        ·cases hw
       ·cases hw
      rw [AA5 hid]
     | isl els=>cases els<;>rfl
     | _=>rfl
    simp only [hu,this,hw]
   ·cases h
  ·cases h
 case append sz bytes s x =>
  simp only [G7] at h ⊢
  split at h
  ·rename_i u w hu hw
   unfold BI3 at h ⊢
   split at h
   ·rename_i src n rd' hsrc
    have hrd:∀ i ∈ rd',i ∈ rd:=by
     cases u<;>(try simp only at h)<;>try (cases h;done)
     ·split at h
      ·cases h;exact fun _ h=>h
      ·split at h
       ·cases h;exact fun _ h=>h
       ·cases h
     ·split at h
      ·split at h
       ·split at h
        ·split at h
         ·cases h;exact fun i hi=>by simp [hi]
         ·cases h
        ·split at h
         ·cases h;exact fun i hi=>by simp [hi]
         ·cases h
       ·cases h
      ·cases h
    rw [srcV_local hsrc fun i hi=>hr i (hrd i hi)]
    cases u<;>(try simp only at h ⊢)<;>try exact h
    rename_i d off len cp sz'
    have hid:at' d=at_ d:=by
     split at h
     ·split at h
      ·split at h
       ·split at h
        ·cases h;exact hr d (by simp)
        ·cases h
       ·split at h
        ·cases h;exact hr d (by simp)
        ·cases h
      ·cases h
     ·cases h
    rw [AA5 hid];exact h
   ·cases h
  ·cases h
end Go.Am
