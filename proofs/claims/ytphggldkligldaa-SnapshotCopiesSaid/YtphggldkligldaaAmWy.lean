/-
 A quicker walk,second part: regions and code;that it is sound. No program in sight.
-/
import Derived.Test.YtphggldkligldaaAmWx
set_option linter.unusedSimpArgs false
set_option linter.unusedVariables false
namespace Go.Am
structure Hq (h hx:Hp):Prop where
 lk:lk h.l=lk hx.l
 next:h.next=hx.next
theorem Hq.refl {h:Hp}:Hq h h:=⟨rfl,rfl⟩
theorem Hq.symm {h hx:Hp} (q:Hq h hx):Hq hx h:=⟨q.1.symm,q.2.symm⟩
theorem Hq.mat {c:Cx} {h hx:Hp} (q:Hq h hx) (m:Mat c h):Mat c hx:=⟨by rw [m.at_,q.lk],fun i=>by rw [m.U,q.next]⟩
theorem Hq.weak {P:Program} {σ:Nat→Nat} {fr fr':List AV} {h hx h':Hp} (q:Hq h hx) (w:Weak P σ fr hx fr' h'):Weak P σ fr h fr' h':=fun c tmps hR hm hF=>by
 obtain ⟨h1,h2,h3⟩:=w c tmps hR (q.mat hm) hF
 exact ⟨h1,h2,fun i o hi=>by rw [q.lk];exact h3 i o hi⟩
theorem Hq.callV {P:Program} {G:Gl} {fv:AV} {avs:List AV} {h hx:Hp} {K:AV→Hp→Prop} (q:Hq h hx) (c:CallV P G fv avs hx K):CallV P G fv avs h K:=fun cx u vs hR hG hm=>c cx u vs hR hG (q.mat hm)
def repK:List (Nat × AObj)→Nat→AObj→(List (Nat × AObj)→Prop)→Prop
 | [],i,o,k=>k [(i,o)]
 | (j,p)::r,i,o,k=>bif Nat.beq i j then k ((i,o)::r) else repK r i o fun r'=>k ((j,p)::r')
def delK:List (Nat × AObj)→Nat→(List (Nat × AObj)→Prop)→Prop
 | [],_,k=>k []
 | (j,p)::r,i,k=>bif Nat.beq i j then delK r i k else delK r i fun r'=>k ((j,p)::r')
def putK (nx:Nat) (l:List (Nat × AObj)) (i:Nat) (o:Option AObj) (k:List (Nat × AObj)→Prop):Prop:=match o with
 | some o=>bif Nat.beq i nx then k ((i,o)::l) else repK l i o k
 | none=>delK l i k
theorem repK_spec {o:AObj}:∀ {l:List (Nat × AObj)} {i:Nat} {k:List (Nat × AObj)→Prop},repK l i o k→∃ l',lk l'=upd (lk l) [(i,some o)]∧k l'
 | [],i,k,h=>⟨_,by funext j;simp [lk,upd],h⟩
 | (j,p)::r,i,k,h=>by
  simp only [repK] at h
  cases e:Nat.beq i j with
  | true =>
   rw [e] at h
   refine ⟨_,?_,h⟩
   have:=beq_eq e
   subst this
   funext q
   simp only [lk,upd]
   by_cases hq:q=i<;>simp [hq]
  | false =>
   rw [e] at h
   obtain ⟨l',h1,h2⟩:=repK_spec (l:=r) h
   refine ⟨_,?_,h2⟩
   have hne:=beq_ne e
   funext q
   have:=congrFun h1 q
   simp only [lk,upd] at this ⊢
   rw [this]
   by_cases hq:q=i
   ·subst hq;simp [hne]
   ·simp [hq]
theorem delK_spec:∀ {l:List (Nat × AObj)} {i:Nat} {k:List (Nat × AObj)→Prop},delK l i k→∃ l',lk l'=upd (lk l) [(i,none)]∧k l'
 | [],i,k,h=>⟨_,by funext j;simp [lk,upd],h⟩
 | (j,p)::r,i,k,h=>by
  simp only [delK] at h
  cases e:Nat.beq i j with
  | true =>
   rw [e] at h
   obtain ⟨l',h1,h2⟩:=delK_spec (l:=r) h
   refine ⟨_,?_,h2⟩
   have:=beq_eq e
   subst this
   funext q
   have:=congrFun h1 q
   simp only [lk,upd] at this ⊢
   rw [this]
   by_cases hq:q=i<;>simp [hq]
  | false =>
   rw [e] at h
   obtain ⟨l',h1,h2⟩:=delK_spec (l:=r) h
   refine ⟨_,?_,h2⟩
   have hne:=beq_ne e
   funext q
   have:=congrFun h1 q
   simp only [lk,upd] at this ⊢
   rw [this]
   by_cases hq:q=i
   ·subst hq;simp [hne]
   ·simp [hq]
theorem putK_spec {nx i:Nat} {o:Option AObj} {l:List (Nat × AObj)} {k:List (Nat × AObj)→Prop} (h:putK nx l i o k):∃ l',lk l'=upd (lk l) [(i,o)]∧k l':=by
 cases o with
 | none=>exact delK_spec h
 | some o =>
  simp only [putK] at h
  cases e:Nat.beq i nx with
  | true=>rw [e] at h;exact ⟨_,by funext q;simp [lk,upd],h⟩
  | false=>rw [e] at h;exact repK_spec h
def putsK (nx:Nat) (l:List (Nat × AObj)):Up→(List (Nat × AObj)→Prop)→Prop
 | [],k=>k l
 | (i,o)::r,k=>putsK nx l r fun l'=>putK nx l' i o k
theorem putsK_spec {nx:Nat} {l:List (Nat × AObj)}:∀ {up:Up} {k:List (Nat × AObj)→Prop},putsK nx l up k→∃ l',lk l'=upd (lk l) up∧k l'
 | [],k,h=>⟨l,rfl,h⟩
 | (i,o)::r,k,h=>by
  obtain ⟨l1,h1,h2⟩:=putsK_spec (up:=r) h
  obtain ⟨l2,h3,h4⟩:=putK_spec h2
  refine ⟨l2,?_,h4⟩
  rw [h3]
  funext q
  simp only [upd,h1]
def upK (D:Bool) (l:List (Nat × AObj)) (nx:Nat) (up:Up) (k:Hp→Prop):Prop:=putsK nx l up fun l'=>match D with
 | true=>k ⟨l',nx+1⟩
 | false=>bif hasKey up nx then k ⟨l',nx+1⟩ else k ⟨l',nx⟩
theorem upK_spec {l:List (Nat × AObj)} {nx:Nat} {up:Up} {k:Hp→Prop} (h:upK false l nx up k) {h0:Hp} (q:Hq h0 ⟨l,nx⟩):∃ hx,Hq (h0.app up) hx∧k hx:=by
 obtain ⟨l',h1,h2⟩:=putsK_spec h
 obtain ⟨l0,n0⟩:=h0
 obtain ⟨q1,q2⟩:=q
 simp only at q1 q2
 subst q2
 simp only at h2
 cases e:hasKey up n0 with
 | true=>rw [e] at h2;exact ⟨_,⟨by simp only [Hp.app,lk_puts,q1,h1],by simp [Hp.app,e]⟩,h2⟩
 | false=>rw [e] at h2;exact ⟨_,⟨by simp only [Hp.app,lk_puts,q1,h1],by simp [Hp.app,e]⟩,h2⟩
theorem upK_specD {l:List (Nat × AObj)} {nx:Nat} {up:Up} {k:Hp→Prop} (h:upK true l nx up k) {h0:Hp} (q:Hq h0 ⟨l,nx⟩):∃ hx,Hq (h0.appD up) hx∧k hx:=by
 obtain ⟨l',h1,h2⟩:=putsK_spec h
 obtain ⟨l0,n0⟩:=h0
 obtain ⟨q1,q2⟩:=q
 simp only at q1 q2
 subst q2
 exact ⟨⟨l',n0+1⟩,⟨by simp only [Hp.appD,lk_puts,q1,h1],rfl⟩,h2⟩
def guardK (n:Nat) (sf:SF) (g:Option (Nat × Bool)) (A B:SF→Prop):Prop:=match g with
 | none=>A sf
 | some (t,b)=>bif Nat.blt t n then lookK sf t fun v=>match v with
  | .bool p=>BrX p (match b with
   | true=>A ((t,.bool true)::sf)
   | false=>B ((t,.bool true)::sf)) (match b with
   | true=>B ((t,.bool false)::sf)
   | false=>A ((t,.bool false)::sf))
  | .tup _=>B sf
  | _=>False else False
theorem sget_self {sf:SF} {t:Nat} {n:Nat} {v:AV} (h:sget sf t=v):sd n ((t,v)::sf)=sd n sf:=by
 subst h
 apply List.ext_getElem?
 intro j
 rw [sd_get,sd_get,sget_cons]
 by_cases e:t=j
 ·subst e;simp
 ·rw [if_neg e]
theorem guardK_spec {n:Nat} {sf:SF} {t:Nat} {b:Bool} {A B:SF→Prop} (h:guardK n sf (some (t,b)) A B):∃ p,((sd n sf)[t]?).bind gval=some p∧(p=some b→∃ sf',sd n sf'=sd n sf∧A sf')∧(p ≠ some b→∃ sf',sd n sf'=sd n sf∧B sf'):=by
 simp only [guardK] at h
 cases e:Nat.blt t n with
 | false=>rw [e] at h;exact h.elim
 | true =>
  rw [e] at h
  have h:=lookK_spec h
  rw [sd_get,if_pos (blt_lt e)]
  generalize hv:sget sf t=v at h
  cases v<;>try exact h.elim
  ·rename_i p
   obtain ⟨h1,h2⟩:=brK_spec h
   refine ⟨some p,rfl,fun ep=>?_,fun ep=>?_⟩
   ·obtain rfl:p=b:=by simpa using ep
    cases p
    ·exact ⟨_,sget_self hv,h2 rfl⟩
    ·exact ⟨_,sget_self hv,h1 rfl⟩
   ·cases p<;>cases b<;>first|exact absurd rfl ep|exact ⟨_,sget_self hv,h2 rfl⟩|exact ⟨_,sget_self hv,h1 rfl⟩
  ·exact ⟨none,rfl,fun ep=>(by cases ep),fun _=>⟨sf,rfl,h⟩⟩
structure CallX (P:Program) (G:Gl) (fv:AV) (avs:List AV) (h:Hp) (K:AV→Hp→Prop):Prop where
 out:CallV P G fv avs h fun v h'=>∃ hx,Hq h' hx∧K v hx
structure DCallX (P:Program) (G:Gl) (g:Nat) (avs:List AV) (h:Hp) (K:AV→Up→List Nat→Prop):Prop where
 out:∃ r up rd,FnU P G g avs rd (lk h.l) r up h.next∧K r up rd
structure QCallX (P:Program) (G:Gl) (g:Nat) (avs:List AV) (K:AV→Prop):Prop where
 out:∃ r,PureC P G g avs r∧K r
section
variable {P:Program} {G:Gl} {n:Nat}
structure AppSX (l:List (Nat × AObj)) (nx sz bytes:Nat) (s x:AV) (k:AV→Up→Prop):Prop where
 out:∃ v up up' rd,appV (lk l) nx sz bytes s x=some (v,up,rd)∧upd (lk l) up=upd (lk l) up'∧hasKey up nx=hasKey up' nx∧k v up'
structure EqnX (a:AV) (K:Bool→Prop):Prop where
 out:eqnA a K
def stepX (P:Program) (G:Gl) (n:Nat) (sf:SF) (l:List (Nat × AObj)) (nx:Nat) (k:AV→Hp→Prop) (o:AOp):Prop:=match o with
 | .call f args=>axK G n sf f fun fv=>valsK G n sf args fun avs=>CallX P G fv avs ⟨l,nx⟩ k
 | .append sz bytes s x=>axK G n sf s fun s=>axK G n sf x fun x=>AppSX l nx sz bytes s x fun v up=>upK false l nx up fun h'=>k v h'
 | .eqn ng x=>axK G n sf x fun a=>EqnX a fun b=>ngK ng b fun v=>k v ⟨l,nx⟩
 | o=>opK G n sf l nx (fun v up _=>upK false l nx up fun h'=>k v h') o
structure RunX (P:Program) (G:Gl) (n:Nat) (os:List AOper) (K:SF→Hp→Prop) (sf:SF) (h:Hp):Prop where
 out:∀ Q:List AV→Hp→Prop,(∀ sf hx,K sf hx→∀ h,Hq h hx→Q (sd n sf) h)→∀ h0,Hq h0 h→runS P G os Q (sd n sf) h0
theorem stepX_sound {o:AOp} {sf:SF} {h:Hp} {l:List (Nat × AObj)} {nx:Nat} {k:AV→Hp→Prop} (q:Hq h ⟨l,nx⟩) (hs:stepX P G n sf l nx k o):stepA P G o (sd n sf) h fun v h'=>∃ hy,Hq h' hy∧k v hy:=by
 have ql:Go.Am.lk h.l=Go.Am.lk l:=q.lk
 have qn:h.next=nx:=q.next
 cases o
 case call f args =>
  obtain ⟨fv,h1,hs⟩:=axK_spec hs
  obtain ⟨avs,h2,hs⟩:=valsK_spec hs
  exact ⟨fv,avs,h1,h2,q.callV hs.out⟩
 case eqn ng x =>
  obtain ⟨a,h1,hs⟩:=axK_spec hs
  refine ⟨a,h1,eqnA_mono (fun b hb=>⟨⟨l,nx⟩,⟨ql,qn⟩,?_⟩) hs.out⟩
  cases ng<;>cases b<;>exact hb
 case append sz bytes s x =>
  obtain ⟨a,h1,hs⟩:=axK_spec hs
  obtain ⟨b,h2,hs⟩:=axK_spec hs
  obtain ⟨v,up,up',rd,h3,h4,h5,h6⟩:=hs.out
  obtain ⟨hy,h7,h8⟩:=upK_spec h6 (h0:=h) q
  refine ⟨v,up,rd,by rw [ql,qn];simp [evalA,h1,h2,h3],hy,⟨?_,?_⟩,h8⟩
  ·rw [← h7.lk]
   show Go.Am.lk (puts h.l up)=Go.Am.lk (puts h.l up')
   rw [lk_puts,lk_puts,ql,h4]
  ·rw [← h7.next]
   show (if hasKey up h.next=true then h.next+1 else h.next)=(if hasKey up' h.next=true then h.next+1 else h.next)
   rw [qn,h5]
 all_goals
  simp only [stepX] at hs
  obtain ⟨v,up,rd,h1,h2⟩:=opK_spec hs
  obtain ⟨hy,h3,h4⟩:=upK_spec h2 (h0:=h) q
  exact ⟨v,up,rd,by rw [ql,qn];exact h1,hy,h3,h4⟩
theorem run_nil {K:SF→Hp→Prop} {sf:SF} {h:Hp} (hk:K sf h):RunX P G n [] K sf h:=⟨fun Q hQ h0 q=>hQ sf h hk h0 q⟩
theorem run_cons {d:Option Nat} {op:AOp} {g:Option (Nat × Bool)} {os:List AOper} {K:SF→Hp→Prop} {sf:SF} {l:List (Nat × AObj)} {nx:Nat}
  (hr:guardK n sf g (fun sf=>stepX P G n sf l nx (fun v h'=>putF sf d v fun sf'=>RunX P G n os K sf' h') op) (fun sf=>putF sf d (.tup []) fun sf'=>RunX P G n os K sf' ⟨l,nx⟩)):RunX P G n (⟨d,op,g⟩::os) K sf ⟨l,nx⟩:=by
 refine ⟨fun Q hQ h q=>?_⟩
 have go:∀ {sf:SF} {v:AV} {h hx:Hp},Hq h hx→(putF sf d v fun sf'=>RunX P G n os K sf' hx)→runS P G os Q (setO (sd n sf) d v) h:=fun {sf v h hx} q hp=>by
  obtain ⟨sf',e,hp⟩:=putF_spec (n:=n) hp
  rw [e]
  exact hp.out Q hQ h q
 have step:∀ {sf:SF},(stepX P G n sf l nx (fun v h'=>putF sf d v fun sf'=>RunX P G n os K sf' h') op)→stepA P G op (sd n sf) h fun v h'=>runS P G os Q (setO (sd n sf) d v) h':=fun {sf} hs =>
  stepA_mono (fun v h' ⟨hy,q',hk⟩=>go q' hk) (stepX_sound q hs)
 cases g with
 | none=>exact step hr
 | some tb =>
  obtain ⟨t,b⟩:=tb
  obtain ⟨p,h1,h2,h3⟩:=guardK_spec hr
  refine ⟨p,h1,fun e=>?_,fun e=>?_⟩
  ·obtain ⟨sf',e1,h4⟩:=h2 e
   show stepA P G op (sd n sf) h _
   rw [← e1];exact step h4
  ·obtain ⟨sf',e1,h4⟩:=h3 e
   show runS P G os Q (setO (sd n sf) d (.tup [])) h
   rw [← e1];exact go q h4
def stepQX (P:Program) (G:Gl) (n:Nat) (sf:SF) (l:List (Nat × AObj)) (nx:Nat) (k:AV→Prop) (o:AOp):Prop:=match o with
 | .call f args=>axK G n sf f fun fv=>valsK G n sf args fun avs=>match fv with
  | .fn g fs cs=>QCallX P G g (fs++avs++cs) k
  | _=>False
 | o=>opK G n sf l nx (fun v up _=>match up with
  | []=>k v
  | _=>False) o
structure RunQX (P:Program) (G:Gl) (n:Nat) (os:List AOper) (K:SF→Prop) (sf:SF) (h:Hp):Prop where
 out:∀ (Q:List AV→Hp→Prop) (h0:Hp),(∀ sf,K sf→Q (sd n sf) h0)→Hq h0 h→runQ P G os Q (sd n sf) h0
theorem stepQX_sound {o:AOp} {sf:SF} {h:Hp} {l:List (Nat × AObj)} {nx:Nat} {k:AV→Prop} (q:Hq h ⟨l,nx⟩) (hs:stepQX P G n sf l nx k o):stepQ P G o (sd n sf) h k:=by
 have ql:Go.Am.lk h.l=Go.Am.lk l:=q.lk
 have qn:h.next=nx:=q.next
 cases o
 case call f args =>
  obtain ⟨fv,h1,hs⟩:=axK_spec hs
  obtain ⟨avs,h2,hs⟩:=valsK_spec hs
  cases fv<;>try exact hs.elim
  obtain ⟨r,h3,h4⟩:=hs.out
  exact ⟨_,_,_,avs,r,h1,h2,h3,h4⟩
 all_goals
  simp only [stepQX] at hs
  obtain ⟨v,up,rd,h1,h2⟩:=opK_spec hs
  cases up with
  | cons=>exact h2.elim
  | nil=>exact ⟨v,rd,by rw [ql,qn];exact h1,h2⟩
theorem stepQ_mono {o:AOp} {fr:List AV} {h:Hp} {k k':AV→Prop} (hk:∀ v,k v→k' v) (hs:stepQ P G o fr h k):stepQ P G o fr h k':=by
 cases o
 case call f args=>obtain ⟨g,fs,cs,avs,r,h1,h2,h3,h4⟩:=hs;exact ⟨g,fs,cs,avs,r,h1,h2,h3,hk _ h4⟩
 all_goals (obtain ⟨v,rd,h1,h2⟩:=hs;exact ⟨v,rd,h1,hk _ h2⟩)
theorem runq_nil {K:SF→Prop} {sf:SF} {h:Hp} (hk:K sf):RunQX P G n [] K sf h:=⟨fun Q h0 hQ q=>hQ sf hk⟩
theorem guardD_of {fr:List AV} {o:AOper} {A B:Prop} {t:Nat} {b:Bool} (hg:o.guard=some (t,b)) (h:∃ p,(fr[t]?).bind gval=some p∧(p=some b→A)∧(p ≠ some b→B)):guardD o fr A B:=by
 unfold guardD;rw [hg];exact h
theorem guardD_none {fr:List AV} {o:AOper} {A B:Prop} (hg:o.guard=none) (h:A):guardD o fr A B:=by
 unfold guardD;rw [hg];exact h
theorem runq_cons {d:Option Nat} {op:AOp} {g:Option (Nat × Bool)} {os:List AOper} {K:SF→Prop} {sf:SF} {l:List (Nat × AObj)} {nx:Nat}
  (hr:guardK n sf g (fun sf=>stepQX P G n sf l nx (fun v=>putF sf d v fun sf'=>RunQX P G n os K sf' ⟨l,nx⟩) op) (fun sf=>putF sf d (.tup []) fun sf'=>RunQX P G n os K sf' ⟨l,nx⟩)):RunQX P G n (⟨d,op,g⟩::os) K sf ⟨l,nx⟩:=by
 refine ⟨fun Q h hQ q=>?_⟩
 have go:∀ {sf:SF} {v:AV},(putF sf d v fun sf'=>RunQX P G n os K sf' ⟨l,nx⟩)→runQ P G os Q (setO (sd n sf) d v) h:=fun {sf v} hp=>by
  obtain ⟨sf',e,hp⟩:=putF_spec (n:=n) hp
  rw [e]
  exact hp.out Q h hQ q
 have step:∀ {sf:SF},(stepQX P G n sf l nx (fun v=>putF sf d v fun sf'=>RunQX P G n os K sf' ⟨l,nx⟩) op)→stepQ P G op (sd n sf) h fun v=>runQ P G os Q (setO (sd n sf) d v) h:=fun {sf} hs =>
  stepQ_mono (fun v hk=>go hk) (stepQX_sound q hs)
 cases g with
 | none=>exact guardD_none rfl (step hr)
 | some tb =>
  obtain ⟨t,b⟩:=tb
  obtain ⟨p,h1,h2,h3⟩:=guardK_spec hr
  refine guardD_of rfl ⟨p,h1,fun e=>?_,fun e=>?_⟩
  ·obtain ⟨sf',e1,h4⟩:=h2 e
   rw [← e1];exact step h4
  ·obtain ⟨sf',e1,h4⟩:=h3 e
   rw [← e1];exact go h4
def stepDX (P:Program) (G:Gl) (n:Nat) (sf:SF) (l:List (Nat × AObj)) (nx:Nat) (k:AV→Up→List Nat→Hp→Prop) (o:AOp):Prop:=match o with
 | .call f args=>axK G n sf f fun fv=>valsK G n sf args fun avs=>match fv with
  | .fn g fs cs=>DCallX P G g (fs++avs++cs) ⟨l,nx⟩ fun r up rd=>upK true l nx up fun h'=>k r up rd h'
  | _=>False
 | o=>opK G n sf l nx (fun v up rd=>upK true l nx up fun h'=>k v up rd h') o
structure RunDX (P:Program) (G:Gl) (n:Nat) (anc:List (List Nat)) (np:Nat) (os:List AOper) (k b:Nat) (log:List Ent) (K:SF→Hp→Prop) (sf:SF) (h:Hp):Prop where
 out:∀ Q:List AV→Hp→Prop,(∀ sf hx,K sf hx→∀ h,Hq h hx→Q (sd n sf) h)→∀ h0,Hq h0 h→runD P G anc np os k b log Q (sd n sf) h0
theorem stepDX_sound {o:AOp} {sf:SF} {h:Hp} {l:List (Nat × AObj)} {nx:Nat} {k:AV→Up→List Nat→Hp→Prop} (q:Hq h ⟨l,nx⟩) (hs:stepDX P G n sf l nx k o):∃ v up rd hy,StepD P G o (sd n sf) (lk h.l) h.next v up rd∧Hq (h.appD up) hy∧k v up rd hy:=by
 have ql:Go.Am.lk h.l=Go.Am.lk l:=q.lk
 have qn:h.next=nx:=q.next
 cases o
 case call f args =>
  obtain ⟨fv,h1,hs⟩:=axK_spec hs
  obtain ⟨avs,h2,hs⟩:=valsK_spec hs
  cases fv<;>try exact hs.elim
  obtain ⟨r,up,rd,h3,h4⟩:=hs.out
  obtain ⟨hy,h5,h6⟩:=upK_specD h4 (h0:=h) q
  exact ⟨r,up,rd,hy,⟨_,_,_,avs,h1,h2,by rw [ql,qn];exact h3⟩,h5,h6⟩
 all_goals
  simp only [stepDX] at hs
  obtain ⟨v,up,rd,h1,h2⟩:=opK_spec hs
  obtain ⟨hy,h3,h4⟩:=upK_specD h2 (h0:=h) q
  exact ⟨v,up,rd,hy,by rw [ql,qn];exact h1,h3,h4⟩
theorem rund_nil {anc:List (List Nat)} {np k b:Nat} {log:List Ent} {K:SF→Hp→Prop} {sf:SF} {h:Hp} (hc:ChkX (chk anc b log) (K sf h)):RunDX P G n anc np [] k b log K sf h:=⟨fun Q hQ h0 q=>⟨hc.ok,hQ sf h hc.out h0 q⟩⟩
section
variable {anc:List (List Nat)} {np k b:Nat} {log:List Ent} {d:Option Nat} {op:AOp} {g:Option (Nat × Bool)} {os:List AOper} {K:SF→Hp→Prop} {sf:SF} {l:List (Nat × AObj)} {nx:Nat}
theorem rund_slow (hc:(op.isCall && pivot anc np k)=false)
  (hr:guardK n sf g (fun sf=>stepDX P G n sf l nx (fun v up rd h'=>putF sf d v fun sf'=>RunDX P G n anc np os (k+1) b (log++[entOf ⟨d,op,g⟩ true up rd]) K sf' h') op) (fun sf=>putF sf d (.tup []) fun sf'=>RunDX P G n anc np os (k+1) b (log++[entOf ⟨d,op,g⟩ false [] []]) K sf' ⟨l,nx+1⟩)):RunDX P G n anc np (⟨d,op,g⟩::os) k b log K sf ⟨l,nx⟩:=by
 refine ⟨fun Q hQ h q=>?_⟩
 have go:∀ {sf:SF} {v:AV} {h hx:Hp} {log:List Ent},Hq h hx→(putF sf d v fun sf'=>RunDX P G n anc np os (k+1) b log K sf' hx)→runD P G anc np os (k+1) b log Q (setO (sd n sf) d v) h:=fun {sf v h hx log} q hp=>by
  obtain ⟨sf',e,hp⟩:=putF_spec (n:=n) hp
  rw [e]
  exact hp.out Q hQ h q
 have q1:Hq (h.appD []) ⟨l,nx+1⟩:=⟨q.lk,by show h.next+1=_;rw [q.next]⟩
 show (if (op.isCall && pivot anc np k)=true then _ else _)
 rw [if_neg (by simp [hc])]
 cases g with
 | none =>
  simp only [guardK] at hr
  obtain ⟨v,up,rd,hy,k1,k2,k3⟩:=stepDX_sound q hr
  exact guardD_none rfl ⟨v,up,rd,k1,go k2 k3⟩
 | some tb =>
  obtain ⟨t,w⟩:=tb
  obtain ⟨p,h1,h2,h3⟩:=guardK_spec hr
  refine guardD_of rfl ⟨p,h1,fun e=>?_,fun e=>?_⟩
  ·obtain ⟨sf',e1,h4⟩:=h2 e
   obtain ⟨v,up,rd,hy,k1,k2,k3⟩:=stepDX_sound q h4
   rw [← e1]
   exact ⟨v,up,rd,k1,go k2 k3⟩
  ·obtain ⟨sf',e1,h4⟩:=h3 e
   rw [← e1]
   exact go q1 h4
theorem rund_op (hc:op.isCall=false)
  (hr:guardK n sf g (fun sf=>stepDX P G n sf l nx (fun v up rd h'=>putF sf d v fun sf'=>RunDX P G n anc np os (k+1) b (log++[entOf ⟨d,op,g⟩ true up rd]) K sf' h') op) (fun sf=>putF sf d (.tup []) fun sf'=>RunDX P G n anc np os (k+1) b (log++[entOf ⟨d,op,g⟩ false [] []]) K sf' ⟨l,nx+1⟩)):RunDX P G n anc np (⟨d,op,g⟩::os) k b log K sf ⟨l,nx⟩:=rund_slow (by rw [hc];rfl) hr
theorem rund_fast (hc:(op.isCall && pivot anc np k)=true)
  (hr:ChkX (chk anc b log) (guardK n sf g (fun sf=>stepX P G n sf l nx (fun v h'=>putF sf d v fun sf'=>RunDX P G n anc np os (k+1) (k+1) [] K sf' h') op) (fun sf=>putF sf d (.tup []) fun sf'=>RunDX P G n anc np os (k+1) (k+1) [] K sf' ⟨l,nx⟩))):RunDX P G n anc np (⟨d,op,g⟩::os) k b log K sf ⟨l,nx⟩:=by
 refine ⟨fun Q hQ h q=>?_⟩
 have go:∀ {sf:SF} {v:AV} {h hx:Hp},Hq h hx→(putF sf d v fun sf'=>RunDX P G n anc np os (k+1) (k+1) [] K sf' hx)→runD P G anc np os (k+1) (k+1) [] Q (setO (sd n sf) d v) h:=fun {sf v h hx} q hp=>by
  obtain ⟨sf',e,hp⟩:=putF_spec (n:=n) hp
  rw [e]
  exact hp.out Q hQ h q
 show (if (op.isCall && pivot anc np k)=true then _ else _)
 rw [if_pos hc]
 refine ⟨hr.ok,?_⟩
 have hs:=hr.out
 have step:∀ {sf:SF},(stepX P G n sf l nx (fun v h'=>putF sf d v fun sf'=>RunDX P G n anc np os (k+1) (k+1) [] K sf' h') op)→stepA P G op (sd n sf) h fun v h'=>runD P G anc np os (k+1) (k+1) [] Q (setO (sd n sf) d v) h':=fun {sf} hs =>
  stepA_mono (fun v h' ⟨hy,q',hk⟩=>go q' hk) (stepX_sound q hs)
 cases g with
 | none=>exact guardD_none rfl (step hs)
 | some tb =>
  obtain ⟨t,w⟩:=tb
  obtain ⟨p,h1,h2,h3⟩:=guardK_spec hs
  refine guardD_of rfl ⟨p,h1,fun e=>?_,fun e=>?_⟩
  ·obtain ⟨sf',e1,h4⟩:=h2 e
   rw [← e1];exact step h4
  ·obtain ⟨sf',e1,h4⟩:=h3 e
   rw [← e1];exact go q h4
end
structure CodeX (P:Program) (G:Gl) (rd:Option Nat) (N n:Nat) (c:ACode) (K:Exit→SF→Hp→Prop) (sf:SF) (h:Hp):Prop where
 out:∀ Q:Exit→List AV→Hp→Prop,(∀ e sf hx,K e sf hx→∀ h,Hq h hx→Q e (sd n sf) h)→∀ h1,Hq h1 h→wpc P G rd N c Q (sd n sf) h1
structure RangeX (P:Program) (G:Gl) (rd:Option Nat) (n:Nat) (fv:AV) (ps:List Nat) (as bd:ACode) (K:Exit→SF→Hp→Prop) (sf:SF) (h:Hp):Prop where
 out:∃ g fs cs,fv = .fn g fs cs∧fnOk P g=true∧inLoop h rd∧∀ Q:Exit→List AV→Hp→Prop,(∀ e sf hx,K e sf hx→∀ h,Hq h hx→Q e (sd n sf) h) →
  CallV P G (.fn g fs cs) [.yld h.next] ⟨(h.next,.loop .ready none (sd n sf) ps as bd)::h.l,h.next+1⟩ fun _ h2=>rangeQ h.next (sd n sf) Q h2
def thenK (w:SF→Hp→Prop) (K:Exit→SF→Hp→Prop) (e:Exit) (sf:SF) (h:Hp):Prop:=match e with
 | .normal=>w sf h
 | e=>K e sf h
def blockK (id:Nat) (K:Exit→SF→Hp→Prop) (e:Exit) (sf:SF) (h:Hp):Prop:=match e with
 | .exit j=>bif Nat.beq j id then K .normal sf h else K (.exit j) sf h
 | e=>K e sf h
section
variable {rd:Option Nat} {N:Nat} {K:Exit→SF→Hp→Prop} {sf:SF} {h:Hp}
theorem code_skip (hk:K .normal sf h):CodeX P G rd N n .skip K sf h:=⟨fun Q hQ h1 q=>hQ _ _ _ hk _ q⟩
theorem code_exit {id:Nat} (hk:K (.exit id) sf h):CodeX P G rd N n (.exit id) K sf h:=⟨fun Q hQ h1 q=>hQ _ _ _ hk _ q⟩
theorem code_ret (hk:K .ret sf h):CodeX P G rd N n .ret K sf h:=⟨fun Q hQ h1 q=>hQ _ _ _ hk _ q⟩
theorem code_reg {ops:List AOper} (hr:RunX P G n ops (K .normal) sf h):CodeX P G rd N n (.reg ops) K sf h:=⟨fun Q hQ h1 q=>hr.out _ (hQ .normal) h1 q⟩
theorem code_q {ops:List AOper} {pre:List (List Nat)} {l:List (Nat × AObj)} {nx m:Nat} (hq:quietReg ops pre=some m) (hr:RunQX P G n ops (fun sf=>K .normal sf ⟨l,nx+m⟩) sf ⟨l,nx⟩):CodeX P G rd N n (.regD ops pre) K sf ⟨l,nx⟩:=by
 refine ⟨fun Q hQ h1 q=>regD_quiet hq (hr.out _ h1 (fun sf' hk=>?_) q)⟩
 exact hQ .normal sf' _ hk ⟨h1.l,h1.next+m⟩ ⟨q.lk,by simp only [q.next]⟩
theorem code_d {ops:List AOper} {pre:List (List Nat)} (ho:ordOk pre 0=true) (hr:RunDX P G n (ancs pre) pre.length ops 0 0 [] (K .normal) sf h):CodeX P G rd N n (.regD ops pre) K sf h:=⟨fun Q hQ h1 q=>⟨ho,hr.out _ (hQ .normal) h1 q⟩⟩
theorem code_seq {a b:ACode} (ha:CodeX P G rd N n a (thenK (CodeX P G rd N n b K) K) sf h):CodeX P G rd N n (.seq a b) K sf h:=by
 refine ⟨fun Q hQ h1 q=>ha.out _ (fun e sf' hx' hk h' q'=>?_) h1 q⟩
 cases e<;>first|exact hk.out Q hQ h' q'|exact hQ _ _ _ hk _ q'
theorem code_cond {c:AX} {a b:ACode} (hc:axK G n sf c fun v=>match v with
  | .bool t=>BrX t (CodeX P G rd N n a K sf h) (CodeX P G rd N n b K sf h)
  | _=>False):CodeX P G rd N n (.cond c a b) K sf h:=by
 refine ⟨fun Q hQ h1 q=>?_⟩
 obtain ⟨v,h2,h⟩:=axK_spec hc
 cases v<;>try exact h.elim
 obtain ⟨h3,h4⟩:=brK_spec h
 exact ⟨_,h2,fun e=>(h3 e).out Q hQ h1 q,fun e=>(h4 e).out Q hQ h1 q⟩
theorem code_block {id:Nat} {c:ACode} (hc:CodeX P G rd N n c (blockK id K) sf h):CodeX P G rd N n (.block id c) K sf h:=by
 refine ⟨fun Q hQ h1 q=>hc.out _ (fun e sf' hx' hk h' q'=>?_) h1 q⟩
 cases e<;>try exact hQ _ _ _ hk _ q'
 rename_i j
 simp only [blockK] at hk
 simp only [blockQ]
 cases e:Nat.beq j id with
 | true=>rw [e] at hk;rw [if_pos (beq_eq e)];exact hQ _ _ _ hk _ q'
 | false=>rw [e] at hk;rw [if_neg (beq_ne e)];exact hQ _ _ _ hk _ q'
theorem code_range {f:AX} {ps:List Nat} {a b:ACode} (hc:axK G n sf f fun fv=>RangeX P G rd n fv ps a b K sf h):CodeX P G rd N n (.rangeF f ps a b) K sf h:=by
 refine ⟨fun Q hQ h1 q=>?_⟩
 obtain ⟨v,h2,hh⟩:=axK_spec hc
 obtain ⟨g,fs,cs,rfl,h3,h4,h5⟩:=hh.out
 refine ⟨g,fs,cs,h2,h3,?_,?_⟩
 ·cases rd with
  | none=>trivial
  | some l=>obtain ⟨st,pend,fr,ps,as,bd,e⟩:=h4;exact ⟨st,pend,fr,ps,as,bd,by rw [q.lk];exact e⟩
 ·have:=h5 Q hQ
  rw [← q.next] at this
  have e:Hq ⟨put h1.l h1.next (some (.loop .ready none (sd n sf) ps a b)),h1.next+1⟩ ⟨(h1.next,.loop .ready none (sd n sf) ps a b)::h.l,h1.next+1⟩:=⟨by
   show Go.Am.lk (put h1.l h1.next (some (.loop .ready none (sd n sf) ps a b)))=Go.Am.lk ((h1.next,.loop .ready none (sd n sf) ps a b)::h.l)
   rw [lk_put]
   funext j
   simp only [upd,Go.Am.lk,q.lk],rfl⟩
  exact e.callV this
end
end
end Go.Am
