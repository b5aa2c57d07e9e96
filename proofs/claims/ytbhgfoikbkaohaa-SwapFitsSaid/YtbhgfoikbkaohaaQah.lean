/-
 A quicker walk,second part: regions and code;that it is sound. No program in sight.
 A quicker walk,third part: its laws: entries and ends,loops,calls,appending,what may be forgotten. No program in sight.
 A quicker walk,fourth part: calls by contracts over a store of their own;ranges over functions,and their rounds. No program in sight.
-/
import Derived.Test.YtbhgfoikbkaohaaAmWx
set_option linter.unusedSimpArgs false
set_option linter.unusedVariables false
namespace Go.Am
structure Hq (h hx:Hp):Prop where
 lk:lk h.l=lk hx.l
 next:h.next=hx.next
theorem Hq.refl {h:Hp}:Hq h h:=⟨rfl,rfl⟩
theorem Hq.symm {h hx:Hp} (q:Hq h hx):Hq hx h:=⟨q.1.symm,q.2.symm⟩
theorem Hq.mat {c:Cx} {h hx:Hp} (q:Hq h hx) (m:Mat c h):Mat c hx:=⟨by rw [m.at_,q.lk],fun i=>by rw [m.U,q.next]⟩
theorem Hq.weak {P:Program} {σ:Nat→Nat} {fr fr':List AV} {h hx h':Hp} (q:Hq h hx) (w:Weak P σ fr hx fr' h'):Weak P σ fr h fr' h':=fun c tmps hR hm hF=>by
 obtain ⟨h1,h2,h3⟩:=w c tmps hR (q.mat hm) hF
 exact ⟨h1,h2,fun i o hi=>by rw [q.lk];exact h3 i o hi⟩
theorem Hq.callV {P:Program} {G:Gl} {fv:AV} {avs:List AV} {h hx:Hp} {K:AV→Hp→Prop} (q:Hq h hx) (c:AX3 P G fv avs hx K):AX3 P G fv avs h K:=fun cx u vs hR hG hm=>c cx u vs hR hG (q.mat hm)
def repK:List (Nat × AObj)→Nat→AObj→(List (Nat × AObj)→Prop)→Prop
 | [],i,o,k=>k [(i,o)]
 | (j,p)::r,i,o,k=>bif Nat.beq i j then k ((i,o)::r) else repK r i o fun r'=>k ((j,p)::r')
def delK:List (Nat × AObj)→Nat→(List (Nat × AObj)→Prop)→Prop
 | [],_,k=>k []
 | (j,p)::r,i,k=>bif Nat.beq i j then delK r i k else delK r i fun r'=>k ((j,p)::r')
def putK (nx:Nat) (l:List (Nat × AObj)) (i:Nat) (o:Option AObj) (k:List (Nat × AObj)→Prop):Prop:=match o with
 | some o=>bif Nat.beq i nx then k ((i,o)::l) else repK l i o k
 | none=>delK l i k
theorem AI2 {o:AObj}:∀ {l:List (Nat × AObj)} {i:Nat} {k:List (Nat × AObj)→Prop},repK l i o k→∃ l',lk l'=upd (lk l) [(i,some o)]∧k l'
 | [],i,k,h=>⟨_,by funext j;simp [lk,upd],h⟩
 | (j,p)::r,i,k,h=>by
  simp only [repK] at h
  cases e:Nat.beq i j with
  | true =>
   rw [e] at h
   refine ⟨_,?_,h⟩
   have:=beq_eq e
   subst this
   funext q
   simp only [lk,upd]
   by_cases hq:q=i<;>simp [hq]
  | false =>
   rw [e] at h
   obtain ⟨l',h1,h2⟩:=AI2 (l:=r) h
   refine ⟨_,?_,h2⟩
   have hne:=Ah9 e
   funext q
   have:=congrFun h1 q
   simp only [lk,upd] at this ⊢
   rw [this]
   by_cases hq:q=i
   ·subst hq;simp [hne]
   ·simp [hq]
theorem Ad4:∀ {l:List (Nat × AObj)} {i:Nat} {k:List (Nat × AObj)→Prop},delK l i k→∃ l',lk l'=upd (lk l) [(i,none)]∧k l'
 | [],i,k,h=>⟨_,by funext j;simp [lk,upd],h⟩
 | (j,p)::r,i,k,h=>by
  simp only [delK] at h
  cases e:Nat.beq i j with
  | true =>
   rw [e] at h
   obtain ⟨l',h1,h2⟩:=Ad4 (l:=r) h
   refine ⟨_,?_,h2⟩
   have:=beq_eq e
   subst this
   funext q
   have:=congrFun h1 q
   simp only [lk,upd] at this ⊢
   rw [this]
   by_cases hq:q=i<;>simp [hq]
  | false =>
   rw [e] at h
   obtain ⟨l',h1,h2⟩:=Ad4 (l:=r) h
   refine ⟨_,?_,h2⟩
   have hne:=Ah9 e
   funext q
   have:=congrFun h1 q
   simp only [lk,upd] at this ⊢
   rw [this]
   by_cases hq:q=i
   ·subst hq;simp [hne]
   ·simp [hq]
theorem BU2 {nx i:Nat} {o:Option AObj} {l:List (Nat × AObj)} {k:List (Nat × AObj)→Prop} (h:putK nx l i o k):∃ l',lk l'=upd (lk l) [(i,o)]∧k l':=by
 cases o with
 | none=>exact Ad4 h
 | some o =>
  simp only [putK] at h
  cases e:Nat.beq i nx with
  | true=>rw [e] at h;exact ⟨_,by funext q;simp [lk,upd],h⟩
  | false=>rw [e] at h;exact AI2 h
def putsK (nx:Nat) (l:List (Nat × AObj)):Up→(List (Nat × AObj)→Prop)→Prop
 | [],k=>k l
 | (i,o)::r,k=>putsK nx l r fun l'=>putK nx l' i o k
theorem AS7 {nx:Nat} {l:List (Nat × AObj)}:∀ {up:Up} {k:List (Nat × AObj)→Prop},putsK nx l up k→∃ l',lk l'=upd (lk l) up∧k l'
 | [],k,h=>⟨l,rfl,h⟩
 | (i,o)::r,k,h=>by
  obtain ⟨l1,h1,h2⟩:=AS7 (up:=r) h
  obtain ⟨l2,h3,h4⟩:=BU2 h2
  refine ⟨l2,?_,h4⟩
  rw [h3]
  funext q
  simp only [upd,h1]
def upK (D:Bool) (l:List (Nat × AObj)) (nx:Nat) (up:Up) (k:Hp→Prop):Prop:=putsK nx l up fun l'=>match D with
 | true=>k ⟨l',nx+1⟩
 | false=>bif AJ2 up nx then k ⟨l',nx+1⟩ else k ⟨l',nx⟩
theorem BC6 {l:List (Nat × AObj)} {nx:Nat} {up:Up} {k:Hp→Prop} (h:upK false l nx up k) {h0:Hp} (q:Hq h0 ⟨l,nx⟩):∃ hx,Hq (h0.app up) hx∧k hx:=by
 obtain ⟨l',h1,h2⟩:=AS7 h
 obtain ⟨l0,n0⟩:=h0
 obtain ⟨q1,q2⟩:=q
 simp only at q1 q2
 subst q2
 simp only at h2
 cases e:AJ2 up n0 with
 | true=>rw [e] at h2;exact ⟨_,⟨by simp only [Hp.app,AG3,q1,h1],by simp [Hp.app,e]⟩,h2⟩
 | false=>rw [e] at h2;exact ⟨_,⟨by simp only [Hp.app,AG3,q1,h1],by simp [Hp.app,e]⟩,h2⟩
theorem Ap2 {l:List (Nat × AObj)} {nx:Nat} {up:Up} {k:Hp→Prop} (h:upK true l nx up k) {h0:Hp} (q:Hq h0 ⟨l,nx⟩):∃ hx,Hq (h0.appD up) hx∧k hx:=by
 obtain ⟨l',h1,h2⟩:=AS7 h
 obtain ⟨l0,n0⟩:=h0
 obtain ⟨q1,q2⟩:=q
 simp only at q1 q2
 subst q2
 exact ⟨⟨l',n0+1⟩,⟨by simp only [Hp.appD,AG3,q1,h1],rfl⟩,h2⟩
def AW7 (n:Nat) (sf:SF) (g:Option (Nat × Bool)) (A B:SF→Prop):Prop:=match g with
 | none=>A sf
 | some (t,b)=>bif Nat.blt t n then AT1 sf t fun v=>match v with
  | .bool p=>BrX p (match b with
   | true=>A ((t,.bool true)::sf)
   | false=>B ((t,.bool true)::sf)) (match b with
   | true=>B ((t,.bool false)::sf)
   | false=>A ((t,.bool false)::sf))
  | .tup _=>B sf
  | _=>False else False
theorem AP8 {sf:SF} {t:Nat} {n:Nat} {v:AV} (h:AL2 sf t=v):sd n ((t,v)::sf)=sd n sf:=by
 subst h
 apply List.ext_getElem?
 intro j
 rw [AH4,AH4,Q8]
 by_cases e:t=j
 ·subst e;simp
 ·rw [if_neg e]
theorem AG5 {n:Nat} {sf:SF} {t:Nat} {b:Bool} {A B:SF→Prop} (h:AW7 n sf (some (t,b)) A B):∃ p,((sd n sf)[t]?).bind gval=some p∧(p=some b→∃ sf',sd n sf'=sd n sf∧A sf')∧(p ≠ some b→∃ sf',sd n sf'=sd n sf∧B sf'):=by
 simp only [AW7] at h
 cases e:Nat.blt t n with
 | false=>rw [e] at h;exact h.elim
 | true =>
  rw [e] at h
  have h:=V5 h
  rw [AH4,if_pos (Ah8 e)]
  generalize hv:AL2 sf t=v at h
  cases v<;>try exact h.elim
  ·rename_i p
   obtain ⟨h1,h2⟩:=Z6 h
   refine ⟨some p,rfl,fun ep=>?_,fun ep=>?_⟩
   ·obtain rfl:p=b:=by simpa using ep
    cases p
    ·exact ⟨_,AP8 hv,h2 rfl⟩
    ·exact ⟨_,AP8 hv,h1 rfl⟩
   ·cases p<;>cases b<;>first|exact absurd rfl ep|exact ⟨_,AP8 hv,h2 rfl⟩|exact ⟨_,AP8 hv,h1 rfl⟩
  ·exact ⟨none,rfl,fun ep=>(by cases ep),fun _=>⟨sf,rfl,h⟩⟩
structure AH3 (P:Program) (G:Gl) (fv:AV) (avs:List AV) (h:Hp) (K:AV→Hp→Prop):Prop where
 out:AX3 P G fv avs h fun v h'=>∃ hx,Hq h' hx∧K v hx
structure AN9 (P:Program) (G:Gl) (g:Nat) (avs:List AV) (h:Hp) (K:AV→Up→List Nat→Prop):Prop where
 out:∃ r up rd,FnU P G g avs rd (lk h.l) r up h.next∧K r up rd
structure QCallX (P:Program) (G:Gl) (g:Nat) (avs:List AV) (K:AV→Prop):Prop where
 out:∃ r,AV0 P G g avs r∧K r
section
variable {P:Program} {G:Gl} {n:Nat}
structure AppSX (l:List (Nat × AObj)) (nx sz bytes:Nat) (s x:AV) (k:AV→Up→Prop):Prop where
 out:∃ v up up' rd,Aw2 (lk l) nx sz bytes s x=some (v,up,rd)∧upd (lk l) up=upd (lk l) up'∧AJ2 up nx=AJ2 up' nx∧k v up'
structure EqnX (a:AV) (K:Bool→Prop):Prop where
 out:eqnA a K
def BJ9 (P:Program) (G:Gl) (n:Nat) (sf:SF) (l:List (Nat × AObj)) (nx:Nat) (k:AV→Hp→Prop) (o:AOp):Prop:=match o with
 | .call f args=>axK G n sf f fun fv=>Ap0 G n sf args fun avs=>AH3 P G fv avs ⟨l,nx⟩ k
 | .append sz bytes s x=>axK G n sf s fun s=>axK G n sf x fun x=>AppSX l nx sz bytes s x fun v up=>upK false l nx up fun h'=>k v h'
 | .eqn ng x=>axK G n sf x fun a=>EqnX a fun b=>ngK ng b fun v=>k v ⟨l,nx⟩
 | o=>opK G n sf l nx (fun v up _=>upK false l nx up fun h'=>k v h') o
structure RunX (P:Program) (G:Gl) (n:Nat) (os:List F8) (K:SF→Hp→Prop) (sf:SF) (h:Hp):Prop where
 out:∀ Q:List AV→Hp→Prop,(∀ sf hx,K sf hx→∀ h,Hq h hx→Q (sd n sf) h)→∀ h0,Hq h0 h→Aw0 P G os Q (sd n sf) h0
theorem Aa4 {o:AOp} {sf:SF} {h:Hp} {l:List (Nat × AObj)} {nx:Nat} {k:AV→Hp→Prop} (q:Hq h ⟨l,nx⟩) (hs:BJ9 P G n sf l nx k o):AS1 P G o (sd n sf) h fun v h'=>∃ hy,Hq h' hy∧k v hy:=by
 have ql:Go.Am.lk h.l=Go.Am.lk l:=q.lk
 have qn:h.next=nx:=q.next
 cases o
 case call f args =>
  obtain ⟨fv,h1,hs⟩:=C9 hs
  obtain ⟨avs,h2,hs⟩:=Y5 hs
  exact ⟨fv,avs,h1,h2,q.callV hs.out⟩
 case eqn ng x =>
  obtain ⟨a,h1,hs⟩:=C9 hs
  refine ⟨a,h1,At6 (fun b hb=>⟨⟨l,nx⟩,⟨ql,qn⟩,?_⟩) hs.out⟩
  cases ng<;>cases b<;>exact hb
 case append sz bytes s x =>
  obtain ⟨a,h1,hs⟩:=C9 hs
  obtain ⟨b,h2,hs⟩:=C9 hs
  obtain ⟨v,up,up',rd,h3,h4,h5,h6⟩:=hs.out
  obtain ⟨hy,h7,h8⟩:=BC6 h6 (h0:=h) q
  refine ⟨v,up,rd,by rw [ql,qn];simp [E5,h1,h2,h3],hy,⟨?_,?_⟩,h8⟩
  ·rw [← h7.lk]
   show Go.Am.lk (puts h.l up)=Go.Am.lk (puts h.l up')
   rw [AG3,AG3,ql,h4]
  ·rw [← h7.next]
   show (if AJ2 up h.next=true then h.next+1 else h.next)=(if AJ2 up' h.next=true then h.next+1 else h.next)
   rw [qn,h5]
 all_goals
  simp only [BJ9] at hs
  obtain ⟨v,up,rd,h1,h2⟩:=Ak4 hs
  obtain ⟨hy,h3,h4⟩:=BC6 h2 (h0:=h) q
  exact ⟨v,up,rd,by rw [ql,qn];exact h1,hy,h3,h4⟩
theorem R3 {K:SF→Hp→Prop} {sf:SF} {h:Hp} (hk:K sf h):RunX P G n [] K sf h:=⟨fun Q hQ h0 q=>hQ sf h hk h0 q⟩
theorem M7 {d:Option Nat} {op:AOp} {g:Option (Nat × Bool)} {os:List F8} {K:SF→Hp→Prop} {sf:SF} {l:List (Nat × AObj)} {nx:Nat}
  (hr:AW7 n sf g (fun sf=>BJ9 P G n sf l nx (fun v h'=>Ao3 sf d v fun sf'=>RunX P G n os K sf' h') op) (fun sf=>Ao3 sf d (.tup []) fun sf'=>RunX P G n os K sf' ⟨l,nx⟩)):RunX P G n (⟨d,op,g⟩::os) K sf ⟨l,nx⟩:=by
 refine ⟨fun Q hQ h q=>?_⟩
 have go:∀ {sf:SF} {v:AV} {h hx:Hp},Hq h hx→(Ao3 sf d v fun sf'=>RunX P G n os K sf' hx)→Aw0 P G os Q (Y1 (sd n sf) d v) h:=fun {sf v h hx} q hp=>by
  obtain ⟨sf',e,hp⟩:=AQ1 (n:=n) hp
  rw [e]
  exact hp.out Q hQ h q
 have step:∀ {sf:SF},(BJ9 P G n sf l nx (fun v h'=>Ao3 sf d v fun sf'=>RunX P G n os K sf' h') op)→AS1 P G op (sd n sf) h fun v h'=>Aw0 P G os Q (Y1 (sd n sf) d v) h':=fun {sf} hs =>
  AD8 (fun v h' ⟨hy,q',hk⟩=>go q' hk) (Aa4 q hs)
 cases g with
 | none=>exact step hr
 | some tb =>
  obtain ⟨t,b⟩:=tb
  obtain ⟨p,h1,h2,h3⟩:=AG5 hr
  refine ⟨p,h1,fun e=>?_,fun e=>?_⟩
  ·obtain ⟨sf',e1,h4⟩:=h2 e
   show AS1 P G op (sd n sf) h _
   rw [← e1];exact step h4
  ·obtain ⟨sf',e1,h4⟩:=h3 e
   show Aw0 P G os Q (Y1 (sd n sf) d (.tup [])) h
   rw [← e1];exact go q h4
def BD0 (P:Program) (G:Gl) (n:Nat) (sf:SF) (l:List (Nat × AObj)) (nx:Nat) (k:AV→Prop) (o:AOp):Prop:=match o with
 | .call f args=>axK G n sf f fun fv=>Ap0 G n sf args fun avs=>match fv with
  | .fn g fs cs=>QCallX P G g (fs++avs++cs) k
  | _=>False
 | o=>opK G n sf l nx (fun v up _=>match up with
  | []=>k v
  | _=>False) o
structure BB8 (P:Program) (G:Gl) (n:Nat) (os:List F8) (K:SF→Prop) (sf:SF) (h:Hp):Prop where
 out:∀ (Q:List AV→Hp→Prop) (h0:Hp),(∀ sf,K sf→Q (sd n sf) h0)→Hq h0 h→BD8 P G os Q (sd n sf) h0
theorem Ap4 {o:AOp} {sf:SF} {h:Hp} {l:List (Nat × AObj)} {nx:Nat} {k:AV→Prop} (q:Hq h ⟨l,nx⟩) (hs:BD0 P G n sf l nx k o):Ax2 P G o (sd n sf) h k:=by
 have ql:Go.Am.lk h.l=Go.Am.lk l:=q.lk
 have qn:h.next=nx:=q.next
 cases o
 case call f args =>
  obtain ⟨fv,h1,hs⟩:=C9 hs
  obtain ⟨avs,h2,hs⟩:=Y5 hs
  cases fv<;>try exact hs.elim
  obtain ⟨r,h3,h4⟩:=hs.out
  exact ⟨_,_,_,avs,r,h1,h2,h3,h4⟩
 all_goals
  simp only [BD0] at hs
  obtain ⟨v,up,rd,h1,h2⟩:=Ak4 hs
  cases up with
  | cons=>exact h2.elim
  | nil=>exact ⟨v,rd,by rw [ql,qn];exact h1,h2⟩
theorem BK0 {o:AOp} {fr:List AV} {h:Hp} {k k':AV→Prop} (hk:∀ v,k v→k' v) (hs:Ax2 P G o fr h k):Ax2 P G o fr h k':=by
 cases o
 case call f args=>obtain ⟨g,fs,cs,avs,r,h1,h2,h3,h4⟩:=hs;exact ⟨g,fs,cs,avs,r,h1,h2,h3,hk _ h4⟩
 all_goals (obtain ⟨v,rd,h1,h2⟩:=hs;exact ⟨v,rd,h1,hk _ h2⟩)
theorem M5 {K:SF→Prop} {sf:SF} {h:Hp} (hk:K sf):BB8 P G n [] K sf h:=⟨fun Q h0 hQ q=>hQ sf hk⟩
theorem Ac4 {fr:List AV} {o:F8} {A B:Prop} {t:Nat} {b:Bool} (hg:o.guard=some (t,b)) (h:∃ p,(fr[t]?).bind gval=some p∧(p=some b→A)∧(p ≠ some b→B)):o8 o fr A B:=by
 unfold o8;rw [hg];exact h
theorem AO9 {fr:List AV} {o:F8} {A B:Prop} (hg:o.guard=none) (h:A):o8 o fr A B:=by
 unfold o8;rw [hg];exact h
theorem I8 {d:Option Nat} {op:AOp} {g:Option (Nat × Bool)} {os:List F8} {K:SF→Prop} {sf:SF} {l:List (Nat × AObj)} {nx:Nat}
  (hr:AW7 n sf g (fun sf=>BD0 P G n sf l nx (fun v=>Ao3 sf d v fun sf'=>BB8 P G n os K sf' ⟨l,nx⟩) op) (fun sf=>Ao3 sf d (.tup []) fun sf'=>BB8 P G n os K sf' ⟨l,nx⟩)):BB8 P G n (⟨d,op,g⟩::os) K sf ⟨l,nx⟩:=by
 refine ⟨fun Q h hQ q=>?_⟩
 have go:∀ {sf:SF} {v:AV},(Ao3 sf d v fun sf'=>BB8 P G n os K sf' ⟨l,nx⟩)→BD8 P G os Q (Y1 (sd n sf) d v) h:=fun {sf v} hp=>by
  obtain ⟨sf',e,hp⟩:=AQ1 (n:=n) hp
  rw [e]
  exact hp.out Q h hQ q
 have step:∀ {sf:SF},(BD0 P G n sf l nx (fun v=>Ao3 sf d v fun sf'=>BB8 P G n os K sf' ⟨l,nx⟩) op)→Ax2 P G op (sd n sf) h fun v=>BD8 P G os Q (Y1 (sd n sf) d v) h:=fun {sf} hs =>
  BK0 (fun v hk=>go hk) (Ap4 q hs)
 cases g with
 | none=>exact AO9 rfl (step hr)
 | some tb =>
  obtain ⟨t,b⟩:=tb
  obtain ⟨p,h1,h2,h3⟩:=AG5 hr
  refine Ac4 rfl ⟨p,h1,fun e=>?_,fun e=>?_⟩
  ·obtain ⟨sf',e1,h4⟩:=h2 e
   rw [← e1];exact step h4
  ·obtain ⟨sf',e1,h4⟩:=h3 e
   rw [← e1];exact go h4
def BD1 (P:Program) (G:Gl) (n:Nat) (sf:SF) (l:List (Nat × AObj)) (nx:Nat) (k:AV→Up→List Nat→Hp→Prop) (o:AOp):Prop:=match o with
 | .call f args=>axK G n sf f fun fv=>Ap0 G n sf args fun avs=>match fv with
  | .fn g fs cs=>AN9 P G g (fs++avs++cs) ⟨l,nx⟩ fun r up rd=>upK true l nx up fun h'=>k r up rd h'
  | _=>False
 | o=>opK G n sf l nx (fun v up rd=>upK true l nx up fun h'=>k v up rd h') o
structure AR7 (P:Program) (G:Gl) (n:Nat) (anc:List (List Nat)) (np:Nat) (os:List F8) (k b:Nat) (log:List Ent) (K:SF→Hp→Prop) (sf:SF) (h:Hp):Prop where
 out:∀ Q:List AV→Hp→Prop,(∀ sf hx,K sf hx→∀ h,Hq h hx→Q (sd n sf) h)→∀ h0,Hq h0 h→AV7 P G anc np os k b log Q (sd n sf) h0
theorem AV5 {o:AOp} {sf:SF} {h:Hp} {l:List (Nat × AObj)} {nx:Nat} {k:AV→Up→List Nat→Hp→Prop} (q:Hq h ⟨l,nx⟩) (hs:BD1 P G n sf l nx k o):∃ v up rd hy,StepD P G o (sd n sf) (lk h.l) h.next v up rd∧Hq (h.appD up) hy∧k v up rd hy:=by
 have ql:Go.Am.lk h.l=Go.Am.lk l:=q.lk
 have qn:h.next=nx:=q.next
 cases o
 case call f args =>
  obtain ⟨fv,h1,hs⟩:=C9 hs
  obtain ⟨avs,h2,hs⟩:=Y5 hs
  cases fv<;>try exact hs.elim
  obtain ⟨r,up,rd,h3,h4⟩:=hs.out
  obtain ⟨hy,h5,h6⟩:=Ap2 h4 (h0:=h) q
  exact ⟨r,up,rd,hy,⟨_,_,_,avs,h1,h2,by rw [ql,qn];exact h3⟩,h5,h6⟩
 all_goals
  simp only [BD1] at hs
  obtain ⟨v,up,rd,h1,h2⟩:=Ak4 hs
  obtain ⟨hy,h3,h4⟩:=Ap2 h2 (h0:=h) q
  exact ⟨v,up,rd,hy,by rw [ql,qn];exact h1,h3,h4⟩
theorem M6 {anc:List (List Nat)} {np k b:Nat} {log:List Ent} {K:SF→Hp→Prop} {sf:SF} {h:Hp} (hc:Aw3 (chk anc b log) (K sf h)):AR7 P G n anc np [] k b log K sf h:=⟨fun Q hQ h0 q=>⟨hc.ok,hQ sf h hc.out h0 q⟩⟩
section
variable {anc:List (List Nat)} {np k b:Nat} {log:List Ent} {d:Option Nat} {op:AOp} {g:Option (Nat × Bool)} {os:List F8} {K:SF→Hp→Prop} {sf:SF} {l:List (Nat × AObj)} {nx:Nat}
theorem I6 (hc:(op.isCall && pivot anc np k)=false)
  (hr:AW7 n sf g (fun sf=>BD1 P G n sf l nx (fun v up rd h'=>Ao3 sf d v fun sf'=>AR7 P G n anc np os (k+1) b (log++[AH6 ⟨d,op,g⟩ true up rd]) K sf' h') op) (fun sf=>Ao3 sf d (.tup []) fun sf'=>AR7 P G n anc np os (k+1) b (log++[AH6 ⟨d,op,g⟩ false [] []]) K sf' ⟨l,nx+1⟩)):AR7 P G n anc np (⟨d,op,g⟩::os) k b log K sf ⟨l,nx⟩:=by
 refine ⟨fun Q hQ h q=>?_⟩
 have go:∀ {sf:SF} {v:AV} {h hx:Hp} {log:List Ent},Hq h hx→(Ao3 sf d v fun sf'=>AR7 P G n anc np os (k+1) b log K sf' hx)→AV7 P G anc np os (k+1) b log Q (Y1 (sd n sf) d v) h:=fun {sf v h hx log} q hp=>by
  obtain ⟨sf',e,hp⟩:=AQ1 (n:=n) hp
  rw [e]
  exact hp.out Q hQ h q
 have q1:Hq (h.appD []) ⟨l,nx+1⟩:=⟨q.lk,by show h.next+1=_;rw [q.next]⟩
 show (if (op.isCall && pivot anc np k)=true then _ else _)
 rw [if_neg (by simp [hc])]
 cases g with
 | none =>
  simp only [AW7] at hr
  obtain ⟨v,up,rd,hy,k1,k2,k3⟩:=AV5 q hr
  exact AO9 rfl ⟨v,up,rd,k1,go k2 k3⟩
 | some tb =>
  obtain ⟨t,w⟩:=tb
  obtain ⟨p,h1,h2,h3⟩:=AG5 hr
  refine Ac4 rfl ⟨p,h1,fun e=>?_,fun e=>?_⟩
  ·obtain ⟨sf',e1,h4⟩:=h2 e
   obtain ⟨v,up,rd,hy,k1,k2,k3⟩:=AV5 q h4
   rw [← e1]
   exact ⟨v,up,rd,k1,go k2 k3⟩
  ·obtain ⟨sf',e1,h4⟩:=h3 e
   rw [← e1]
   exact go q1 h4
theorem Q9 (hc:op.isCall=false)
  (hr:AW7 n sf g (fun sf=>BD1 P G n sf l nx (fun v up rd h'=>Ao3 sf d v fun sf'=>AR7 P G n anc np os (k+1) b (log++[AH6 ⟨d,op,g⟩ true up rd]) K sf' h') op) (fun sf=>Ao3 sf d (.tup []) fun sf'=>AR7 P G n anc np os (k+1) b (log++[AH6 ⟨d,op,g⟩ false [] []]) K sf' ⟨l,nx+1⟩)):AR7 P G n anc np (⟨d,op,g⟩::os) k b log K sf ⟨l,nx⟩:=I6 (by rw [hc];rfl) hr
theorem I9 (hc:(op.isCall && pivot anc np k)=true)
  (hr:Aw3 (chk anc b log) (AW7 n sf g (fun sf=>BJ9 P G n sf l nx (fun v h'=>Ao3 sf d v fun sf'=>AR7 P G n anc np os (k+1) (k+1) [] K sf' h') op) (fun sf=>Ao3 sf d (.tup []) fun sf'=>AR7 P G n anc np os (k+1) (k+1) [] K sf' ⟨l,nx⟩))):AR7 P G n anc np (⟨d,op,g⟩::os) k b log K sf ⟨l,nx⟩:=by
 refine ⟨fun Q hQ h q=>?_⟩
 have go:∀ {sf:SF} {v:AV} {h hx:Hp},Hq h hx→(Ao3 sf d v fun sf'=>AR7 P G n anc np os (k+1) (k+1) [] K sf' hx)→AV7 P G anc np os (k+1) (k+1) [] Q (Y1 (sd n sf) d v) h:=fun {sf v h hx} q hp=>by
  obtain ⟨sf',e,hp⟩:=AQ1 (n:=n) hp
  rw [e]
  exact hp.out Q hQ h q
 show (if (op.isCall && pivot anc np k)=true then _ else _)
 rw [if_pos hc]
 refine ⟨hr.ok,?_⟩
 have hs:=hr.out
 have step:∀ {sf:SF},(BJ9 P G n sf l nx (fun v h'=>Ao3 sf d v fun sf'=>AR7 P G n anc np os (k+1) (k+1) [] K sf' h') op)→AS1 P G op (sd n sf) h fun v h'=>AV7 P G anc np os (k+1) (k+1) [] Q (Y1 (sd n sf) d v) h':=fun {sf} hs =>
  AD8 (fun v h' ⟨hy,q',hk⟩=>go q' hk) (Aa4 q hs)
 cases g with
 | none=>exact AO9 rfl (step hs)
 | some tb =>
  obtain ⟨t,w⟩:=tb
  obtain ⟨p,h1,h2,h3⟩:=AG5 hs
  refine Ac4 rfl ⟨p,h1,fun e=>?_,fun e=>?_⟩
  ·obtain ⟨sf',e1,h4⟩:=h2 e
   rw [← e1];exact step h4
  ·obtain ⟨sf',e1,h4⟩:=h3 e
   rw [← e1];exact go q h4
end
structure Y0 (P:Program) (G:Gl) (rd:Option Nat) (N n:Nat) (c:ACode) (K:Exit→SF→Hp→Prop) (sf:SF) (h:Hp):Prop where
 out:∀ Q:Exit→List AV→Hp→Prop,(∀ e sf hx,K e sf hx→∀ h,Hq h hx→Q e (sd n sf) h)→∀ h1,Hq h1 h→wpc P G rd N c Q (sd n sf) h1
structure RangeX (P:Program) (G:Gl) (rd:Option Nat) (n:Nat) (fv:AV) (ps:List Nat) (as bd:ACode) (K:Exit→SF→Hp→Prop) (sf:SF) (h:Hp):Prop where
 out:∃ g fs cs,fv = .fn g fs cs∧fnOk P g=true∧inLoop h rd∧∀ Q:Exit→List AV→Hp→Prop,(∀ e sf hx,K e sf hx→∀ h,Hq h hx→Q e (sd n sf) h) →
  AX3 P G (.fn g fs cs) [.yld h.next] ⟨(h.next,.loop .ready none (sd n sf) ps as bd)::h.l,h.next+1⟩ fun _ h2=>BT9 h.next (sd n sf) Q h2
def thenK (w:SF→Hp→Prop) (K:Exit→SF→Hp→Prop) (e:Exit) (sf:SF) (h:Hp):Prop:=match e with
 | .normal=>w sf h
 | e=>K e sf h
def blockK (id:Nat) (K:Exit→SF→Hp→Prop) (e:Exit) (sf:SF) (h:Hp):Prop:=match e with
 | .exit j=>bif Nat.beq j id then K .normal sf h else K (.exit j) sf h
 | e=>K e sf h
section
variable {rd:Option Nat} {N:Nat} {K:Exit→SF→Hp→Prop} {sf:SF} {h:Hp}
theorem J3 (hk:K .normal sf h):Y0 P G rd N n .skip K sf h:=⟨fun Q hQ h1 q=>hQ _ _ _ hk _ q⟩
theorem J4 {id:Nat} (hk:K (.exit id) sf h):Y0 P G rd N n (.exit id) K sf h:=⟨fun Q hQ h1 q=>hQ _ _ _ hk _ q⟩
theorem O4 (hk:K .ret sf h):Y0 P G rd N n .ret K sf h:=⟨fun Q hQ h1 q=>hQ _ _ _ hk _ q⟩
theorem O5 {ops:List F8} (hr:RunX P G n ops (K .normal) sf h):Y0 P G rd N n (.reg ops) K sf h:=⟨fun Q hQ h1 q=>hr.out _ (hQ .normal) h1 q⟩
theorem AF2 {ops:List F8} {pre:List (List Nat)} {l:List (Nat × AObj)} {nx m:Nat} (hq:Aj8 ops pre=some m) (hr:BB8 P G n ops (fun sf=>K .normal sf ⟨l,nx+m⟩) sf ⟨l,nx⟩):Y0 P G rd N n (.regD ops pre) K sf ⟨l,nx⟩:=by
 refine ⟨fun Q hQ h1 q=>BL2 hq (hr.out _ h1 (fun sf' hk=>?_) q)⟩
 exact hQ .normal sf' _ hk ⟨h1.l,h1.next+m⟩ ⟨q.lk,by simp only [q.next]⟩
theorem AD1 {ops:List F8} {pre:List (List Nat)} (ho:Ar6 pre 0=true) (hr:AR7 P G n (ancs pre) pre.length ops 0 0 [] (K .normal) sf h):Y0 P G rd N n (.regD ops pre) K sf h:=⟨fun Q hQ h1 q=>⟨ho,hr.out _ (hQ .normal) h1 q⟩⟩
theorem O1 {a b:ACode} (ha:Y0 P G rd N n a (thenK (Y0 P G rd N n b K) K) sf h):Y0 P G rd N n (.seq a b) K sf h:=by
 refine ⟨fun Q hQ h1 q=>ha.out _ (fun e sf' hx' hk h' q'=>?_) h1 q⟩
 cases e<;>first|exact hk.out Q hQ h' q'|exact hQ _ _ _ hk _ q'
theorem J5 {c:AX} {a b:ACode} (hc:axK G n sf c fun v=>match v with
  | .bool t=>BrX t (Y0 P G rd N n a K sf h) (Y0 P G rd N n b K sf h)
  | _=>False):Y0 P G rd N n (.cond c a b) K sf h:=by
 refine ⟨fun Q hQ h1 q=>?_⟩
 obtain ⟨v,h2,h⟩:=C9 hc
 cases v<;>try exact h.elim
 obtain ⟨h3,h4⟩:=Z6 h
 exact ⟨_,h2,fun e=>(h3 e).out Q hQ h1 q,fun e=>(h4 e).out Q hQ h1 q⟩
theorem G9 {id:Nat} {c:ACode} (hc:Y0 P G rd N n c (blockK id K) sf h):Y0 P G rd N n (.block id c) K sf h:=by
 refine ⟨fun Q hQ h1 q=>hc.out _ (fun e sf' hx' hk h' q'=>?_) h1 q⟩
 cases e<;>try exact hQ _ _ _ hk _ q'
 rename_i j
 simp only [blockK] at hk
 simp only [BI6]
 cases e:Nat.beq j id with
 | true=>rw [e] at hk;rw [if_pos (beq_eq e)];exact hQ _ _ _ hk _ q'
 | false=>rw [e] at hk;rw [if_neg (Ah9 e)];exact hQ _ _ _ hk _ q'
theorem G8 {f:AX} {ps:List Nat} {a b:ACode} (hc:axK G n sf f fun fv=>RangeX P G rd n fv ps a b K sf h):Y0 P G rd N n (.rangeF f ps a b) K sf h:=by
 refine ⟨fun Q hQ h1 q=>?_⟩
 obtain ⟨v,h2,hh⟩:=C9 hc
 obtain ⟨g,fs,cs,rfl,h3,h4,h5⟩:=hh.out
 refine ⟨g,fs,cs,h2,h3,?_,?_⟩
 ·cases rd with
  | none=>trivial
  | some l=>obtain ⟨st,pend,fr,ps,as,bd,e⟩:=h4;exact ⟨st,pend,fr,ps,as,bd,by rw [q.lk];exact e⟩
 ·have:=h5 Q hQ
  rw [← q.next] at this
  have e:Hq ⟨put h1.l h1.next (some (.loop .ready none (sd n sf) ps a b)),h1.next+1⟩ ⟨(h1.next,.loop .ready none (sd n sf) ps a b)::h.l,h1.next+1⟩:=⟨by
   show Go.Am.lk (put h1.l h1.next (some (.loop .ready none (sd n sf) ps a b)))=Go.Am.lk ((h1.next,.loop .ready none (sd n sf) ps a b)::h.l)
   rw [As2]
   funext j
   simp only [upd,Go.Am.lk,q.lk],rfl⟩
  exact e.callV this
end
end
end Go.Am
namespace Go.Am
section
variable {P:Program} {G:Gl} {n:Nat}
def BA9:Nat→List AV→(SF→Prop)→Prop
 | _,[],k=>k []
 | i,a::r,k=>BA9 (i+1) r fun l=>k ((i,a)::l)
def BB0:Nat→List AV→SF
 | _, [] => []
 | i,a::r=>(i,a)::BB0 (i+1) r
theorem AA7:∀ {l:List AV} {i:Nat} {k:SF→Prop},BA9 i l k→k (BB0 i l)
 | [],_,_,h=>h
 | a::r,i,k,h=>AA7 (l:=r) (i:=i+1) (k:=fun l=>k ((i,a)::l)) h
theorem Ap6:∀ {l:List AV} {i t:Nat},AL2 (BB0 i l) t=if i≤t then l.getD (t - i) .undef else .undef
 | [],i,t=>by simp [BB0,AL2]
 | a::r,i,t=>by
  rw [BB0,Q8,Ap6]
  by_cases h:i=t
  ·subst h;simp
  ·rw [if_neg h]
   by_cases h2:i+1≤t
   ·rw [if_pos h2,if_pos (by omega),show t - i=(t - (i+1))+1 by omega];rfl
   ·rw [if_neg h2,if_neg (by omega)]
theorem Aa7 {args:List AV} (h:args.length≤n):args++List.replicate (n - args.length) .undef=sd n (BB0 0 args):=by
 apply List.ext_getElem?
 intro j
 rw [AH4,Ap6,List.getElem?_append]
 by_cases h1:j < args.length
 ·rw [if_pos h1,if_pos (by omega),if_pos (Nat.zero_le _)];simp [h1]
 ·rw [if_neg h1]
  by_cases h2:j < n
  ·rw [if_pos h2,if_pos (Nat.zero_le _),List.getElem?_replicate,if_pos (by omega)]
   simp [List.getElem?_eq_none (show args.length≤j by omega)]
  ·rw [if_neg h2,List.getElem?_replicate,if_neg (by omega)]
structure AX2 (top:Bool) (P:Program) (N:Nat) (h:Hp) (x:AV) (K:AV→Hp→Prop):Prop where
 out:∃ σ r' h',Weak P σ [x] h [r'] h'∧Keeps N σ∧N≤h'.next∧K r' h'
def Ar4 (l:List AV) (k:AV→Prop):Prop:=match l with
 | [v]=>k v
 | l=>k (.tup l)
theorem BL9 {l:List AV} {k:AV→Prop} (h:Ar4 l k):k (Ar3 l):=by
 match l,h with
 | [],h=>exact h
 | [_],h=>exact h
 | _::_::_,h=>exact h
def BL0 (n:Nat) (sf:SF) (l:List (Nat × AObj)) (r:ARes) (k:AV→Prop):Prop:=match r with
 | .tmp t=>bif Nat.blt t n then AT1 sf t k else False
 | .cell a ag m=>bif Nat.blt a n then AT1 sf a fun p=>loadK l ag m p fun v _=>k v else False
theorem BK9 {sf:SF} {l:List (Nat × AObj)} {r:ARes} {k:AV→Prop} (h:BL0 n sf l r k):∃ v,resV (sd n sf) (lk l) r=some v∧k v:=by
 cases r with
 | tmp t =>
  simp only [BL0] at h
  cases e:Nat.blt t n with
  | false=>rw [e] at h;exact h.elim
  | true=>rw [e] at h;exact ⟨_,by simp only [resV];rw [AH4,if_pos (Ah8 e)],V5 h⟩
 | cell a ag m =>
  simp only [BL0] at h
  cases e:Nat.blt a n with
  | false=>rw [e] at h;exact h.elim
  | true =>
   rw [e] at h
   obtain ⟨v,rd,h1,h2⟩:=Ag5 (V5 h)
   exact ⟨v,by simp only [resV];rw [AH4,if_pos (Ah8 e)];simp [h1],h2⟩
def resK (n:Nat) (sf:SF) (l:List (Nat × AObj)):List ARes→(List AV→Prop)→Prop
 | [],k=>k []
 | r::rs,k=>BL0 n sf l r fun v=>resK n sf l rs fun vs=>k (v::vs)
theorem Aq0 {sf:SF} {l:List (Nat × AObj)}:∀ {rs:List ARes} {k:List AV→Prop},resK n sf l rs k→∃ vs,Af0 (sd n sf) (lk l) rs=some vs∧k vs
 | [],k,h=>⟨[],rfl,h⟩
 | r::rs,k,h=>by
  obtain ⟨v,h1,h⟩:=BK9 h
  obtain ⟨vs,h2,h⟩:=Aq0 h
  exact ⟨v::vs,by simp [Af0,h1,h2],h⟩
def endK (n:Nat) (top:Bool) (P:Program) (rs:List ARes) (N:Nat) (K:AV→Hp→Prop) (e:Exit) (sf:SF) (h:Hp):Prop:=match e with
 | .normal=>resK n sf h.l rs fun l=>Ar4 l fun x=>AX2 top P N h x K
 | .ret=>resK n sf h.l rs fun l=>Ar4 l fun x=>AX2 top P N h x K
 | _=>False
theorem AK0 {top:Bool} {rs:List ARes} {N:Nat} {K:AV→Hp→Prop} {e:Exit} {sf:SF} {h hx:Hp} (hk:endK n top P rs N K e sf hx) (q:Hq h hx):finQ P rs N K e (sd n sf) h:=by
 have go:(resK n sf hx.l rs fun l=>Ar4 l fun x=>AX2 top P N hx x K)→∃ l σ r' h',Af0 (sd n sf) (lk h.l) rs=some l∧Weak P σ [Ar3 l] h [r'] h'∧Keeps N σ∧N≤h'.next∧K r' h':=fun hk=>by
  obtain ⟨vs,h1,h2⟩:=Aq0 hk
  obtain ⟨σ,r',h',w,h3⟩:=(BL9 h2).out
  exact ⟨vs,σ,r',h',by rw [q.lk];exact h1,q.weak w,h3⟩
 cases e<;>first|exact go hk|exact hk.elim
theorem Ad2 {top:Bool} {rs:List ARes} {N:Nat} {K K':AV→Hp→Prop} (hK:∀ v h,K v h→K' v h) {e:Exit} {sf:SF} {hx:Hp} (hk:endK n top P rs N K e sf hx):endK n top P rs N K' e sf hx:=by
 have go:(resK n sf hx.l rs fun l=>Ar4 l fun x=>AX2 top P N hx x K)→resK n sf hx.l rs fun l=>Ar4 l fun x=>AX2 top P N hx x K':=fun hk=>by
  have up:∀ {x:AV},AX2 top P N hx x K→AX2 top P N hx x K':=fun {x} ⟨⟨σ,r',h',w,k,m,kk⟩⟩=>⟨σ,r',h',w,k,m,hK _ _ kk⟩
  have up2:∀ {l:List AV},(Ar4 l fun x=>AX2 top P N hx x K)→Ar4 l fun x=>AX2 top P N hx x K':=fun {l} h=>by
   match l,h with
   | [],h=>exact up h
   | [_],h=>exact up h
   | _::_::_,h=>exact up h
  have up3:∀ {rs:List ARes} {k k':List AV→Prop},(∀ l,k l→k' l)→resK n sf hx.l rs k→resK n sf hx.l rs k':=by
   have cells:∀ {l:List (Nat × AObj)} {i:Nat} {k k':List AV→Prop},(∀ l,k l→k' l)→AK2 l i k→AK2 l i k':=fun {l i k k'} hk h=>by
    obtain ⟨cs,h1,h2⟩:=Y9 h;exact Au9 h1 (hk _ h2)
   have part:∀ {ag:Bool} {o m:Nat} {cs:List AV} {k k':AV→Prop},(∀ l,k l→k' l)→Ay2 ag o m cs k→Ay2 ag o m cs k':=fun {ag o m cs k k'} hk h=>by
    cases ag with
    | false=>obtain ⟨v,h1,h2⟩:=AQ5 (k:=k) h;exact L9 h1 (hk _ h2)
    | true =>
     obtain ⟨h1,h2⟩:=AU5 h
     obtain ⟨h3,h4⟩:=AR9 h2
     exact AA1 h1 rfl (Z4 h3 rfl (hk _ h4))
   have look:∀ {t:Nat} {k k':AV→Prop},(∀ v,k v→k' v)→AT1 sf t k→AT1 sf t k':=fun {t k k'} hk h=>by
    have e:∀ {sf:SF} {k:AV→Prop},k (AL2 sf t)→AT1 sf t k:=by
     intro sf
     induction sf with
     | nil=>exact fun h=>h
     | cons p r ih =>
      intro k h
      obtain ⟨i,v⟩:=p
      simp only [AL2] at h
      simp only [AT1]
      cases e:Nat.beq i t with
      | true=>rw [e] at h;exact h
      | false=>rw [e] at h;exact ih h
    exact e (hk _ (V5 h))
   intro rs
   induction rs with
   | nil=>exact fun hk h=>hk _ h
   | cons r rs ih =>
    intro k k' hk h
    simp only [resK] at h ⊢
    cases r with
    | tmp t =>
     simp only [BL0] at h ⊢
     cases e:Nat.blt t n with
     | false=>rw [e] at h;exact h.elim
     | true=>rw [e] at h;exact look (fun v hv=>ih (fun l hl=>hk _ hl) hv) h
    | cell a ag m =>
     simp only [BL0] at h ⊢
     cases e:Nat.blt a n with
     | false=>rw [e] at h;exact h.elim
     | true =>
      rw [e] at h
      refine look (fun p hp=>?_) h
      cases p<;>try exact hp.elim
      ·exact cells (fun cs hc=>part (fun v hv=>ih (fun l hl=>hk _ hl) hv) hc) hp
      ·exact part (fun v hv=>ih (fun l hl=>hk _ hl) hv) hp
  exact up3 (fun l=>up2) hk
 cases e<;>first|exact go hk|exact hk.elim
theorem U2 {f:Nat} {ac:ACode} {rs:List ARes} {args:List AV} {r:AV} (F6:P.follows .mixedOrders=true) (hb:Body P f ac rs n) (hG:AR8 G) (ha:Av9 args) (hr:Plain r) (hn:Nat.ble args.length n=true)
  (hw:BA9 0 args fun sf=>Y0 P G none 0 n ac (endK n true P rs 0 fun r' h'=>r'=r∧h'.l=[]) sf ⟨[],0⟩):AV0 P G f args r:=by
 refine pure_of F6 hb hG ha hr ?_
 rw [Aa7 (Nat.le_of_ble_eq_true hn)]
 exact (AA7 hw).out _ (fun e sf hx hk h q=>AK0 hk q) _ .refl
theorem H6 {f:Nat} {ac:ACode} {rs:List ARes} {args:List AV} {l0:List (Nat × AObj)} {k:Nat} {K:AV→Hp→Prop} (F6:P.follows .mixedOrders=true) (hb:Body P f ac rs n) (hn:Nat.ble args.length n=true)
  (hw:BA9 0 args fun sf=>Y0 P G none k n ac (endK n true P rs k K) sf ⟨l0,k⟩):AV1 P G f args l0 k K:=by
 refine loc_of F6 hb ?_
 rw [Aa7 (Nat.le_of_ble_eq_true hn)]
 exact (AA7 hw).out _ (fun e sf hx hk h q=>AK0 hk q) _ .refl
theorem AD0 {N:Nat} {h:Hp} {x:AV} {K:AV→Hp→Prop} (hN:Nat.ble N h.next=true) (hk:K x h):AX2 false P N h x K:=⟨id,x,h,BP3,fun _ _=>rfl,Nat.le_of_ble_eq_true hN,hk⟩
theorem Au0 {h:Hp} {x r:AV} (hw:WkV P id h ⟨[],0⟩ x r):AX2 true P 0 h x (fun r' h'=>r'=r∧h'.l=[]) :=
 ⟨id,r,⟨[],0⟩,Ai9 (fun i j o o' hi=>by cases hi) ⟨hw,trivial⟩ trivial,fun _ _=>rfl,Nat.le_refl _,rfl,rfl⟩
theorem K8 {h:Hp} {x r:AV} (e:x=r) (hp:Plain r):AX2 true P 0 h x (fun r' h'=>r'=r∧h'.l=[]):=by subst e;exact Au0 (R9 AX7 hp)
theorem AP1 {h:Hp} {k:IntKind} {m m':Int} (e:m=m'):AX2 true P 0 h (.int k m) (fun r' h'=>r' = .int k m'∧h'.l=[]):=K8 (by rw [e]) A8
theorem X5 {h:Hp} {m m':Bool} (e:m=m'):AX2 true P 0 h (.bool m) (fun r' h'=>r' = .bool m'∧h'.l=[]):=K8 (by rw [e]) D9
theorem AG8 {top:Bool} {N m:Nat} {h:Hp} {x r:AV} {lr:List (Nat × AObj)} {K:AV→Hp→Prop} (ren:List (Nat × Nat)) (hk:AN3 N ren=true) (hm:N≤m) (hi:BC0 (rn ren) lr) (hr:WkV P (rn ren) h ⟨lr,m⟩ x r) (ho:WkO P (rn ren) h ⟨lr,m⟩ lr) (hK:K r ⟨lr,m⟩):AX2 top P N h x K :=
 ⟨rn ren,r,⟨lr,m⟩,Ai9 hi ⟨hr,trivial⟩ ho,AG4 hk,hm,hK⟩
theorem cx_pure {g:Nat} {fs avs cs:List AV} {r:AV} {h:Hp} {K:AV→Hp→Prop} (hp:AV0 P G g (fs++avs++cs) r) (hk:K r h):AH3 P G (.fn g fs cs) avs h K:=⟨Ae0 (hp _ _) ⟨h,.refl,hk⟩⟩
theorem cx_fnU {g:Nat} {fs avs cs:List AV} {r:AV} {rd:List Nat} {h:Hp} {K:AV→Hp→Prop} (hp:FnU P G g (fs++avs++cs) rd (lk h.l) r [] h.next) (hk:K r h):AH3 P G (.fn g fs cs) avs h K:=⟨Ae0 hp ⟨h,.refl,hk⟩⟩
theorem AC3 {g n':Nat} {fs avs cs:List AV} {h:Hp} {K:AV→Hp→Prop} {ac:ACode} {rs:List ARes} (F6:P.follows .mixedOrders=true) (hb:Body P g ac rs n') (hn:Nat.ble (fs++avs++cs).length n'=true)
  (hw:BA9 0 (fs++avs++cs) fun sf=>Y0 P G none h.next n' ac (endK n' false P rs h.next K) sf h):AH3 P G (.fn g fs cs) avs h K:=by
 refine ⟨Ah7 F6 hb ?_⟩
 rw [Aa7 (Nat.le_of_ble_eq_true hn)]
 refine (AA7 hw).out _ (fun e sf hx hk h q=>AK0 (Ad2 (fun v h' hk=>⟨h',.refl,hk⟩) hk) q) _ .refl
theorem dcx_pure {g:Nat} {avs:List AV} {r:AV} {h:Hp} {K:AV→Up→List Nat→Prop} (hp:AV0 P G g avs r) (hk:K r [] []):AN9 P G g avs h K:=⟨r,[],[],hp _ _,hk⟩
section
variable {A B p:Prop} {a b:Bool} {α:Type} {e m:α} {K:α→Prop}
theorem br_b (hA:b=true→A) (hB:b=false→B):BrX b A B:=⟨hA,hB⟩
theorem An2 (h:b=true) (hA:A):BrX b A B:=⟨fun _=>hA,fun e=>(by rw [h] at e;cases e)⟩
theorem An3 (h:b=false) (hB:B):BrX b A B:=⟨fun e=>(by rw [h] at e;cases e),fun _=>hB⟩
theorem AH0 (hA:A):BrX true A B:=An2 rfl hA
theorem AH1 (hB:B):BrX false A B:=An3 rfl hB
theorem br_d [Decidable p] (hA:p→A) (hB:¬ p→B):BrX (decide p) A B:=br_b (fun h=>hA (of_decide_eq_true h)) fun h=>hB (of_decide_eq_false h)
theorem Av0 (h:BrX b B A):BrX (!b) A B:=by
 cases b
 ·exact AH0 (h.out.2 rfl)
 ·exact AH1 (h.out.1 rfl)
theorem l6 (h:BrX a (BrX b A B) B):BrX (a && b) A B:=by
 cases a
 ·exact AH1 (h.out.2 rfl)
 ·exact h.out.1 rfl
theorem AK3 (h:BrX a A (BrX b A B)):BrX (a || b) A B:=by
 cases a
 ·exact h.out.2 rfl
 ·exact AH0 (h.out.1 rfl)
theorem Au7 (h:p) (hA:A):CkX p A:=⟨h,hA⟩
theorem AH5 (h:e=m) (hk:K m):EqX e K:=⟨m,h,hk⟩
theorem AC9 (hk:K e):EqX e K:=⟨e,rfl,hk⟩
theorem l5 {e:Int} {K:Int→Prop} (h:-9223372036854775808≤e∧e≤9223372036854775807) (hk:K e):EqX (IntKind.i64.wrap e) K:=⟨e,IntWalk.i64_in e h,hk⟩
theorem AJ6 {e:Int} {K:Int→Prop} (h:0≤e∧e≤255) (hk:K e):EqX (IntKind.u8.wrap e) K:=⟨e,IntWalk.u8_in e h,hk⟩
theorem j4 {e:Int} {K:Int→Prop} (h:0≤e∧e≤65535) (hk:K e):EqX (IntKind.u16.wrap e) K:=⟨e,IntWalk.u16_in e h,hk⟩
theorem AJ7 {b:Nat} {K:Nat→Prop} (hk:K b):EqX (Int.toNat (b:Int)) K:=⟨b,by simp,hk⟩
theorem j6 {o b s:Nat} {K:Nat→Prop} (h:EqX (o+b * s) K):EqX (o+Int.toNat (b:Int) * s) K:=by simpa using h
theorem j5 {b s:Nat} {K:Nat→Prop} (h:EqX (b * s) K):EqX (Int.toNat (b:Int) * s) K:=by simpa using h
theorem At7 {b:Nat} {K:Nat→Prop} (h:K b):EqX (0+b) K:=⟨b,by simp,h⟩
theorem AJ9 {o b:Nat} {K:Nat→Prop} (h:EqX (o+b) K):EqX (o+b * 1) K:=by simpa using h
theorem AJ8 {b:Nat} {K:Nat→Prop} (h:K b):EqX (b * 1) K:=⟨b,by simp,h⟩
theorem AJ5 {b s:Nat} {K:Nat→Prop} (h:K (b * s)):EqX (0+b * s) K:=⟨b * s,by simp,h⟩
theorem AU3 {els:List (List AV)} {j sz:Nat} {K:List AV→Prop} {el:List AV} (h:els[j]? = some el) (hl:el.length=sz) (hk:K el):ElX els j sz K:=⟨el,h,hl,hk⟩
theorem AK1 {els:List (List AV)} {j sz:Nat} {K:List AV→Prop} (h:ElX els j sz K):ElX els (Int.toNat (j:Int)) sz K:=by simpa using h
theorem el_map {α:Type} {f:α→List AV} {l:List α} {j sz:Nat} {K:List AV→Prop} (d:α) (hf:∀ x,(f x).length=sz) (hj:j < l.length) (hk:K (f (Go.Pol.nth d l j))):ElX (l.map f) j sz K :=
 ⟨_,by rw [List.getElem?_map,List.getElem?_eq_getElem hj,Go.Pol.J8 hj];rfl,hf _,hk⟩
theorem AG9 {α:Type} {f:α→List AV} {l:List α} {j sz:Nat} {K:List AV→Prop} {d x:α} (hf:∀ x,(f x).length=sz) (hj:j < l.length) (hx:Go.Pol.nth d l j=x) (hk:K (f x)):ElX (l.map f) j sz K:=by subst hx;exact el_map d hf hj hk
theorem d9 {id off len cp sz:Nat} {k:AV→Prop} (h:k (.int .i64 len)):LenX (.sl id off len cp sz) k:=⟨_,rfl,h⟩
theorem N7 {k:AV→Prop} (h:k (.int .i64 0)):LenX .nils k:=⟨_,rfl,h⟩
theorem H7 {α:Type} {f:α→List AV} {l:List α} {k:AV→Prop} (h:k (.int .i64 l.length)):LenX (.isl (l.map f)) k:=⟨_,by simp only [lenV,List.length_map],h⟩
theorem H8 {els:List (List AV)} {k:AV→Prop} (h:k (.int .i64 els.length)):LenX (.isl els) k:=⟨_,rfl,h⟩
theorem M9 {i sz m:Nat} {k:AV→Prop} (h:k (.int .i64 m)):LenX (Ao4 i sz m) k:=⟨_,len_own,h⟩
theorem P5 {i sz m:Nat} {K:List AV→Prop} (h:K [Ao4 i sz m]):flatK (Ao4 i sz m) K:=by
 by_cases hz:m=0
 ·subst hz;exact h
 ·rw [Ay3 hz] at h ⊢;exact h
end
section
variable {l:List (Nat × AObj)} {nx sz bytes d len m:Nat} {x:AV} {src cs:List AV} {rd:List Nat} {k:AV→Up→List Nat→Prop} {ks:AV→Up→Prop}
theorem Ae2 {v:AV} {up:Up} {rd:List Nat} {s:AV} (h:Aw2 (lk l) nx sz bytes s x=some (v,up,rd)) (hk:ks v up):AppSX l nx sz bytes s x ks:=⟨v,up,up,rd,h,rfl,rfl,hk⟩
theorem appV_nil (hs:Aj3 (lk l) sz x=some (src,m,rd)) (h0:0 < m) (hb:m * bytes≤140737488355328∧m≤1000000000000):Aw2 (lk l) nx sz bytes .nils x=some (.sl nx 0 m m sz,[(nx,some (.cells src))],rd):=by
 simp only [Aw2,hs];rw [if_neg (by omega),if_pos hb]
theorem appV_sl (hs:Aj3 (lk l) sz x=some (src,m,rd)) (hd:lk l d=some (.cells cs)) (hc:cs.length=len * sz) (h0:0 < m) (hb:(len+m) * bytes≤140737488355328∧len+m≤1000000000000):Aw2 (lk l) nx sz bytes (.sl d 0 len len sz) x=some (.sl nx 0 (len+m) (len+m) sz,[(d,none),(nx,some (.cells (cs++src)))],d::rd):=by
 simp only [Aw2,hs,O7,hd]
 rw [if_pos ⟨trivial,by omega⟩,if_neg (by omega),if_pos hb,List.drop_zero,List.take_of_length_le (by omega)]
theorem appV_in {off cp:Nat} (hs:Aj3 (lk l) sz x=some (src,m,rd)) (hd:lk l d=some (.cells cs)) (hf:len+m≤cp) (hc:off+(len+m) * sz≤cs.length):Aw2 (lk l) nx sz bytes (.sl d off len cp sz) x=some (.sl d off (len+m) cp sz,[(d,some (.cells (over cs (off+len * sz) src)))],d::rd):=by
 have hle:off+len * sz≤cs.length:=Nat.le_trans (Nat.add_le_add_left (Nat.mul_le_mul_right sz (Nat.le_add_right len m)) off) hc
 simp only [Aw2,hs,O7,hd]
 rw [if_pos ⟨trivial,hle⟩,if_pos hf,if_pos hc]
theorem BD2 (hd:lk l d=some (.cells cs)) (hc:cs.length=m * sz):Aj3 (lk l) sz (.sl d 0 m m sz)=some (cs,m,[d]):=by
 simp only [Aj3,O7,hd]
 rw [if_pos ⟨trivial,by omega⟩,List.drop_zero,List.take_of_length_le (by omega)]
theorem BJ0 {α:Type} {f:α→List AV} {L l2:List α} (hf:∀ x,(f x).length=sz) (hs:Aj3 (lk l) sz x=some (src,m,rd)) (hl:L.length ≠ 0→lk l d=some (.cells (flat f L))) (hsrc:src=flat f l2) (h0:0 < m) (hb:(L.length+m) * bytes≤140737488355328∧L.length+m≤1000000000000) :
  Aw2 (lk l) nx sz bytes (Ao4 d sz L.length) x=if L.length=0 then some (.sl nx 0 (L.length+m) (L.length+m) sz,[(nx,some (.cells (flat f (L++l2))))],rd) else some (.sl nx 0 (L.length+m) (L.length+m) sz,[(d,none),(nx,some (.cells (flat f (L++l2))))],d::rd):=by
 subst hsrc
 by_cases hz:L.length=0
 ·rw [if_pos hz,hz,own_z,appV_nil hs h0 (by simpa [hz] using hb)]
  cases List.eq_nil_of_length_eq_zero hz
  simp
 ·rw [if_neg hz,Ay3 hz,appV_sl hs (hl hz) (AY7 hf L) h0 hb,flat_app]
theorem BI8 {α:Type} {f:α→List AV} {L l2:List α} (hf:∀ x,(f x).length=sz) (hs:Aj3 (lk l) sz x=some (src,m,rd)) (hl:L.length ≠ 0→lk l d=some (.cells (flat f L))) (hl0:L.length=0→lk l d=none) (hsrc:src=flat f l2) (h0:0 < m) (hb:(L.length+m) * bytes≤140737488355328∧L.length+m≤1000000000000) (hd:Nat.beq d nx=false)
  (hk:ks (.sl nx 0 (L.length+m) (L.length+m) sz) [(d,none),(nx,some (.cells (flat f (L++l2))))]):AppSX l nx sz bytes (Ao4 d sz L.length) x ks:=by
 have hne:=Ah9 hd
 refine ⟨_,if L.length=0 then [(nx,some (.cells (flat f (L++l2))))] else [(d,none),(nx,some (.cells (flat f (L++l2))))],_,if L.length=0 then rd else d::rd,?_,?_,?_,hk⟩
 ·rw [BJ0 hf hs hl hsrc h0 hb];split<;>rfl
 ·by_cases hz:L.length=0
  ·rw [if_pos hz]
   funext j
   simp only [upd]
   by_cases h1:j=d
   ·subst h1;rw [if_neg hne,if_pos rfl];exact hl0 hz
   ·rw [if_neg h1]
  ·rw [if_neg hz]
 ·by_cases hz:L.length=0
  ·rw [if_pos hz]
   have : (d == nx)=false:=by simpa using hne
   simp [AJ2,this]
  ·rw [if_neg hz]
theorem Y8 {α:Type} {f:α→List AV} {L:List α} {k:List (Nat × AObj)→Prop} (h:k []):delK (AY1 d f L) d k:=by
 by_cases hz:L.length=0
 ·rw [AV8 hz];exact h
 ·rw [AV9 hz];simp only [delK];rw [show Nat.beq d d=true by simp];exact h
theorem T9 {α:Type} {f:α→List AV} {L:List α} {i:Nat} {k:List (Nat × AObj)→Prop} (hi:Nat.beq i d=false) (h:k (AY1 d f L)):delK (AY1 d f L) i k:=by
 by_cases hz:L.length=0
 ·rw [AV8 hz] at h ⊢;exact h
 ·rw [AV9 hz] at h ⊢;simp only [delK,hi];exact h
theorem BW3 {α:Type} {f:α→List AV} {L:List α} (hz:L.length=0) {i:Nat}:lk (AY1 d f L) i=none:=by rw [AV8 hz];rfl
end
structure WkX (P:Program) (σ:Nat→Nat) (h h':Hp) (x y:AV):Prop where
 out:WkV P σ h h' x y
def WkF (P:Program) (σ:Nat→Nat) (h h':Hp) (sf:SF):SF→Prop
 | []=>True
 | (t,y)::r=>AT1 sf t (fun x=>WkX P σ h h' x y)∧WkF P σ h h' sf r
theorem p9 {σ:Nat→Nat} {h h':Hp} {sf:SF}:∀ {sf':SF},WkF P σ h h' sf sf'→∀ t,WkV P σ h h' (AL2 sf t) (AL2 sf' t)
 | [],_,t=>fun c v _ _ _=>RR_undef
 | (i,y)::r,hw,t=>by
  rw [Q8]
  by_cases e:i=t
  ·subst e;rw [if_pos rfl];exact (V5 hw.1).out
  ·rw [if_neg e];exact p9 hw.2 t
theorem AV2 {σ:Nat→Nat} {h h':Hp} {sf sf':SF} (hw:∀ t,WkV P σ h h' (AL2 sf t) (AL2 sf' t)):WkL P σ h h' (sd n sf) (sd n sf'):=by
 have : ∀ l:List Nat,WkL P σ h h' (l.map (AL2 sf)) (l.map (AL2 sf')):=by
  intro l
  induction l with
  | nil=>trivial
  | cons t l ih=>exact ⟨hw t,ih⟩
 exact this _
structure Av7 (P:Program) (l:List (Nat × Nat)) (n:Nat) (sf:SF) (h:Hp) (sf':SF) (h':Hp):Prop where
 out:Weak P (rn l) (sd n sf) h (sd n sf') h'
theorem weak_x {ren:List (Nat × Nat)} {sf sf':SF} {h h':Hp} (hi:BC0 (rn ren) h'.l) (hf:WkF P (rn ren) h h' sf sf') (ho:WkO P (rn ren) h h' h'.l):Av7 P ren n sf h sf' h':=⟨Ai9 hi (AV2 (p9 hf)) ho⟩
def keepK:List Nat→SF→(SF→Prop)→Prop
 | [],_,k=>k []
 | t::ts,sf,k=>AT1 sf t fun v=>keepK ts sf fun b=>k ((t,v)::b)
def keepF (live:List Nat) (sf:SF):SF:=live.map fun t=>(t,AL2 sf t)
theorem AT7 {sf:SF}:∀ {live:List Nat} {k:SF→Prop},keepK live sf k→k (keepF live sf)
 | [],_,h=>h
 | t::ts,k,h=>AT7 (live:=ts) (k:=fun b=>k ((t,AL2 sf t)::b)) (V5 h)
structure NextX {ι:Type} (P:Program) (N n:Nat) (F:ι→SF) (H:ι→Hp) (ok:ι→Prop) (m:ι→Nat) (i:ι) (sf:SF) (h:Hp):Prop where
 out:∃ (j:ι) (l:List (Nat × Nat)),ok j∧m j < m i∧AN3 N l=true∧Av7 P l n sf h (F j) (H j)
def nextK {ι:Type} (P:Program) (N n:Nat) (F:ι→SF) (H:ι→Hp) (ok:ι→Prop) (m:ι→Nat) (i:ι) (K:Exit→SF→Hp→Prop) (e:Exit) (sf:SF) (h:Hp):Prop:=match e with
 | .normal=>NextX P N n F H ok m i sf h
 | e=>K e sf h
theorem I4 {ι:Type} {N:Nat} {F:ι→SF} {H:ι→Hp} {ok:ι→Prop} {m:ι→Nat} {i:ι} {sf:SF} {h:Hp} (j:ι) (l:List (Nat × Nat)) (h1:ok j) (h2:m j < m i) (h3:AN3 N l=true) (hw:Av7 P l n sf h (F j) (H j)):NextX P N n F H ok m i sf h:=⟨j,l,h1,h2,h3,hw⟩
theorem Q5 {ι:Type} {rd:Option Nat} {N:Nat} {c:ACode} {K:Exit→SF→Hp→Prop} {sf:SF} {h:Hp} (live:List Nat) (ups:ι→SF) (H:ι→Hp) (ok:ι→Prop) (m:ι→Nat) (i0:ι) (l:List (Nat × Nat)) (hk:AN3 N l=true) (hN:∀ i,N≤(H i).next) (h0:ok i0)
  (hw:keepK live sf fun b=>Av7 P l n sf h (ups i0++b) (H i0)) (hr:keepK live sf fun b=>∀ i,ok i→Y0 P G rd N n c (nextK P N n (fun i=>ups i++b) H ok m i K) (ups i++b) (H i)):Y0 P G rd N n (.loop c) K sf h:=by
 have hw:=AT7 hw
 have hr:=AT7 hr
 refine ⟨fun Q hQ h1 q=>loop_ix (fun i=>sd n (ups i++keepF live sf)) H ok m i0 l hk hN h0 (q.weak hw.out) fun i hi=>?_⟩
 refine (hr i hi).out _ (fun e sf' hx hk' h' q'=>?_) _ .refl
 cases e<;>try exact hQ _ _ _ hk' _ q'
 obtain ⟨j,l',k1,k2,k3,k4⟩:=hk'.out
 exact ⟨j,l',k1,k2,AG4 k3,q'.weak k4.out⟩
theorem wko_own {α:Type} {f:α→List AV} {L:List α} {σ:Nat→Nat} {h h':Hp} {i:Nat} (hi:i < h'.next) (hp:∀ c,∀ x ∈ f c,Plain x) (hs:AP3 σ h h') (hl:L.length ≠ 0→lk h.l (σ i)=some (.cells (flat f L))):WkO P σ h h' (AY1 i f L):=by
 by_cases hz:L.length=0
 ·rw [AV8 hz];exact K3
 ·rw [AV9 hz];exact I5 hs hi (hl hz) rfl (P8 hp) K3
theorem Aw6 {σ:Nat→Nat} {h h':Hp} {i sz m:Nat} (e:m=0):WkV P σ h h' .nils (Ao4 i sz m):=by
 subst e;exact fun _ _ _ _ hr=>RR_nils.2 (RR_nils.1 hr)
theorem Ai5 {σ:Nat→Nat} {h h':Hp}:∀ {l r:List (Nat × AObj)},WkO P σ h h' l→WkO P σ h h' r→WkO P σ h h' (l++r)
 | [],_,_,hr=>hr
 | (_,.cells _)::l,r,⟨h1,h2,h3⟩,hr=>⟨h1,h2,Ai5 h3 hr⟩
 | (_,.loop ..)::l,r,⟨h1,h2,h3⟩,hr=>⟨h1,h2,Ai5 h3 hr⟩
 | (_,.maps _)::l,r,⟨h1,h2,h3⟩,hr=>⟨h1,h2,Ai5 h3 hr⟩
theorem Ag6 {α:Type} {f:α→List AV} {L:List α} {i j:Nat} {o:AObj} (h:lk (AY1 i f L) j=some o):j=i∧L.length ≠ 0:=by
 by_cases hz:L.length=0
 ·rw [AV8 hz] at h;cases h
 ·rw [AV9 hz] at h
  simp only [lk] at h
  split at h
  ·rename_i e;exact ⟨e,hz⟩
  ·cases h
theorem Ab7 {α:Type} {f:α→List AV} {L:List α} {i j:Nat} {o:AObj}:∀ {l0:List (Nat × AObj)},lk (l0++AY1 i f L) j=some o→∃ o',lk (l0++[(i,AObj.cells [])]) j=some o'
 | [],hj=>by
  obtain ⟨rfl,_⟩:=Ag6 hj
  exact ⟨.cells [],by simp [lk]⟩
 | (q,x)::l0,hj=>by
  simp only [List.cons_append,lk] at hj ⊢
  split
  ·exact ⟨_,rfl⟩
  ·rename_i e;rw [if_neg e] at hj;exact Ab7 hj
theorem weak_o {α:Type} {f:α→List AV} {L:List α} {ren:List (Nat × Nat)} {sf sf':SF} {h:Hp} {l0:List (Nat × AObj)} {i nx:Nat} (h1:Ae5 ((l0.map fun p=>rn ren p.1)++[rn ren i])=true) (h2:subB (rn ren) h.l l0=true) (h3:L.length ≠ 0→lk h.l (rn ren i)=some (.cells (flat f L))) (h4:Nat.blt i nx=true) (hp:∀ c,∀ x ∈ f c,Plain x)
  (hf:AP3 (rn ren) h ⟨l0++AY1 i f L,nx⟩→WkF P (rn ren) h ⟨l0++AY1 i f L,nx⟩ sf sf') (ho:AP3 (rn ren) h ⟨l0++AY1 i f L,nx⟩→WkO P (rn ren) h ⟨l0++AY1 i f L,nx⟩ l0):Av7 P ren n sf h sf' ⟨l0++AY1 i f L,nx⟩:=by
 have hs:AP3 (rn ren) h ⟨l0++AY1 i f L,nx⟩:=fun j o hj=>by
  rcases BW5 hj with hj|hj
  ·exact Aa3 (h:=h) (h':=⟨l0,nx⟩) h2 j o hj
  ·obtain ⟨rfl,hz⟩:=Ag6 hj;exact ⟨_,h3 hz⟩
 have h5:BC0 (rn ren) (l0++[(i,.cells [])]):=P6 (by simpa using h1)
 have h6:BC0 (rn ren) (l0++AY1 i f L):=fun a b o o' ha hb e=>by
  obtain ⟨_,ha⟩:=Ab7 ha
  obtain ⟨_,hb⟩:=Ab7 hb
  exact h5 a b _ _ ha hb e
 exact ⟨Ai9 h6 (AV2 (p9 (hf hs))) (Ai5 (ho hs) (wko_own (Ah8 h4) hp hs h3))⟩
theorem BC3 {ren:List (Nat × Nat)} {sf sf':SF} {h h':Hp} (hi:BC0 (rn ren) h'.l) (hs:AP3 (rn ren) h h') (hf:AP3 (rn ren) h h'→WkF P (rn ren) h h' sf sf') (ho:AP3 (rn ren) h h'→WkO P (rn ren) h h' h'.l):Av7 P ren n sf h sf' h':=weak_x hi (hf hs) (ho hs)
theorem Ai7 {σ:Nat→Nat} {h h':Hp} {i j sz a b:Nat} (e:σ i=j) (hi:i < h'.next) (h0:a ≠ 0) (hab:a=b):WkV P σ h h' (.sl j 0 a a sz) (Ao4 i sz b):=by
 subst hab;rw [Ay3 h0];exact BO6 e hi rfl (Nat.le_refl _) (Nat.le_refl _)
end
end Go.Am
namespace Go.Am
section
variable {P:Program} {G:Gl} {n:Nat}
def AU1 (ns:List Nat):List (Nat × AObj)→(List (Nat × AObj)→Prop)→Prop
 | [],k=>k []
 | (j,o)::r,k=>bif ns.contains j then AU1 ns r k else AU1 ns r fun r'=>k ((j,o)::r')
theorem AU0 {ns:List Nat}:∀ {l:List (Nat × AObj)} {k:List (Nat × AObj)→Prop},AU1 ns l k→k (l.filter fun q=>!ns.contains q.1)
 | [],k,h=>h
 | (j,o)::r,k,h=>by
  simp only [AU1] at h
  simp only [List.filter_cons]
  cases e:ns.contains j with
  | true=>rw [e] at h;simpa using AU0 (l:=r) h
  | false=>rw [e] at h;simpa using AU0 (l:=r) (k:=fun r'=>k ((j,o)::r')) h
theorem lk_app2 {l r:List (Nat × AObj)} (h:∀ i o o',lk l i=some o→lk r i=some o'→False):lk (l++r)=lk (r++l):=by
 have e:∀ (l r:List (Nat × AObj)) i,lk (l++r) i=(lk l i).or (lk r i):=by
  intro l r i
  induction l with
  | nil=>rfl
  | cons p l ih =>
   obtain ⟨j,o⟩:=p
   simp only [List.cons_append,lk]
   split
   ·rfl
   ·exact ih
 funext i
 rw [e,e]
 cases h1:lk l i with
 | none=>simp
 | some o =>
  cases h2:lk r i with
  | none=>simp
  | some o'=>exact (h i o o' h1 h2).elim
theorem AN6 {f m:Nat} {fs cs args args0:List AV} {l0 lr l1 l:List (Nat × AObj)} {nx:Nat} {r r':AV} {K:AV→Hp→Prop} (ns:List Nat) (hc:AV1 P G f args0 l0 ns.length fun x h1=>x=r∧h1=⟨lr,m⟩) (hGp:AR8 G) (hd:Ae5 ns=true) (hl0:Given (enter ns) ⟨l,nx⟩ l0)
  (ha:RnL (enter ns) (fs++args++cs) args0) (hlt:∀ n ∈ ns,n < nx) (hr:RnV (back ns nx) r r') (hS:RnS (back ns nx) lr l1) (hk:AU1 ns l fun l2=>K r' ⟨l1++l2,nx+(m - ns.length)⟩):AH3 P G (.fn f fs cs) args ⟨l,nx⟩ K:=by
 have hk:=AU0 hk
 refine ⟨fun c u vs hR hG hm hu hargs=>?_⟩
 refine callV_loc (h:=⟨l,nx⟩) (K:=fun v h'=>∃ hx,Hq h' hx∧K v hx) ns hc hGp hd hl0 ha hlt ?_ c u vs hR hG hm hu hargs
 rintro x h1 ⟨rfl,rfl⟩
 refine ⟨r',l1,hr,hS,⟨l1++l.filter (fun q=>!ns.contains q.1),nx+(m - ns.length)⟩,⟨?_,rfl⟩,hk⟩
 show lk (l.filter (fun q=>!ns.contains q.1)++l1)=lk (l1++l.filter fun q=>!ns.contains q.1)
 refine lk_app2 fun i o o' h1 h2=>?_
 obtain ⟨q1,q2⟩:=AQ9 h1
 have hlt:i < nx:=(hm.U i).1 (hR.used i o (by rw [hm.at_];exact q2))
 obtain ⟨i',cs,q3,_⟩:=hS.spec An5 h2
 unfold back at q3
 split at q3
 ·rename_i e;subst q3;exact q1 (List.mem_of_getElem? e)
 ·omega
theorem BI7 {α:Type} {f:α→List AV} {L l2:List α} {l:List (Nat × AObj)} {nx sz bytes d m:Nat} {x:AV} {src:List AV} {rd:List Nat} {k:AV→Up→List Nat→Prop} (hf:∀ x,(f x).length=sz) (hs:Aj3 (lk l) sz x=some (src,m,rd)) (hl:L.length ≠ 0→lk l d=some (.cells (flat f L))) (hsrc:src=flat f l2) (h0:0 < m) (hb:(L.length+m) * bytes≤140737488355328∧L.length+m≤1000000000000)
  (hk1:L.length=0→k (.sl nx 0 (L.length+m) (L.length+m) sz) [(nx,some (.cells (flat f (L++l2))))] rd) (hk2:L.length ≠ 0→k (.sl nx 0 (L.length+m) (L.length+m) sz) [(d,none),(nx,some (.cells (flat f (L++l2))))] (d::rd)):AppX l nx sz bytes (Ao4 d sz L.length) x k:=by
 have h:=BJ0 (nx:=nx) hf hs hl hsrc h0 hb
 by_cases hz:L.length=0
 ·rw [if_pos hz] at h;exact ⟨_,_,_,h,hk1 hz⟩
 ·rw [if_neg hz] at h;exact ⟨_,_,_,h,hk2 hz⟩
structure RgX (l n:Nat) (sf:SF) (K:Exit→SF→Hp→Prop) (h2:Hp):Prop where
 out:∀ Q:Exit→List AV→Hp→Prop,(∀ e sf hx,K e sf hx→∀ h,Hq h hx→Q e (sd n sf) h)→∀ h,Hq h h2→BT9 l (sd n sf) Q h
theorem BU1 {h:Hp} {l l':List (Nat × AObj)} {nx i:Nat} {o:AObj} (q:Hq h ⟨l,nx⟩) (e:lk l'=upd (lk l) [(i,some o)]):Hq ⟨put h.l i (some o),h.next⟩ ⟨l',nx⟩:=⟨by
 show lk (put h.l i (some o))=lk l'
 rw [As2,e,show lk h.l=lk l from q.lk],q.next⟩
section
variable {l nx i:Nat} {sf:SF} {K:Exit→SF→Hp→Prop} {lh:List (Nat × AObj)} {fr':List AV} {ps:List Nat} {as bd:ACode} {st:LoopState}
theorem AE2 (hl:lk lh l=some (.loop .ready none fr' ps as bd)) (hk:repK lh l (.loop .exhausted none fr' ps as bd) fun l'=>K .normal sf ⟨l',nx⟩):RgX l n sf K ⟨lh,nx⟩:=by
 obtain ⟨l',h1,h2⟩:=AI2 hk
 exact ⟨fun Q hQ h q=>⟨.ready,none,fr',ps,as,bd,by rw [q.lk];exact hl,(fun e=>by cases e),hQ _ _ _ h2 _ (BU1 q h1)⟩⟩
end
theorem range_x {rd:Option Nat} {g n' nx:Nat} {fs cs:List AV} {ps:List Nat} {as bd ac:ACode} {rs:List ARes} {K:Exit→SF→Hp→Prop} {sf:SF} {l:List (Nat × AObj)} (F6:P.follows .mixedOrders=true) (hb:Body P g ac rs n') (hn:Nat.ble (fs++[AV.yld nx]++cs).length n'=true) (hin:inLoop ⟨l,nx⟩ rd)
  (hw:∀ frl asl bdl,frl=sd n sf→asl=as→bdl=bd→BA9 0 (fs++[AV.yld nx]++cs) fun sf'=>Y0 P G none (nx+1) n' ac (endK n' false P rs (nx+1) fun _ h2=>RgX nx n sf K h2) sf' ⟨(nx,.loop .ready none frl ps asl bdl)::l,nx+1⟩):RangeX P G rd n (.fn g fs cs) ps as bd K sf ⟨l,nx⟩:=by
 refine ⟨g,fs,cs,rfl,hb.ok,hin,fun Q hQ=>Ah7 F6 hb ?_⟩
 rw [Aa7 (Nat.le_of_ble_eq_true hn)]
 exact (AA7 (hw _ _ _ rfl rfl rfl)).out _ (fun e sf' hx hk h q=>AK0 (Ad2 (fun v h' hk=>hk.out Q hQ h' .refl) hk) q) _ .refl
def psK:SF→List Nat→List AV→(SF→Prop)→Prop
 | sf,t::ts,x::xs,k=>psK ((t,x)::sf) ts xs k
 | sf,_,_,k=>k sf
theorem BE3:∀ {ts:List Nat} {xs:List AV} {sf:SF} {k:SF→Prop},psK sf ts xs k→∃ sf',Ae8 (sd n sf) ts xs=sd n sf'∧k sf'
 | [],[],sf,k,h=>⟨sf,rfl,h⟩
 | [],_::_,sf,k,h=>⟨sf,rfl,h⟩
 | _::_,[],sf,k,h=>⟨sf,rfl,h⟩
 | t::ts,x::xs,sf,k,h=>by
  obtain ⟨sf',h1,h2⟩:=BE3 (ts:=ts) (xs:=xs) h
  exact ⟨sf',by rw [← h1,Ae8,BD5],h2⟩
structure RdX (l:Nat) (K:AV→Hp→Prop) (e:Exit) (h:Hp):Prop where
 out:∀ fr h',Hq h' h→roundQ l (fun v h'=>∃ hx,Hq h' hx∧K v hx) e fr h'
def rdK (l:Nat) (K:AV→Hp→Prop) (e:Exit) (_:SF) (h:Hp):Prop:=RdX l K e h
structure AsX (P:Program) (G:Gl) (l N n:Nat) (bd:ACode) (K:AV→Hp→Prop) (sf1:SF) (h1:Hp):Prop where
 out:∀ h,Hq h h1→assignQ P G l N bd (fun v h'=>∃ hx,Hq h' hx∧K v hx) .normal (sd n sf1) h
def asK (P:Program) (G:Gl) (l N n:Nat) (bd:ACode) (K:AV→Hp→Prop) (e:Exit) (sf1:SF) (h1:Hp):Prop:=match e with
 | .normal=>AsX P G l N n bd K sf1 h1
 | _=>False
theorem cx_yld {l nx:Nat} {lh:List (Nat × AObj)} {pend:Option Code} {frl:List AV} {sf:SF} {ps:List Nat} {as bd:ACode} {args:List AV} {K:AV→Hp→Prop} (F6:P.follows .mixedOrders=true) (hl:lk lh l=some (.loop .ready pend frl ps as bd)) (hF:frl=sd n sf) (hlen:args.length=ps.length)
  (hw:psK sf ps args fun sf1=>Y0 P G (some l) nx n as (asK P G l nx n bd K) sf1 ⟨lh,nx⟩):AH3 P G (.yld l) args ⟨lh,nx⟩ K:=by
 subst hF
 obtain ⟨sf1,h1,h2⟩:=BE3 (n:=n) hw
 refine ⟨callV_yld F6 hl hlen ?_⟩
 rw [h1]
 refine h2.out _ (fun e sf' hx hk h q=>?_) _ .refl
 cases e<;>first|exact hk.out h q|exact hk.elim
theorem Am4 {l nx:Nat} {lh:List (Nat × AObj)} {pend:Option Code} {frl:List AV} {sf:SF} {ps:List Nat} {asl bdl as bd:ACode} {args:List AV} {K:AV→Hp→Prop} (F6:P.follows .mixedOrders=true) (hl:lk lh l=some (.loop .ready pend frl ps asl bdl)) (hF:frl=sd n sf) (hA:asl=as) (hB:bdl=bd) (hlen:args.length=ps.length)
  (hw:psK sf ps args fun sf1=>Y0 P G (some l) nx n as (asK P G l nx n bd K) sf1 ⟨lh,nx⟩):AH3 P G (.yld l) args ⟨lh,nx⟩ K:=by
 subst hA;subst hB
 exact cx_yld F6 hl hF hlen hw
section
variable {l nx N:Nat} {lh:List (Nat × AObj)} {pend:Option Code} {fr:List AV} {ps:List Nat} {as bd bd':ACode} {K:AV→Hp→Prop} {sf1:SF}
theorem AU8 (hl:lk lh l=some (.loop .ready pend fr ps as bd')) (hw:repK lh l (.loop .busy pend fr ps as bd') fun l'=>Y0 P G (some l) N n bd (rdK l K) sf1 ⟨l',nx⟩):AsX P G l N n bd K sf1 ⟨lh,nx⟩:=by
 obtain ⟨l',h1,h2⟩:=AI2 hw
 refine ⟨fun h q=>⟨rfl,pend,fr,ps,as,bd',by rw [q.lk];exact hl,?_⟩⟩
 exact h2.out _ (fun e sf' hx hk h' q'=>hk.out _ h' q') _ (BU1 q h1)
theorem AS5 (hl:lk lh l=some (.loop .busy pend fr ps as bd)) (hw:repK lh l (.loop .ready none fr ps as bd) fun l'=>K (.bool true) ⟨l',nx⟩):RdX l K .normal ⟨lh,nx⟩:=by
 obtain ⟨l',h1,h2⟩:=AI2 hw
 exact ⟨fun _ h q=>⟨pend,fr,ps,as,bd,by rw [q.lk];exact hl,_,BU1 q h1,h2⟩⟩
end
end
end Go.Am
