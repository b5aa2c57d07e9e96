/-
 A quicker walk,second part: regions and code;that it is sound. No program in sight.
 A quicker walk,third part: its laws: entries and ends,loops,calls,appending,what may be forgotten. No program in sight.
 A quicker walk,fourth part: calls by contracts over a store of their own;ranges over functions,and their rounds. No program in sight.
-/
import Derived.Test.YtbhgfoikbkaohaaGreatAmWx
set_option linter.unusedSimpArgs false
set_option linter.unusedVariables false
namespace Go.Am
structure Hq (h hx:Hp):Prop where
 lk:lk h.l=lk hx.l
 next:h.next=hx.next
theorem Hq.refl {h:Hp}:Hq h h:=⟨rfl,rfl⟩
theorem Hq.symm {h hx:Hp} (q:Hq h hx):Hq hx h:=⟨q.1.symm,q.2.symm⟩
theorem Hq.mat {c:Cx} {h hx:Hp} (q:Hq h hx) (m:Mat c h):Mat c hx:=⟨by rw [m.at_,q.lk],fun i=>by rw [m.U,q.next]⟩
theorem Hq.weak {P:Program} {σ:Nat→Nat} {fr fr':List AV} {h hx h':Hp} (q:Hq h hx) (w:Weak P σ fr hx fr' h'):Weak P σ fr h fr' h':=fun c tmps hR hm hF=>by
 obtain ⟨h1,h2,h3⟩:=w c tmps hR (q.mat hm) hF
 exact ⟨h1,h2,fun i o hi=>by rw [q.lk];exact h3 i o hi⟩
theorem Hq.callV {P:Program} {G:Gl} {fv:AV} {avs:List AV} {h hx:Hp} {K:AV→Hp→Prop} (q:Hq h hx) (c:Ah6 P G fv avs hx K):Ah6 P G fv avs h K:=fun cx u vs hR hG hm=>c cx u vs hR hG (q.mat hm)
def repK:List (Nat × AObj)→Nat→AObj→(List (Nat × AObj)→Prop)→Prop
 | [],i,o,k=>k [(i,o)]
 | (j,p)::r,i,o,k=>bif Nat.beq i j then k ((i,o)::r) else repK r i o fun r'=>k ((j,p)::r')
def BI2:List (Nat × AObj)→Nat→(List (Nat × AObj)→Prop)→Prop
 | [],_,k=>k []
 | (j,p)::r,i,k=>bif Nat.beq i j then BI2 r i k else BI2 r i fun r'=>k ((j,p)::r')
def putK (nx:Nat) (l:List (Nat × AObj)) (i:Nat) (o:Option AObj) (k:List (Nat × AObj)→Prop):Prop:=match o with
 | some o=>bif Nat.beq i nx then k ((i,o)::l) else repK l i o k
 | none=>BI2 l i k
theorem AQ5 {o:AObj}:∀ {l:List (Nat × AObj)} {i:Nat} {k:List (Nat × AObj)→Prop},repK l i o k→∃ l',lk l'=upd (lk l) [(i,some o)]∧k l'
 | [],i,k,h=>⟨_,by funext j;simp [lk,upd],h⟩
 | (j,p)::r,i,k,h=>by
  simp only [repK] at h
  cases e:Nat.beq i j with
  | true =>
   rw [e] at h
   refine ⟨_,?_,h⟩
   have:=beq_eq e
   subst this
   funext q
   simp only [lk,upd]
   by_cases hq:q=i<;>simp [hq]
  | false =>
   rw [e] at h
   obtain ⟨l',h1,h2⟩:=AQ5 (l:=r) h
   refine ⟨_,?_,h2⟩
   have hne:=Au0 e
   funext q
   have:=congrFun h1 q
   simp only [lk,upd] at this ⊢
   rw [this]
   by_cases hq:q=i
   ·subst hq;simp [hne]
   ·simp [hq]
theorem Ao8:∀ {l:List (Nat × AObj)} {i:Nat} {k:List (Nat × AObj)→Prop},BI2 l i k→∃ l',lk l'=upd (lk l) [(i,none)]∧k l'
 | [],i,k,h=>⟨_,by funext j;simp [lk,upd],h⟩
 | (j,p)::r,i,k,h=>by
  simp only [BI2] at h
  cases e:Nat.beq i j with
  | true =>
   rw [e] at h
   obtain ⟨l',h1,h2⟩:=Ao8 (l:=r) h
   refine ⟨_,?_,h2⟩
   have:=beq_eq e
   subst this
   funext q
   have:=congrFun h1 q
   simp only [lk,upd] at this ⊢
   rw [this]
   by_cases hq:q=i<;>simp [hq]
  | false =>
   rw [e] at h
   obtain ⟨l',h1,h2⟩:=Ao8 (l:=r) h
   refine ⟨_,?_,h2⟩
   have hne:=Au0 e
   funext q
   have:=congrFun h1 q
   simp only [lk,upd] at this ⊢
   rw [this]
   by_cases hq:q=i
   ·subst hq;simp [hne]
   ·simp [hq]
theorem putK_spec {nx i:Nat} {o:Option AObj} {l:List (Nat × AObj)} {k:List (Nat × AObj)→Prop} (h:putK nx l i o k):∃ l',lk l'=upd (lk l) [(i,o)]∧k l':=by
 cases o with
 | none=>exact Ao8 h
 | some o =>
  simp only [putK] at h
  cases e:Nat.beq i nx with
  | true=>rw [e] at h;exact ⟨_,by funext q;simp [lk,upd],h⟩
  | false=>rw [e] at h;exact AQ5 h
def putsK (nx:Nat) (l:List (Nat × AObj)):Up→(List (Nat × AObj)→Prop)→Prop
 | [],k=>k l
 | (i,o)::r,k=>putsK nx l r fun l'=>putK nx l' i o k
theorem Ad2 {nx:Nat} {l:List (Nat × AObj)}:∀ {up:Up} {k:List (Nat × AObj)→Prop},putsK nx l up k→∃ l',lk l'=upd (lk l) up∧k l'
 | [],k,h=>⟨l,rfl,h⟩
 | (i,o)::r,k,h=>by
  obtain ⟨l1,h1,h2⟩:=Ad2 (up:=r) h
  obtain ⟨l2,h3,h4⟩:=putK_spec h2
  refine ⟨l2,?_,h4⟩
  rw [h3]
  funext q
  simp only [upd,h1]
def upK (D:Bool) (l:List (Nat × AObj)) (nx:Nat) (up:Up) (k:Hp→Prop):Prop:=putsK nx l up fun l'=>match D with
 | true=>k ⟨l',nx+1⟩
 | false=>bif AR6 up nx then k ⟨l',nx+1⟩ else k ⟨l',nx⟩
theorem BQ0 {l:List (Nat × AObj)} {nx:Nat} {up:Up} {k:Hp→Prop} (h:upK false l nx up k) {h0:Hp} (q:Hq h0 ⟨l,nx⟩):∃ hx,Hq (h0.app up) hx∧k hx:=by
 obtain ⟨l',h1,h2⟩:=Ad2 h
 obtain ⟨l0,n0⟩:=h0
 obtain ⟨q1,q2⟩:=q
 simp only at q1 q2
 subst q2
 simp only at h2
 cases e:AR6 up n0 with
 | true=>rw [e] at h2;exact ⟨_,⟨by simp only [Hp.app,AO2,q1,h1],by simp [Hp.app,e]⟩,h2⟩
 | false=>rw [e] at h2;exact ⟨_,⟨by simp only [Hp.app,AO2,q1,h1],by simp [Hp.app,e]⟩,h2⟩
theorem BB4 {l:List (Nat × AObj)} {nx:Nat} {up:Up} {k:Hp→Prop} (h:upK true l nx up k) {h0:Hp} (q:Hq h0 ⟨l,nx⟩):∃ hx,Hq (h0.appD up) hx∧k hx:=by
 obtain ⟨l',h1,h2⟩:=Ad2 h
 obtain ⟨l0,n0⟩:=h0
 obtain ⟨q1,q2⟩:=q
 simp only at q1 q2
 subst q2
 exact ⟨⟨l',n0+1⟩,⟨by simp only [Hp.appD,AO2,q1,h1],rfl⟩,h2⟩
def Ag7 (n:Nat) (sf:SF) (g:Option (Nat × Bool)) (A B:SF→Prop):Prop:=match g with
 | none=>A sf
 | some (t,b)=>bif Nat.blt t n then Ad9 sf t fun v=>match v with
  | .bool p=>BrX p (match b with
   | true=>A ((t,.bool true)::sf)
   | false=>B ((t,.bool true)::sf)) (match b with
   | true=>B ((t,.bool false)::sf)
   | false=>A ((t,.bool false)::sf))
  | .tup _=>B sf
  | _=>False else False
theorem AY7 {sf:SF} {t:Nat} {n:Nat} {v:AV} (h:AT0 sf t=v):sd n ((t,v)::sf)=sd n sf:=by
 subst h
 apply List.ext_getElem?
 intro j
 rw [AP0,AP0,w9]
 by_cases e:t=j
 ·subst e;simp
 ·rw [if_neg e]
theorem AO4 {n:Nat} {sf:SF} {t:Nat} {b:Bool} {A B:SF→Prop} (h:Ag7 n sf (some (t,b)) A B):∃ p,((sd n sf)[t]?).bind gval=some p∧(p=some b→∃ sf',sd n sf'=sd n sf∧A sf')∧(p ≠ some b→∃ sf',sd n sf'=sd n sf∧B sf'):=by
 simp only [Ag7] at h
 cases e:Nat.blt t n with
 | false=>rw [e] at h;exact h.elim
 | true =>
  rw [e] at h
  have h:=AB3 h
  rw [AP0,if_pos (Ap6 e)]
  generalize hv:AT0 sf t=v at h
  cases v<;>try exact h.elim
  ·rename_i p
   obtain ⟨h1,h2⟩:=AF6 h
   refine ⟨some p,rfl,fun ep=>?_,fun ep=>?_⟩
   ·obtain rfl:p=b:=by simpa using ep
    cases p
    ·exact ⟨_,AY7 hv,h2 rfl⟩
    ·exact ⟨_,AY7 hv,h1 rfl⟩
   ·cases p<;>cases b<;>first|exact absurd rfl ep|exact ⟨_,AY7 hv,h2 rfl⟩|exact ⟨_,AY7 hv,h1 rfl⟩
  ·exact ⟨none,rfl,fun ep=>(by cases ep),fun _=>⟨sf,rfl,h⟩⟩
structure AN4 (P:Program) (G:Gl) (fv:AV) (avs:List AV) (h:Hp) (K:AV→Hp→Prop):Prop where
 out:Ah6 P G fv avs h fun v h'=>∃ hx,Hq h' hx∧K v hx
structure AP2 (P:Program) (G:Gl) (g:Nat) (avs:List AV) (h:Hp) (K:AV→Up→List Nat→Prop):Prop where
 out:∃ r up rd,FnU P G g avs rd (lk h.l) r up h.next∧K r up rd
structure QCallX (P:Program) (G:Gl) (g:Nat) (avs:List AV) (K:AV→Prop):Prop where
 out:∃ r,Af4 P G g avs r∧K r
section
variable {P:Program} {G:Gl} {n:Nat}
structure AppSX (l:List (Nat × AObj)) (nx sz bytes:Nat) (s x:AV) (k:AV→Up→Prop):Prop where
 out:∃ v up up' rd,BI3 (lk l) nx sz bytes s x=some (v,up,rd)∧upd (lk l) up=upd (lk l) up'∧AR6 up nx=AR6 up' nx∧k v up'
structure EqnX (a:AV) (K:Bool→Prop):Prop where
 out:eqnA a K
def stepX (P:Program) (G:Gl) (n:Nat) (sf:SF) (l:List (Nat × AObj)) (nx:Nat) (k:AV→Hp→Prop) (o:AOp):Prop:=match o with
 | .call f args=>axK G n sf f fun fv=>BB1 G n sf args fun avs=>AN4 P G fv avs ⟨l,nx⟩ k
 | .append sz bytes s x=>axK G n sf s fun s=>axK G n sf x fun x=>AppSX l nx sz bytes s x fun v up=>upK false l nx up fun h'=>k v h'
 | .eqn ng x=>axK G n sf x fun a=>EqnX a fun b=>ngK ng b fun v=>k v ⟨l,nx⟩
 | o=>opK G n sf l nx (fun v up _=>upK false l nx up fun h'=>k v h') o
structure RunX (P:Program) (G:Gl) (n:Nat) (os:List L6) (K:SF→Hp→Prop) (sf:SF) (h:Hp):Prop where
 out:∀ Q:List AV→Hp→Prop,(∀ sf hx,K sf hx→∀ h,Hq h hx→Q (sd n sf) h)→∀ h0,Hq h0 h→BI1 P G os Q (sd n sf) h0
theorem Ak8 {o:AOp} {sf:SF} {h:Hp} {l:List (Nat × AObj)} {nx:Nat} {k:AV→Hp→Prop} (q:Hq h ⟨l,nx⟩) (hs:stepX P G n sf l nx k o):Ac5 P G o (sd n sf) h fun v h'=>∃ hy,Hq h' hy∧k v hy:=by
 have ql:Go.Am.lk h.l=Go.Am.lk l:=q.lk
 have qn:h.next=nx:=q.next
 cases o
 case call f args =>
  obtain ⟨fv,h1,hs⟩:=D7 hs
  obtain ⟨avs,h2,hs⟩:=AD8 hs
  exact ⟨fv,avs,h1,h2,q.callV hs.out⟩
 case eqn ng x =>
  obtain ⟨a,h1,hs⟩:=D7 hs
  refine ⟨a,h1,BF6 (fun b hb=>⟨⟨l,nx⟩,⟨ql,qn⟩,?_⟩) hs.out⟩
  cases ng<;>cases b<;>exact hb
 case append sz bytes s x =>
  obtain ⟨a,h1,hs⟩:=D7 hs
  obtain ⟨b,h2,hs⟩:=D7 hs
  obtain ⟨v,up,up',rd,h3,h4,h5,h6⟩:=hs.out
  obtain ⟨hy,h7,h8⟩:=BQ0 h6 (h0:=h) q
  refine ⟨v,up,rd,by rw [ql,qn];simp [G7,h1,h2,h3],hy,⟨?_,?_⟩,h8⟩
  ·rw [← h7.lk]
   show Go.Am.lk (puts h.l up)=Go.Am.lk (puts h.l up')
   rw [AO2,AO2,ql,h4]
  ·rw [← h7.next]
   show (if AR6 up h.next=true then h.next+1 else h.next)=(if AR6 up' h.next=true then h.next+1 else h.next)
   rw [qn,h5]
 all_goals
  simp only [stepX] at hs
  obtain ⟨v,up,rd,h1,h2⟩:=Av8 hs
  obtain ⟨hy,h3,h4⟩:=BQ0 h2 (h0:=h) q
  exact ⟨v,up,rd,by rw [ql,qn];exact h1,hy,h3,h4⟩
theorem U9 {K:SF→Hp→Prop} {sf:SF} {h:Hp} (hk:K sf h):RunX P G n [] K sf h:=⟨fun Q hQ h0 q=>hQ sf h hk h0 q⟩
theorem P6 {d:Option Nat} {op:AOp} {g:Option (Nat × Bool)} {os:List L6} {K:SF→Hp→Prop} {sf:SF} {l:List (Nat × AObj)} {nx:Nat}
  (hr:Ag7 n sf g (fun sf=>stepX P G n sf l nx (fun v h'=>BA2 sf d v fun sf'=>RunX P G n os K sf' h') op) (fun sf=>BA2 sf d (.tup []) fun sf'=>RunX P G n os K sf' ⟨l,nx⟩)):RunX P G n (⟨d,op,g⟩::os) K sf ⟨l,nx⟩:=by
 refine ⟨fun Q hQ h q=>?_⟩
 have go:∀ {sf:SF} {v:AV} {h hx:Hp},Hq h hx→(BA2 sf d v fun sf'=>RunX P G n os K sf' hx)→BI1 P G os Q (AD4 (sd n sf) d v) h:=fun {sf v h hx} q hp=>by
  obtain ⟨sf',e,hp⟩:=AZ3 (n:=n) hp
  rw [e]
  exact hp.out Q hQ h q
 have step:∀ {sf:SF},(stepX P G n sf l nx (fun v h'=>BA2 sf d v fun sf'=>RunX P G n os K sf' h') op)→Ac5 P G op (sd n sf) h fun v h'=>BI1 P G os Q (AD4 (sd n sf) d v) h':=fun {sf} hs =>
  AM1 (fun v h' ⟨hy,q',hk⟩=>go q' hk) (Ak8 q hs)
 cases g with
 | none=>exact step hr
 | some tb =>
  obtain ⟨t,b⟩:=tb
  obtain ⟨p,h1,h2,h3⟩:=AO4 hr
  refine ⟨p,h1,fun e=>?_,fun e=>?_⟩
  ·obtain ⟨sf',e1,h4⟩:=h2 e
   show Ac5 P G op (sd n sf) h _
   rw [← e1];exact step h4
  ·obtain ⟨sf',e1,h4⟩:=h3 e
   show BI1 P G os Q (AD4 (sd n sf) d (.tup [])) h
   rw [← e1];exact go q h4
def BQ3 (P:Program) (G:Gl) (n:Nat) (sf:SF) (l:List (Nat × AObj)) (nx:Nat) (k:AV→Prop) (o:AOp):Prop:=match o with
 | .call f args=>axK G n sf f fun fv=>BB1 G n sf args fun avs=>match fv with
  | .fn g fs cs=>QCallX P G g (fs++avs++cs) k
  | _=>False
 | o=>opK G n sf l nx (fun v up _=>match up with
  | []=>k v
  | _=>False) o
structure BP3 (P:Program) (G:Gl) (n:Nat) (os:List L6) (K:SF→Prop) (sf:SF) (h:Hp):Prop where
 out:∀ (Q:List AV→Hp→Prop) (h0:Hp),(∀ sf,K sf→Q (sd n sf) h0)→Hq h0 h→BQ8 P G os Q (sd n sf) h0
theorem BB8 {o:AOp} {sf:SF} {h:Hp} {l:List (Nat × AObj)} {nx:Nat} {k:AV→Prop} (q:Hq h ⟨l,nx⟩) (hs:BQ3 P G n sf l nx k o):BJ5 P G o (sd n sf) h k:=by
 have ql:Go.Am.lk h.l=Go.Am.lk l:=q.lk
 have qn:h.next=nx:=q.next
 cases o
 case call f args =>
  obtain ⟨fv,h1,hs⟩:=D7 hs
  obtain ⟨avs,h2,hs⟩:=AD8 hs
  cases fv<;>try exact hs.elim
  obtain ⟨r,h3,h4⟩:=hs.out
  exact ⟨_,_,_,avs,r,h1,h2,h3,h4⟩
 all_goals
  simp only [BQ3] at hs
  obtain ⟨v,up,rd,h1,h2⟩:=Av8 hs
  cases up with
  | cons=>exact h2.elim
  | nil=>exact ⟨v,rd,by rw [ql,qn];exact h1,h2⟩
theorem stepQ_mono {o:AOp} {fr:List AV} {h:Hp} {k k':AV→Prop} (hk:∀ v,k v→k' v) (hs:BJ5 P G o fr h k):BJ5 P G o fr h k':=by
 cases o
 case call f args=>obtain ⟨g,fs,cs,avs,r,h1,h2,h3,h4⟩:=hs;exact ⟨g,fs,cs,avs,r,h1,h2,h3,hk _ h4⟩
 all_goals (obtain ⟨v,rd,h1,h2⟩:=hs;exact ⟨v,rd,h1,hk _ h2⟩)
theorem O9 {K:SF→Prop} {sf:SF} {h:Hp} (hk:K sf):BP3 P G n [] K sf h:=⟨fun Q h0 hQ q=>hQ sf hk⟩
theorem An5 {fr:List AV} {o:L6} {A B:Prop} {t:Nat} {b:Bool} (hg:o.guard=some (t,b)) (h:∃ p,(fr[t]?).bind gval=some p∧(p=some b→A)∧(p ≠ some b→B)):AH1 o fr A B:=by
 unfold AH1;rw [hg];exact h
theorem AX2 {fr:List AV} {o:L6} {A B:Prop} (hg:o.guard=none) (h:A):AH1 o fr A B:=by
 unfold AH1;rw [hg];exact h
theorem K4 {d:Option Nat} {op:AOp} {g:Option (Nat × Bool)} {os:List L6} {K:SF→Prop} {sf:SF} {l:List (Nat × AObj)} {nx:Nat}
  (hr:Ag7 n sf g (fun sf=>BQ3 P G n sf l nx (fun v=>BA2 sf d v fun sf'=>BP3 P G n os K sf' ⟨l,nx⟩) op) (fun sf=>BA2 sf d (.tup []) fun sf'=>BP3 P G n os K sf' ⟨l,nx⟩)):BP3 P G n (⟨d,op,g⟩::os) K sf ⟨l,nx⟩:=by
 refine ⟨fun Q h hQ q=>?_⟩
 have go:∀ {sf:SF} {v:AV},(BA2 sf d v fun sf'=>BP3 P G n os K sf' ⟨l,nx⟩)→BQ8 P G os Q (AD4 (sd n sf) d v) h:=fun {sf v} hp=>by
  obtain ⟨sf',e,hp⟩:=AZ3 (n:=n) hp
  rw [e]
  exact hp.out Q h hQ q
 have step:∀ {sf:SF},(BQ3 P G n sf l nx (fun v=>BA2 sf d v fun sf'=>BP3 P G n os K sf' ⟨l,nx⟩) op)→BJ5 P G op (sd n sf) h fun v=>BQ8 P G os Q (AD4 (sd n sf) d v) h:=fun {sf} hs =>
  stepQ_mono (fun v hk=>go hk) (BB8 q hs)
 cases g with
 | none=>exact AX2 rfl (step hr)
 | some tb =>
  obtain ⟨t,b⟩:=tb
  obtain ⟨p,h1,h2,h3⟩:=AO4 hr
  refine An5 rfl ⟨p,h1,fun e=>?_,fun e=>?_⟩
  ·obtain ⟨sf',e1,h4⟩:=h2 e
   rw [← e1];exact step h4
  ·obtain ⟨sf',e1,h4⟩:=h3 e
   rw [← e1];exact go h4
def BQ4 (P:Program) (G:Gl) (n:Nat) (sf:SF) (l:List (Nat × AObj)) (nx:Nat) (k:AV→Up→List Nat→Hp→Prop) (o:AOp):Prop:=match o with
 | .call f args=>axK G n sf f fun fv=>BB1 G n sf args fun avs=>match fv with
  | .fn g fs cs=>AP2 P G g (fs++avs++cs) ⟨l,nx⟩ fun r up rd=>upK true l nx up fun h'=>k r up rd h'
  | _=>False
 | o=>opK G n sf l nx (fun v up rd=>upK true l nx up fun h'=>k v up rd h') o
structure Ab3 (P:Program) (G:Gl) (n:Nat) (anc:List (List Nat)) (np:Nat) (os:List L6) (k b:Nat) (log:List Ent) (K:SF→Hp→Prop) (sf:SF) (h:Hp):Prop where
 out:∀ Q:List AV→Hp→Prop,(∀ sf hx,K sf hx→∀ h,Hq h hx→Q (sd n sf) h)→∀ h0,Hq h0 h→Ag1 P G anc np os k b log Q (sd n sf) h0
theorem Af9 {o:AOp} {sf:SF} {h:Hp} {l:List (Nat × AObj)} {nx:Nat} {k:AV→Up→List Nat→Hp→Prop} (q:Hq h ⟨l,nx⟩) (hs:BQ4 P G n sf l nx k o):∃ v up rd hy,StepD P G o (sd n sf) (lk h.l) h.next v up rd∧Hq (h.appD up) hy∧k v up rd hy:=by
 have ql:Go.Am.lk h.l=Go.Am.lk l:=q.lk
 have qn:h.next=nx:=q.next
 cases o
 case call f args =>
  obtain ⟨fv,h1,hs⟩:=D7 hs
  obtain ⟨avs,h2,hs⟩:=AD8 hs
  cases fv<;>try exact hs.elim
  obtain ⟨r,up,rd,h3,h4⟩:=hs.out
  obtain ⟨hy,h5,h6⟩:=BB4 h4 (h0:=h) q
  exact ⟨r,up,rd,hy,⟨_,_,_,avs,h1,h2,by rw [ql,qn];exact h3⟩,h5,h6⟩
 all_goals
  simp only [BQ4] at hs
  obtain ⟨v,up,rd,h1,h2⟩:=Av8 hs
  obtain ⟨hy,h3,h4⟩:=BB4 h2 (h0:=h) q
  exact ⟨v,up,rd,hy,by rw [ql,qn];exact h1,h3,h4⟩
theorem P5 {anc:List (List Nat)} {np k b:Nat} {log:List Ent} {K:SF→Hp→Prop} {sf:SF} {h:Hp} (hc:Aq9 (chk anc b log) (K sf h)):Ab3 P G n anc np [] k b log K sf h:=⟨fun Q hQ h0 q=>⟨hc.ok,hQ sf h hc.out h0 q⟩⟩
section
variable {anc:List (List Nat)} {np k b:Nat} {log:List Ent} {d:Option Nat} {op:AOp} {g:Option (Nat × Bool)} {os:List L6} {K:SF→Hp→Prop} {sf:SF} {l:List (Nat × AObj)} {nx:Nat}
theorem J6 (hc:(op.isCall && pivot anc np k)=false)
  (hr:Ag7 n sf g (fun sf=>BQ4 P G n sf l nx (fun v up rd h'=>BA2 sf d v fun sf'=>Ab3 P G n anc np os (k+1) b (log++[AP5 ⟨d,op,g⟩ true up rd]) K sf' h') op) (fun sf=>BA2 sf d (.tup []) fun sf'=>Ab3 P G n anc np os (k+1) b (log++[AP5 ⟨d,op,g⟩ false [] []]) K sf' ⟨l,nx+1⟩)):Ab3 P G n anc np (⟨d,op,g⟩::os) k b log K sf ⟨l,nx⟩:=by
 refine ⟨fun Q hQ h q=>?_⟩
 have go:∀ {sf:SF} {v:AV} {h hx:Hp} {log:List Ent},Hq h hx→(BA2 sf d v fun sf'=>Ab3 P G n anc np os (k+1) b log K sf' hx)→Ag1 P G anc np os (k+1) b log Q (AD4 (sd n sf) d v) h:=fun {sf v h hx log} q hp=>by
  obtain ⟨sf',e,hp⟩:=AZ3 (n:=n) hp
  rw [e]
  exact hp.out Q hQ h q
 have q1:Hq (h.appD []) ⟨l,nx+1⟩:=⟨q.lk,by show h.next+1=_;rw [q.next]⟩
 show (if (op.isCall && pivot anc np k)=true then _ else _)
 rw [if_neg (by simp [hc])]
 cases g with
 | none =>
  simp only [Ag7] at hr
  obtain ⟨v,up,rd,hy,k1,k2,k3⟩:=Af9 q hr
  exact AX2 rfl ⟨v,up,rd,k1,go k2 k3⟩
 | some tb =>
  obtain ⟨t,w⟩:=tb
  obtain ⟨p,h1,h2,h3⟩:=AO4 hr
  refine An5 rfl ⟨p,h1,fun e=>?_,fun e=>?_⟩
  ·obtain ⟨sf',e1,h4⟩:=h2 e
   obtain ⟨v,up,rd,hy,k1,k2,k3⟩:=Af9 q h4
   rw [← e1]
   exact ⟨v,up,rd,k1,go k2 k3⟩
  ·obtain ⟨sf',e1,h4⟩:=h3 e
   rw [← e1]
   exact go q1 h4
theorem U8 (hc:op.isCall=false)
  (hr:Ag7 n sf g (fun sf=>BQ4 P G n sf l nx (fun v up rd h'=>BA2 sf d v fun sf'=>Ab3 P G n anc np os (k+1) b (log++[AP5 ⟨d,op,g⟩ true up rd]) K sf' h') op) (fun sf=>BA2 sf d (.tup []) fun sf'=>Ab3 P G n anc np os (k+1) b (log++[AP5 ⟨d,op,g⟩ false [] []]) K sf' ⟨l,nx+1⟩)):Ab3 P G n anc np (⟨d,op,g⟩::os) k b log K sf ⟨l,nx⟩:=J6 (by rw [hc];rfl) hr
theorem K5 (hc:(op.isCall && pivot anc np k)=true)
  (hr:Aq9 (chk anc b log) (Ag7 n sf g (fun sf=>stepX P G n sf l nx (fun v h'=>BA2 sf d v fun sf'=>Ab3 P G n anc np os (k+1) (k+1) [] K sf' h') op) (fun sf=>BA2 sf d (.tup []) fun sf'=>Ab3 P G n anc np os (k+1) (k+1) [] K sf' ⟨l,nx⟩))):Ab3 P G n anc np (⟨d,op,g⟩::os) k b log K sf ⟨l,nx⟩:=by
 refine ⟨fun Q hQ h q=>?_⟩
 have go:∀ {sf:SF} {v:AV} {h hx:Hp},Hq h hx→(BA2 sf d v fun sf'=>Ab3 P G n anc np os (k+1) (k+1) [] K sf' hx)→Ag1 P G anc np os (k+1) (k+1) [] Q (AD4 (sd n sf) d v) h:=fun {sf v h hx} q hp=>by
  obtain ⟨sf',e,hp⟩:=AZ3 (n:=n) hp
  rw [e]
  exact hp.out Q hQ h q
 show (if (op.isCall && pivot anc np k)=true then _ else _)
 rw [if_pos hc]
 refine ⟨hr.ok,?_⟩
 have hs:=hr.out
 have step:∀ {sf:SF},(stepX P G n sf l nx (fun v h'=>BA2 sf d v fun sf'=>Ab3 P G n anc np os (k+1) (k+1) [] K sf' h') op)→Ac5 P G op (sd n sf) h fun v h'=>Ag1 P G anc np os (k+1) (k+1) [] Q (AD4 (sd n sf) d v) h':=fun {sf} hs =>
  AM1 (fun v h' ⟨hy,q',hk⟩=>go q' hk) (Ak8 q hs)
 cases g with
 | none=>exact AX2 rfl (step hs)
 | some tb =>
  obtain ⟨t,w⟩:=tb
  obtain ⟨p,h1,h2,h3⟩:=AO4 hs
  refine An5 rfl ⟨p,h1,fun e=>?_,fun e=>?_⟩
  ·obtain ⟨sf',e1,h4⟩:=h2 e
   rw [← e1];exact step h4
  ·obtain ⟨sf',e1,h4⟩:=h3 e
   rw [← e1];exact go q h4
end
structure AD3 (P:Program) (G:Gl) (rd:Option Nat) (N n:Nat) (c:ACode) (K:Exit→SF→Hp→Prop) (sf:SF) (h:Hp):Prop where
 out:∀ Q:Exit→List AV→Hp→Prop,(∀ e sf hx,K e sf hx→∀ h,Hq h hx→Q e (sd n sf) h)→∀ h1,Hq h1 h→wpc P G rd N c Q (sd n sf) h1
structure RangeX (P:Program) (G:Gl) (rd:Option Nat) (n:Nat) (fv:AV) (ps:List Nat) (as bd:ACode) (K:Exit→SF→Hp→Prop) (sf:SF) (h:Hp):Prop where
 out:∃ g fs cs,fv = .fn g fs cs∧fnOk P g=true∧inLoop h rd∧∀ Q:Exit→List AV→Hp→Prop,(∀ e sf hx,K e sf hx→∀ h,Hq h hx→Q e (sd n sf) h) →
  Ah6 P G (.fn g fs cs) [.yld h.next] ⟨(h.next,.loop .ready none (sd n sf) ps as bd)::h.l,h.next+1⟩ fun _ h2=>rangeQ h.next (sd n sf) Q h2
def thenK (w:SF→Hp→Prop) (K:Exit→SF→Hp→Prop) (e:Exit) (sf:SF) (h:Hp):Prop:=match e with
 | .normal=>w sf h
 | e=>K e sf h
def blockK (id:Nat) (K:Exit→SF→Hp→Prop) (e:Exit) (sf:SF) (h:Hp):Prop:=match e with
 | .exit j=>bif Nat.beq j id then K .normal sf h else K (.exit j) sf h
 | e=>K e sf h
section
variable {rd:Option Nat} {N:Nat} {K:Exit→SF→Hp→Prop} {sf:SF} {h:Hp}
theorem K7 (hk:K .normal sf h):AD3 P G rd N n .skip K sf h:=⟨fun Q hQ h1 q=>hQ _ _ _ hk _ q⟩
theorem K8 {id:Nat} (hk:K (.exit id) sf h):AD3 P G rd N n (.exit id) K sf h:=⟨fun Q hQ h1 q=>hQ _ _ _ hk _ q⟩
theorem Q0 (hk:K .ret sf h):AD3 P G rd N n .ret K sf h:=⟨fun Q hQ h1 q=>hQ _ _ _ hk _ q⟩
theorem Q5 {ops:List L6} (hr:RunX P G n ops (K .normal) sf h):AD3 P G rd N n (.reg ops) K sf h:=⟨fun Q hQ h1 q=>hr.out _ (hQ .normal) h1 q⟩
theorem AD6 {ops:List L6} {pre:List (List Nat)} {l:List (Nat × AObj)} {nx m:Nat} (hq:Av4 ops pre=some m) (hr:BP3 P G n ops (fun sf=>K .normal sf ⟨l,nx+m⟩) sf ⟨l,nx⟩):AD3 P G rd N n (.regD ops pre) K sf ⟨l,nx⟩:=by
 refine ⟨fun Q hQ h1 q=>regD_quiet hq (hr.out _ h1 (fun sf' hk=>?_) q)⟩
 exact hQ .normal sf' _ hk ⟨h1.l,h1.next+m⟩ ⟨q.lk,by simp only [q.next]⟩
theorem AC8 {ops:List L6} {pre:List (List Nat)} (ho:BE0 pre 0=true) (hr:Ab3 P G n (ancs pre) pre.length ops 0 0 [] (K .normal) sf h):AD3 P G rd N n (.regD ops pre) K sf h:=⟨fun Q hQ h1 q=>⟨ho,hr.out _ (hQ .normal) h1 q⟩⟩
theorem P9 {a b:ACode} (ha:AD3 P G rd N n a (thenK (AD3 P G rd N n b K) K) sf h):AD3 P G rd N n (.seq a b) K sf h:=by
 refine ⟨fun Q hQ h1 q=>ha.out _ (fun e sf' hx' hk h' q'=>?_) h1 q⟩
 cases e<;>first|exact hk.out Q hQ h' q'|exact hQ _ _ _ hk _ q'
theorem K9 {c:AX} {a b:ACode} (hc:axK G n sf c fun v=>match v with
  | .bool t=>BrX t (AD3 P G rd N n a K sf h) (AD3 P G rd N n b K sf h)
  | _=>False):AD3 P G rd N n (.cond c a b) K sf h:=by
 refine ⟨fun Q hQ h1 q=>?_⟩
 obtain ⟨v,h2,h⟩:=D7 hc
 cases v<;>try exact h.elim
 obtain ⟨h3,h4⟩:=AF6 h
 exact ⟨_,h2,fun e=>(h3 e).out Q hQ h1 q,fun e=>(h4 e).out Q hQ h1 q⟩
theorem I5 {id:Nat} {c:ACode} (hc:AD3 P G rd N n c (blockK id K) sf h):AD3 P G rd N n (.block id c) K sf h:=by
 refine ⟨fun Q hQ h1 q=>hc.out _ (fun e sf' hx' hk h' q'=>?_) h1 q⟩
 cases e<;>try exact hQ _ _ _ hk _ q'
 rename_i j
 simp only [blockK] at hk
 simp only [BW9]
 cases e:Nat.beq j id with
 | true=>rw [e] at hk;rw [if_pos (beq_eq e)];exact hQ _ _ _ hk _ q'
 | false=>rw [e] at hk;rw [if_neg (Au0 e)];exact hQ _ _ _ hk _ q'
theorem I4 {f:AX} {ps:List Nat} {a b:ACode} (hc:axK G n sf f fun fv=>RangeX P G rd n fv ps a b K sf h):AD3 P G rd N n (.rangeF f ps a b) K sf h:=by
 refine ⟨fun Q hQ h1 q=>?_⟩
 obtain ⟨v,h2,hh⟩:=D7 hc
 obtain ⟨g,fs,cs,rfl,h3,h4,h5⟩:=hh.out
 refine ⟨g,fs,cs,h2,h3,?_,?_⟩
 ·cases rd with
  | none=>trivial
  | some l=>obtain ⟨st,pend,fr,ps,as,bd,e⟩:=h4;exact ⟨st,pend,fr,ps,as,bd,by rw [q.lk];exact e⟩
 ·have:=h5 Q hQ
  rw [← q.next] at this
  have e:Hq ⟨put h1.l h1.next (some (.loop .ready none (sd n sf) ps a b)),h1.next+1⟩ ⟨(h1.next,.loop .ready none (sd n sf) ps a b)::h.l,h1.next+1⟩:=⟨by
   show Go.Am.lk (put h1.l h1.next (some (.loop .ready none (sd n sf) ps a b)))=Go.Am.lk ((h1.next,.loop .ready none (sd n sf) ps a b)::h.l)
   rw [BE4]
   funext j
   simp only [upd,Go.Am.lk,q.lk],rfl⟩
  exact e.callV this
end
end
end Go.Am
namespace Go.Am
section
variable {P:Program} {G:Gl} {n:Nat}
def BO2:Nat→List AV→(SF→Prop)→Prop
 | _,[],k=>k []
 | i,a::r,k=>BO2 (i+1) r fun l=>k ((i,a)::l)
def BO3:Nat→List AV→SF
 | _, [] => []
 | i,a::r=>(i,a)::BO3 (i+1) r
theorem AI9:∀ {l:List AV} {i:Nat} {k:SF→Prop},BO2 i l k→k (BO3 i l)
 | [],_,_,h=>h
 | a::r,i,k,h=>AI9 (l:=r) (i:=i+1) (k:=fun l=>k ((i,a)::l)) h
theorem BB9:∀ {l:List AV} {i t:Nat},AT0 (BO3 i l) t=if i≤t then l.getD (t - i) .undef else .undef
 | [],i,t=>by simp [BO3,AT0]
 | a::r,i,t=>by
  rw [BO3,w9,BB9]
  by_cases h:i=t
  ·subst h;simp
  ·rw [if_neg h]
   by_cases h2:i+1≤t
   ·rw [if_pos h2,if_pos (by omega),show t - i=(t - (i+1))+1 by omega];rfl
   ·rw [if_neg h2,if_neg (by omega)]
theorem Ak9 {args:List AV} (h:args.length≤n):args++List.replicate (n - args.length) .undef=sd n (BO3 0 args):=by
 apply List.ext_getElem?
 intro j
 rw [AP0,BB9,List.getElem?_append]
 by_cases h1:j < args.length
 ·rw [if_pos h1,if_pos (by omega),if_pos (Nat.zero_le _)];simp [h1]
 ·rw [if_neg h1]
  by_cases h2:j < n
  ·rw [if_pos h2,if_pos (Nat.zero_le _),List.getElem?_replicate,if_pos (by omega)]
   simp [List.getElem?_eq_none (show args.length≤j by omega)]
  ·rw [if_neg h2,List.getElem?_replicate,if_neg (by omega)]
structure AV3 (top:Bool) (P:Program) (N:Nat) (h:Hp) (x:AV) (K:AV→Hp→Prop):Prop where
 out:∃ σ r' h',Weak P σ [x] h [r'] h'∧Keeps N σ∧N≤h'.next∧K r' h'
def BD9 (l:List AV) (k:AV→Prop):Prop:=match l with
 | [v]=>k v
 | l=>k (.tup l)
theorem packK_spec {l:List AV} {k:AV→Prop} (h:BD9 l k):k (BD8 l):=by
 match l,h with
 | [],h=>exact h
 | [_],h=>exact h
 | _::_::_,h=>exact h
def res1K (n:Nat) (sf:SF) (l:List (Nat × AObj)) (r:ARes) (k:AV→Prop):Prop:=match r with
 | .tmp t=>bif Nat.blt t n then Ad9 sf t k else False
 | .cell a ag m=>bif Nat.blt a n then Ad9 sf a fun p=>loadK l ag m p fun v _=>k v else False
theorem res1K_spec {sf:SF} {l:List (Nat × AObj)} {r:ARes} {k:AV→Prop} (h:res1K n sf l r k):∃ v,resV (sd n sf) (lk l) r=some v∧k v:=by
 cases r with
 | tmp t =>
  simp only [res1K] at h
  cases e:Nat.blt t n with
  | false=>rw [e] at h;exact h.elim
  | true=>rw [e] at h;exact ⟨_,by simp only [resV];rw [AP0,if_pos (Ap6 e)],AB3 h⟩
 | cell a ag m =>
  simp only [res1K] at h
  cases e:Nat.blt a n with
  | false=>rw [e] at h;exact h.elim
  | true =>
   rw [e] at h
   obtain ⟨v,rd,h1,h2⟩:=As8 (AB3 h)
   exact ⟨v,by simp only [resV];rw [AP0,if_pos (Ap6 e)];simp [h1],h2⟩
def resK (n:Nat) (sf:SF) (l:List (Nat × AObj)):List ARes→(List AV→Prop)→Prop
 | [],k=>k []
 | r::rs,k=>res1K n sf l r fun v=>resK n sf l rs fun vs=>k (v::vs)
theorem BC8 {sf:SF} {l:List (Nat × AObj)}:∀ {rs:List ARes} {k:List AV→Prop},resK n sf l rs k→∃ vs,Aq6 (sd n sf) (lk l) rs=some vs∧k vs
 | [],k,h=>⟨[],rfl,h⟩
 | r::rs,k,h=>by
  obtain ⟨v,h1,h⟩:=res1K_spec h
  obtain ⟨vs,h2,h⟩:=BC8 h
  exact ⟨v::vs,by simp [Aq6,h1,h2],h⟩
def endK (n:Nat) (top:Bool) (P:Program) (rs:List ARes) (N:Nat) (K:AV→Hp→Prop) (e:Exit) (sf:SF) (h:Hp):Prop:=match e with
 | .normal=>resK n sf h.l rs fun l=>BD9 l fun x=>AV3 top P N h x K
 | .ret=>resK n sf h.l rs fun l=>BD9 l fun x=>AV3 top P N h x K
 | _=>False
theorem AS0 {top:Bool} {rs:List ARes} {N:Nat} {K:AV→Hp→Prop} {e:Exit} {sf:SF} {h hx:Hp} (hk:endK n top P rs N K e sf hx) (q:Hq h hx):finQ P rs N K e (sd n sf) h:=by
 have go:(resK n sf hx.l rs fun l=>BD9 l fun x=>AV3 top P N hx x K)→∃ l σ r' h',Aq6 (sd n sf) (lk h.l) rs=some l∧Weak P σ [BD8 l] h [r'] h'∧Keeps N σ∧N≤h'.next∧K r' h':=fun hk=>by
  obtain ⟨vs,h1,h2⟩:=BC8 hk
  obtain ⟨σ,r',h',w,h3⟩:=(packK_spec h2).out
  exact ⟨vs,σ,r',h',by rw [q.lk];exact h1,q.weak w,h3⟩
 cases e<;>first|exact go hk|exact hk.elim
theorem Ao6 {top:Bool} {rs:List ARes} {N:Nat} {K K':AV→Hp→Prop} (hK:∀ v h,K v h→K' v h) {e:Exit} {sf:SF} {hx:Hp} (hk:endK n top P rs N K e sf hx):endK n top P rs N K' e sf hx:=by
 have go:(resK n sf hx.l rs fun l=>BD9 l fun x=>AV3 top P N hx x K)→resK n sf hx.l rs fun l=>BD9 l fun x=>AV3 top P N hx x K':=fun hk=>by
  have up:∀ {x:AV},AV3 top P N hx x K→AV3 top P N hx x K':=fun {x} ⟨⟨σ,r',h',w,k,m,kk⟩⟩=>⟨σ,r',h',w,k,m,hK _ _ kk⟩
  have up2:∀ {l:List AV},(BD9 l fun x=>AV3 top P N hx x K)→BD9 l fun x=>AV3 top P N hx x K':=fun {l} h=>by
   match l,h with
   | [],h=>exact up h
   | [_],h=>exact up h
   | _::_::_,h=>exact up h
  have up3:∀ {rs:List ARes} {k k':List AV→Prop},(∀ l,k l→k' l)→resK n sf hx.l rs k→resK n sf hx.l rs k':=by
   have cells:∀ {l:List (Nat × AObj)} {i:Nat} {k k':List AV→Prop},(∀ l,k l→k' l)→AS4 l i k→AS4 l i k':=fun {l i k k'} hk h=>by
    obtain ⟨cs,h1,h2⟩:=AF2 h;exact BG8 h1 (hk _ h2)
   have part:∀ {ag:Bool} {o m:Nat} {cs:List AV} {k k':AV→Prop},(∀ l,k l→k' l)→BK8 ag o m cs k→BK8 ag o m cs k':=fun {ag o m cs k k'} hk h=>by
    cases ag with
    | false=>obtain ⟨v,h1,h2⟩:=AZ9 (k:=k) h;exact C8 h1 (hk _ h2)
    | true =>
     obtain ⟨h1,h2⟩:=Af1 h
     obtain ⟨h3,h4⟩:=Ac2 h2
     exact R4 h1 rfl (J7 h3 rfl (hk _ h4))
   have look:∀ {t:Nat} {k k':AV→Prop},(∀ v,k v→k' v)→Ad9 sf t k→Ad9 sf t k':=fun {t k k'} hk h=>by
    have e:∀ {sf:SF} {k:AV→Prop},k (AT0 sf t)→Ad9 sf t k:=by
     intro sf
     induction sf with
     | nil=>exact fun h=>h
     | cons p r ih =>
      intro k h
      obtain ⟨i,v⟩:=p
      simp only [AT0] at h
      simp only [Ad9]
      cases e:Nat.beq i t with
      | true=>rw [e] at h;exact h
      | false=>rw [e] at h;exact ih h
    exact e (hk _ (AB3 h))
   intro rs
   induction rs with
   | nil=>exact fun hk h=>hk _ h
   | cons r rs ih =>
    intro k k' hk h
    simp only [resK] at h ⊢
    cases r with
    | tmp t =>
     simp only [res1K] at h ⊢
     cases e:Nat.blt t n with
     | false=>rw [e] at h;exact h.elim
     | true=>rw [e] at h;exact look (fun v hv=>ih (fun l hl=>hk _ hl) hv) h
    | cell a ag m =>
     simp only [res1K] at h ⊢
     cases e:Nat.blt a n with
     | false=>rw [e] at h;exact h.elim
     | true =>
      rw [e] at h
      refine look (fun p hp=>?_) h
      cases p<;>try exact hp.elim
      ·exact cells (fun cs hc=>part (fun v hv=>ih (fun l hl=>hk _ hl) hv) hc) hp
      ·exact part (fun v hv=>ih (fun l hl=>hk _ hl) hv) hp
  exact up3 (fun l=>up2) hk
 cases e<;>first|exact go hk|exact hk.elim
theorem R9 {f:Nat} {ac:ACode} {rs:List ARes} {args:List AV} {r:AV} (G9:P.follows .mixedOrders=true) (hb:Body P f ac rs n) (hG:Ab4 G) (ha:BH9 args) (hr:Plain r) (hn:Nat.ble args.length n=true)
  (hw:BO2 0 args fun sf=>AD3 P G none 0 n ac (endK n true P rs 0 fun r' h'=>r'=r∧h'.l=[]) sf ⟨[],0⟩):Af4 P G f args r:=by
 refine pure_of G9 hb hG ha hr ?_
 rw [Ak9 (Nat.le_of_ble_eq_true hn)]
 exact (AI9 hw).out _ (fun e sf hx hk h q=>AS0 hk q) _ .refl
theorem I8 {f:Nat} {ac:ACode} {rs:List ARes} {args:List AV} {l0:List (Nat × AObj)} {k:Nat} {K:AV→Hp→Prop} (G9:P.follows .mixedOrders=true) (hb:Body P f ac rs n) (hn:Nat.ble args.length n=true)
  (hw:BO2 0 args fun sf=>AD3 P G none k n ac (endK n true P rs k K) sf ⟨l0,k⟩):Ab5 P G f args l0 k K:=by
 refine loc_of G9 hb ?_
 rw [Ak9 (Nat.le_of_ble_eq_true hn)]
 exact (AI9 hw).out _ (fun e sf hx hk h q=>AS0 hk q) _ .refl
theorem AC7 {N:Nat} {h:Hp} {x:AV} {K:AV→Hp→Prop} (hN:Nat.ble N h.next=true) (hk:K x h):AV3 false P N h x K:=⟨id,x,h,weak_refl,fun _ _=>rfl,Nat.le_of_ble_eq_true hN,hk⟩
theorem BG0 {h:Hp} {x r:AV} (hw:WkV P id h ⟨[],0⟩ x r):AV3 true P 0 h x (fun r' h'=>r'=r∧h'.l=[]) :=
 ⟨id,r,⟨[],0⟩,Ak0 (fun i j o o' hi=>by cases hi) ⟨hw,trivial⟩ trivial,fun _ _=>rfl,Nat.le_refl _,rfl,rfl⟩
theorem J4 {h:Hp} {x r:AV} (e:x=r) (hp:Plain r):AV3 true P 0 h x (fun r' h'=>r'=r∧h'.l=[]):=by subst e;exact BG0 (X0 Ah7 hp)
theorem AG7 {h:Hp} {k:IntKind} {m m':Int} (e:m=m'):AV3 true P 0 h (.int k m) (fun r' h'=>r' = .int k m'∧h'.l=[]):=J4 (by rw [e]) A8
theorem K6 {h:Hp} {m m':Bool} (e:m=m'):AV3 true P 0 h (.bool m) (fun r' h'=>r' = .bool m'∧h'.l=[]):=J4 (by rw [e]) D5
theorem AE8 {top:Bool} {N m:Nat} {h:Hp} {x r:AV} {lr:List (Nat × AObj)} {K:AV→Hp→Prop} (ren:List (Nat × Nat)) (hk:AU8 N ren=true) (hm:N≤m) (hi:Az7 (rn ren) lr) (hr:WkV P (rn ren) h ⟨lr,m⟩ x r) (ho:WkO P (rn ren) h ⟨lr,m⟩ lr) (hK:K r ⟨lr,m⟩):AV3 top P N h x K :=
 ⟨rn ren,r,⟨lr,m⟩,Ak0 hi ⟨hr,trivial⟩ ho,AO3 hk,hm,hK⟩
theorem cx_pure {g:Nat} {fs avs cs:List AV} {r:AV} {h:Hp} {K:AV→Hp→Prop} (hp:Af4 P G g (fs++avs++cs) r) (hk:K r h):AN4 P G (.fn g fs cs) avs h K:=⟨Ap5 (hp _ _) ⟨h,.refl,hk⟩⟩
theorem cx_fnU {g:Nat} {fs avs cs:List AV} {r:AV} {rd:List Nat} {h:Hp} {K:AV→Hp→Prop} (hp:FnU P G g (fs++avs++cs) rd (lk h.l) r [] h.next) (hk:K r h):AN4 P G (.fn g fs cs) avs h K:=⟨Ap5 hp ⟨h,.refl,hk⟩⟩
theorem AF1 {g n':Nat} {fs avs cs:List AV} {h:Hp} {K:AV→Hp→Prop} {ac:ACode} {rs:List ARes} (G9:P.follows .mixedOrders=true) (hb:Body P g ac rs n') (hn:Nat.ble (fs++avs++cs).length n'=true)
  (hw:BO2 0 (fs++avs++cs) fun sf=>AD3 P G none h.next n' ac (endK n' false P rs h.next K) sf h):AN4 P G (.fn g fs cs) avs h K:=by
 refine ⟨At9 G9 hb ?_⟩
 rw [Ak9 (Nat.le_of_ble_eq_true hn)]
 refine (AI9 hw).out _ (fun e sf hx hk h q=>AS0 (Ao6 (fun v h' hk=>⟨h',.refl,hk⟩) hk) q) _ .refl
theorem dcx_pure {g:Nat} {avs:List AV} {r:AV} {h:Hp} {K:AV→Up→List Nat→Prop} (hp:Af4 P G g avs r) (hk:K r [] []):AP2 P G g avs h K:=⟨r,[],[],hp _ _,hk⟩
section
variable {A B p:Prop} {a b:Bool} {α:Type} {e m:α} {K:α→Prop}
theorem br_b (hA:b=true→A) (hB:b=false→B):BrX b A B:=⟨hA,hB⟩
theorem Ag9 (h:b=true) (hA:A):BrX b A B:=⟨fun _=>hA,fun e=>(by rw [h] at e;cases e)⟩
theorem Ah0 (h:b=false) (hB:B):BrX b A B:=⟨fun e=>(by rw [h] at e;cases e),fun _=>hB⟩
theorem AG2 (hA:A):BrX true A B:=Ag9 rfl hA
theorem AG3 (hB:B):BrX false A B:=Ah0 rfl hB
theorem br_d [Decidable p] (hA:p→A) (hB:¬ p→B):BrX (decide p) A B:=br_b (fun h=>hA (of_decide_eq_true h)) fun h=>hB (of_decide_eq_false h)
theorem Aj5 (h:BrX b B A):BrX (!b) A B:=by
 cases b
 ·exact AG2 (h.out.2 rfl)
 ·exact AG3 (h.out.1 rfl)
theorem r9 (h:BrX a (BrX b A B) B):BrX (a && b) A B:=by
 cases a
 ·exact AG3 (h.out.2 rfl)
 ·exact h.out.1 rfl
theorem AI4 (h:BrX a A (BrX b A B)):BrX (a || b) A B:=by
 cases a
 ·exact h.out.2 rfl
 ·exact AG2 (h.out.1 rfl)
theorem Aj3 (h:p) (hA:A):CkX p A:=⟨h,hA⟩
theorem AE7 (h:e=m) (hk:K m):EqX e K:=⟨m,h,hk⟩
theorem AC6 (hk:K e):EqX e K:=⟨e,rfl,hk⟩
theorem p9 {e:Int} {K:Int→Prop} (h:-9223372036854775808≤e∧e≤9223372036854775807) (hk:K e):EqX (IntKind.i64.wrap e) K:=⟨e,IntWalk.i64_in e h,hk⟩
theorem AH8 {e:Int} {K:Int→Prop} (h:0≤e∧e≤255) (hk:K e):EqX (IntKind.u8.wrap e) K:=⟨e,IntWalk.u8_in e h,hk⟩
theorem o8 {e:Int} {K:Int→Prop} (h:0≤e∧e≤65535) (hk:K e):EqX (IntKind.u16.wrap e) K:=⟨e,IntWalk.u16_in e h,hk⟩
theorem AH9 {b:Nat} {K:Nat→Prop} (hk:K b):EqX (Int.toNat (b:Int)) K:=⟨b,by simp,hk⟩
theorem p8 {o b s:Nat} {K:Nat→Prop} (h:EqX (o+b * s) K):EqX (o+Int.toNat (b:Int) * s) K:=by simpa using h
theorem o9 {b s:Nat} {K:Nat→Prop} (h:EqX (b * s) K):EqX (Int.toNat (b:Int) * s) K:=by simpa using h
theorem Aj0 {b:Nat} {K:Nat→Prop} (h:K b):EqX (0+b) K:=⟨b,by simp,h⟩
theorem AI1 {o b:Nat} {K:Nat→Prop} (h:EqX (o+b) K):EqX (o+b * 1) K:=by simpa using h
theorem AI0 {b:Nat} {K:Nat→Prop} (h:K b):EqX (b * 1) K:=⟨b,by simp,h⟩
theorem AH7 {b s:Nat} {K:Nat→Prop} (h:K (b * s)):EqX (0+b * s) K:=⟨b * s,by simp,h⟩
theorem AP6 {els:List (List AV)} {j sz:Nat} {K:List AV→Prop} {el:List AV} (h:els[j]? = some el) (hl:el.length=sz) (hk:K el):ElX els j sz K:=⟨el,h,hl,hk⟩
theorem AI2 {els:List (List AV)} {j sz:Nat} {K:List AV→Prop} (h:ElX els j sz K):ElX els (Int.toNat (j:Int)) sz K:=by simpa using h
theorem el_map {α:Type} {f:α→List AV} {l:List α} {j sz:Nat} {K:List AV→Prop} (d:α) (hf:∀ x,(f x).length=sz) (hj:j < l.length) (hk:K (f (Go.Pol.nth d l j))):ElX (l.map f) j sz K :=
 ⟨_,by rw [List.getElem?_map,List.getElem?_eq_getElem hj,Go.Pol.I9 hj];rfl,hf _,hk⟩
theorem Z7 {α:Type} {f:α→List AV} {l:List α} {j sz:Nat} {K:List AV→Prop} {d x:α} (hf:∀ x,(f x).length=sz) (hj:j < l.length) (hx:Go.Pol.nth d l j=x) (hk:K (f x)):ElX (l.map f) j sz K:=by subst hx;exact el_map d hf hj hk
theorem l9 {id off len cp sz:Nat} {k:AV→Prop} (h:k (.int .i64 len)):LenX (.sl id off len cp sz) k:=⟨_,rfl,h⟩
theorem P8 {k:AV→Prop} (h:k (.int .i64 0)):LenX .nils k:=⟨_,rfl,h⟩
theorem I6 {α:Type} {f:α→List AV} {l:List α} {k:AV→Prop} (h:k (.int .i64 l.length)):LenX (.isl (l.map f)) k:=⟨_,by simp only [lenV,List.length_map],h⟩
theorem I7 {els:List (List AV)} {k:AV→Prop} (h:k (.int .i64 els.length)):LenX (.isl els) k:=⟨_,rfl,h⟩
theorem P7 {i sz m:Nat} {k:AV→Prop} (h:k (.int .i64 m)):LenX (AZ7 i sz m) k:=⟨_,len_own,h⟩
theorem S9 {i sz m:Nat} {K:List AV→Prop} (h:K [AZ7 i sz m]):flatK (AZ7 i sz m) K:=by
 by_cases hz:m=0
 ·subst hz;exact h
 ·rw [Al7 hz] at h ⊢;exact h
end
section
variable {l:List (Nat × AObj)} {nx sz bytes d len m:Nat} {x:AV} {src cs:List AV} {rd:List Nat} {k:AV→Up→List Nat→Prop} {ks:AV→Up→Prop}
theorem AS5 {v:AV} {up:Up} {rd:List Nat} {s:AV} (h:BI3 (lk l) nx sz bytes s x=some (v,up,rd)) (hk:ks v up):AppSX l nx sz bytes s x ks:=⟨v,up,up,rd,h,rfl,rfl,hk⟩
theorem appV_nil (hs:Av0 (lk l) sz x=some (src,m,rd)) (h0:0 < m) (hb:m * bytes≤140737488355328∧m≤1000000000000):BI3 (lk l) nx sz bytes .nils x=some (.sl nx 0 m m sz,[(nx,some (.cells src))],rd):=by
 simp only [BI3,hs];rw [if_neg (by omega),if_pos hb]
theorem BP1 (hs:Av0 (lk l) sz x=some (src,m,rd)) (hd:lk l d=some (.cells cs)) (hc:cs.length=len * sz) (h0:0 < m) (hb:(len+m) * bytes≤140737488355328∧len+m≤1000000000000):BI3 (lk l) nx sz bytes (.sl d 0 len len sz) x=some (.sl nx 0 (len+m) (len+m) sz,[(d,none),(nx,some (.cells (cs++src)))],d::rd):=by
 simp only [BI3,hs,Y2,hd]
 rw [if_pos ⟨trivial,by omega⟩,if_neg (by omega),if_pos hb,List.drop_zero,List.take_of_length_le (by omega)]
theorem appV_in {off cp:Nat} (hs:Av0 (lk l) sz x=some (src,m,rd)) (hd:lk l d=some (.cells cs)) (hf:len+m≤cp) (hc:off+(len+m) * sz≤cs.length):BI3 (lk l) nx sz bytes (.sl d off len cp sz) x=some (.sl d off (len+m) cp sz,[(d,some (.cells (over cs (off+len * sz) src)))],d::rd):=by
 have hle:off+len * sz≤cs.length:=Nat.le_trans (Nat.add_le_add_left (Nat.mul_le_mul_right sz (Nat.le_add_right len m)) off) hc
 simp only [BI3,hs,Y2,hd]
 rw [if_pos ⟨trivial,hle⟩,if_pos hf,if_pos hc]
theorem AL2 (hd:lk l d=some (.cells cs)) (hc:cs.length=m * sz):Av0 (lk l) sz (.sl d 0 m m sz)=some (cs,m,[d]):=by
 simp only [Av0,Y2,hd]
 rw [if_pos ⟨trivial,by omega⟩,List.drop_zero,List.take_of_length_le (by omega)]
theorem BX2 {α:Type} {f:α→List AV} {L l2:List α} (hf:∀ x,(f x).length=sz) (hs:Av0 (lk l) sz x=some (src,m,rd)) (hl:L.length ≠ 0→lk l d=some (.cells (flat f L))) (hsrc:src=flat f l2) (h0:0 < m) (hb:(L.length+m) * bytes≤140737488355328∧L.length+m≤1000000000000) :
  BI3 (lk l) nx sz bytes (AZ7 d sz L.length) x=if L.length=0 then some (.sl nx 0 (L.length+m) (L.length+m) sz,[(nx,some (.cells (flat f (L++l2))))],rd) else some (.sl nx 0 (L.length+m) (L.length+m) sz,[(d,none),(nx,some (.cells (flat f (L++l2))))],d::rd):=by
 subst hsrc
 by_cases hz:L.length=0
 ·rw [if_pos hz,hz,own_z,appV_nil hs h0 (by simpa [hz] using hb)]
  cases List.eq_nil_of_length_eq_zero hz
  simp
 ·rw [if_neg hz,Al7 hz,BP1 hs (hl hz) (Aa6 hf L) h0 hb,flat_app]
theorem AO7 {α:Type} {f:α→List AV} {L l2:List α} (hf:∀ x,(f x).length=sz) (hs:Av0 (lk l) sz x=some (src,m,rd)) (hl:L.length ≠ 0→lk l d=some (.cells (flat f L))) (hl0:L.length=0→lk l d=none) (hsrc:src=flat f l2) (h0:0 < m) (hb:(L.length+m) * bytes≤140737488355328∧L.length+m≤1000000000000) (hd:Nat.beq d nx=false)
  (hk:ks (.sl nx 0 (L.length+m) (L.length+m) sz) [(d,none),(nx,some (.cells (flat f (L++l2))))]):AppSX l nx sz bytes (AZ7 d sz L.length) x ks:=by
 have hne:=Au0 hd
 refine ⟨_,if L.length=0 then [(nx,some (.cells (flat f (L++l2))))] else [(d,none),(nx,some (.cells (flat f (L++l2))))],_,if L.length=0 then rd else d::rd,?_,?_,?_,hk⟩
 ·rw [BX2 hf hs hl hsrc h0 hb];split<;>rfl
 ·by_cases hz:L.length=0
  ·rw [if_pos hz]
   funext j
   simp only [upd]
   by_cases h1:j=d
   ·subst h1;rw [if_neg hne,if_pos rfl];exact hl0 hz
   ·rw [if_neg h1]
  ·rw [if_neg hz]
 ·by_cases hz:L.length=0
  ·rw [if_pos hz]
   have : (d == nx)=false:=by simpa using hne
   simp [AR6,this]
  ·rw [if_neg hz]
theorem l6 {α:Type} {f:α→List AV} {L:List α} {k:List (Nat × AObj)→Prop} (h:k []):BI2 (AK8 d f L) d k:=by
 by_cases hz:L.length=0
 ·rw [AQ9 hz];exact h
 ·rw [AJ9 hz];simp only [BI2];rw [show Nat.beq d d=true by simp];exact h
theorem V8 {α:Type} {f:α→List AV} {L:List α} {i:Nat} {k:List (Nat × AObj)→Prop} (hi:Nat.beq i d=false) (h:k (AK8 d f L)):BI2 (AK8 d f L) i k:=by
 by_cases hz:L.length=0
 ·rw [AQ9 hz] at h ⊢;exact h
 ·rw [AJ9 hz] at h ⊢;simp only [BI2,hi];exact h
theorem AX0 {α:Type} {f:α→List AV} {L:List α} (hz:L.length=0) {i:Nat}:lk (AK8 d f L) i=none:=by rw [AQ9 hz];rfl
end
structure WkX (P:Program) (σ:Nat→Nat) (h h':Hp) (x y:AV):Prop where
 out:WkV P σ h h' x y
def WkF (P:Program) (σ:Nat→Nat) (h h':Hp) (sf:SF):SF→Prop
 | []=>True
 | (t,y)::r=>Ad9 sf t (fun x=>WkX P σ h h' x y)∧WkF P σ h h' sf r
theorem Z5 {σ:Nat→Nat} {h h':Hp} {sf:SF}:∀ {sf':SF},WkF P σ h h' sf sf'→∀ t,WkV P σ h h' (AT0 sf t) (AT0 sf' t)
 | [],_,t=>fun c v _ _ _=>RR_undef
 | (i,y)::r,hw,t=>by
  rw [w9]
  by_cases e:i=t
  ·subst e;rw [if_pos rfl];exact (AB3 hw.1).out
  ·rw [if_neg e];exact Z5 hw.2 t
theorem AL0 {σ:Nat→Nat} {h h':Hp} {sf sf':SF} (hw:∀ t,WkV P σ h h' (AT0 sf t) (AT0 sf' t)):WkL P σ h h' (sd n sf) (sd n sf'):=by
 have : ∀ l:List Nat,WkL P σ h h' (l.map (AT0 sf)) (l.map (AT0 sf')):=by
  intro l
  induction l with
  | nil=>trivial
  | cons t l ih=>exact ⟨hw t,ih⟩
 exact this _
structure Az6 (P:Program) (l:List (Nat × Nat)) (n:Nat) (sf:SF) (h:Hp) (sf':SF) (h':Hp):Prop where
 out:Weak P (rn l) (sd n sf) h (sd n sf') h'
theorem weak_x {ren:List (Nat × Nat)} {sf sf':SF} {h h':Hp} (hi:Az7 (rn ren) h'.l) (hf:WkF P (rn ren) h h' sf sf') (ho:WkO P (rn ren) h h' h'.l):Az6 P ren n sf h sf' h':=⟨Ak0 hi (AL0 (Z5 hf)) ho⟩
def keepK:List Nat→SF→(SF→Prop)→Prop
 | [],_,k=>k []
 | t::ts,sf,k=>Ad9 sf t fun v=>keepK ts sf fun b=>k ((t,v)::b)
def keepF (live:List Nat) (sf:SF):SF:=live.map fun t=>(t,AT0 sf t)
theorem Ae4 {sf:SF}:∀ {live:List Nat} {k:SF→Prop},keepK live sf k→k (keepF live sf)
 | [],_,h=>h
 | t::ts,k,h=>Ae4 (live:=ts) (k:=fun b=>k ((t,AT0 sf t)::b)) (AB3 h)
structure NextX {ι:Type} (P:Program) (N n:Nat) (F:ι→SF) (H:ι→Hp) (ok:ι→Prop) (m:ι→Nat) (i:ι) (sf:SF) (h:Hp):Prop where
 out:∃ (j:ι) (l:List (Nat × Nat)),ok j∧m j < m i∧AU8 N l=true∧Az6 P l n sf h (F j) (H j)
def nextK {ι:Type} (P:Program) (N n:Nat) (F:ι→SF) (H:ι→Hp) (ok:ι→Prop) (m:ι→Nat) (i:ι) (K:Exit→SF→Hp→Prop) (e:Exit) (sf:SF) (h:Hp):Prop:=match e with
 | .normal=>NextX P N n F H ok m i sf h
 | e=>K e sf h
theorem D6 {ι:Type} {N:Nat} {F:ι→SF} {H:ι→Hp} {ok:ι→Prop} {m:ι→Nat} {i:ι} {sf:SF} {h:Hp} (j:ι) (l:List (Nat × Nat)) (h1:ok j) (h2:m j < m i) (h3:AU8 N l=true) (hw:Az6 P l n sf h (F j) (H j)):NextX P N n F H ok m i sf h:=⟨j,l,h1,h2,h3,hw⟩
theorem F9 {ι:Type} {rd:Option Nat} {N:Nat} {c:ACode} {K:Exit→SF→Hp→Prop} {sf:SF} {h:Hp} (live:List Nat) (ups:ι→SF) (H:ι→Hp) (ok:ι→Prop) (m:ι→Nat) (i0:ι) (l:List (Nat × Nat)) (hk:AU8 N l=true) (hN:∀ i,N≤(H i).next) (h0:ok i0)
  (hw:keepK live sf fun b=>Az6 P l n sf h (ups i0++b) (H i0)) (hr:keepK live sf fun b=>∀ i,ok i→AD3 P G rd N n c (nextK P N n (fun i=>ups i++b) H ok m i K) (ups i++b) (H i)):AD3 P G rd N n (.loop c) K sf h:=by
 have hw:=Ae4 hw
 have hr:=Ae4 hr
 refine ⟨fun Q hQ h1 q=>loop_ix (fun i=>sd n (ups i++keepF live sf)) H ok m i0 l hk hN h0 (q.weak hw.out) fun i hi=>?_⟩
 refine (hr i hi).out _ (fun e sf' hx hk' h' q'=>?_) _ .refl
 cases e<;>try exact hQ _ _ _ hk' _ q'
 obtain ⟨j,l',k1,k2,k3,k4⟩:=hk'.out
 exact ⟨j,l',k1,k2,AO3 k3,q'.weak k4.out⟩
theorem wko_own {α:Type} {f:α→List AV} {L:List α} {σ:Nat→Nat} {h h':Hp} {i:Nat} (hi:i < h'.next) (hp:∀ c,∀ x ∈ f c,Plain x) (hs:AL9 σ h h') (hl:L.length ≠ 0→lk h.l (σ i)=some (.cells (flat f L))):WkO P σ h h' (AK8 i f L):=by
 by_cases hz:L.length=0
 ·rw [AQ9 hz];exact J5
 ·rw [AJ9 hz];exact J2 hs hi (hl hz) rfl (V4 hp) J5
theorem Aj9 {σ:Nat→Nat} {h h':Hp} {i sz m:Nat} (e:m=0):WkV P σ h h' .nils (AZ7 i sz m):=by
 subst e;exact fun _ _ _ _ hr=>RR_nils.2 (RR_nils.1 hr)
theorem Ab7 {σ:Nat→Nat} {h h':Hp}:∀ {l r:List (Nat × AObj)},WkO P σ h h' l→WkO P σ h h' r→WkO P σ h h' (l++r)
 | [],_,_,hr=>hr
 | (_,.cells _)::l,r,⟨h1,h2,h3⟩,hr=>⟨h1,h2,Ab7 h3 hr⟩
 | (_,.loop ..)::l,r,⟨h1,h2,h3⟩,hr=>⟨h1,h2,Ab7 h3 hr⟩
 | (_,.maps _)::l,r,⟨h1,h2,h3⟩,hr=>⟨h1,h2,Ab7 h3 hr⟩
theorem AN2 {α:Type} {f:α→List AV} {L:List α} {i j:Nat} {o:AObj} (h:lk (AK8 i f L) j=some o):j=i∧L.length ≠ 0:=by
 by_cases hz:L.length=0
 ·rw [AQ9 hz] at h;cases h
 ·rw [AJ9 hz] at h
  simp only [lk] at h
  split at h
  ·rename_i e;exact ⟨e,hz⟩
  ·cases h
theorem Am7 {α:Type} {f:α→List AV} {L:List α} {i j:Nat} {o:AObj}:∀ {l0:List (Nat × AObj)},lk (l0++AK8 i f L) j=some o→∃ o',lk (l0++[(i,AObj.cells [])]) j=some o'
 | [],hj=>by
  obtain ⟨rfl,_⟩:=AN2 hj
  exact ⟨.cells [],by simp [lk]⟩
 | (q,x)::l0,hj=>by
  simp only [List.cons_append,lk] at hj ⊢
  split
  ·exact ⟨_,rfl⟩
  ·rename_i e;rw [if_neg e] at hj;exact Am7 hj
theorem BP6 {α:Type} {f:α→List AV} {L:List α} {ren:List (Nat × Nat)} {sf sf':SF} {h:Hp} {l0:List (Nat × AObj)} {i nx:Nat} (h1:Ad7 ((l0.map fun p=>rn ren p.1)++[rn ren i])=true) (h2:subB (rn ren) h.l l0=true) (h3:L.length ≠ 0→lk h.l (rn ren i)=some (.cells (flat f L))) (h4:Nat.blt i nx=true) (hp:∀ c,∀ x ∈ f c,Plain x)
  (hf:AL9 (rn ren) h ⟨l0++AK8 i f L,nx⟩→WkF P (rn ren) h ⟨l0++AK8 i f L,nx⟩ sf sf') (ho:AL9 (rn ren) h ⟨l0++AK8 i f L,nx⟩→WkO P (rn ren) h ⟨l0++AK8 i f L,nx⟩ l0):Az6 P ren n sf h sf' ⟨l0++AK8 i f L,nx⟩:=by
 have hs:AL9 (rn ren) h ⟨l0++AK8 i f L,nx⟩:=fun j o hj=>by
  rcases Ag6 hj with hj|hj
  ·exact AQ0 (h:=h) (h':=⟨l0,nx⟩) h2 j o hj
  ·obtain ⟨rfl,hz⟩:=AN2 hj;exact ⟨_,h3 hz⟩
 have h5:Az7 (rn ren) (l0++[(i,.cells [])]):=R7 (by simpa using h1)
 have h6:Az7 (rn ren) (l0++AK8 i f L):=fun a b o o' ha hb e=>by
  obtain ⟨_,ha⟩:=Am7 ha
  obtain ⟨_,hb⟩:=Am7 hb
  exact h5 a b _ _ ha hb e
 exact ⟨Ak0 h6 (AL0 (Z5 (hf hs))) (Ab7 (ho hs) (wko_own (Ap6 h4) hp hs h3))⟩
theorem Ar0 {ren:List (Nat × Nat)} {sf sf':SF} {h h':Hp} (hi:Az7 (rn ren) h'.l) (hs:AL9 (rn ren) h h') (hf:AL9 (rn ren) h h'→WkF P (rn ren) h h' sf sf') (ho:AL9 (rn ren) h h'→WkO P (rn ren) h h' h'.l):Az6 P ren n sf h sf' h':=weak_x hi (hf hs) (ho hs)
theorem AY0 {σ:Nat→Nat} {h h':Hp} {i j sz a b:Nat} (e:σ i=j) (hi:i < h'.next) (h0:a ≠ 0) (hab:a=b):WkV P σ h h' (.sl j 0 a a sz) (AZ7 i sz b):=by
 subst hab;rw [Al7 h0];exact BI7 e hi rfl (Nat.le_refl _) (Nat.le_refl _)
end
end Go.Am
namespace Go.Am
section
variable {P:Program} {G:Gl} {n:Nat}
def AP4 (ns:List Nat):List (Nat × AObj)→(List (Nat × AObj)→Prop)→Prop
 | [],k=>k []
 | (j,o)::r,k=>bif ns.contains j then AP4 ns r k else AP4 ns r fun r'=>k ((j,o)::r')
theorem Ae8 {ns:List Nat}:∀ {l:List (Nat × AObj)} {k:List (Nat × AObj)→Prop},AP4 ns l k→k (l.filter fun q=>!ns.contains q.1)
 | [],k,h=>h
 | (j,o)::r,k,h=>by
  simp only [AP4] at h
  simp only [List.filter_cons]
  cases e:ns.contains j with
  | true=>rw [e] at h;simpa using Ae8 (l:=r) h
  | false=>rw [e] at h;simpa using Ae8 (l:=r) (k:=fun r'=>k ((j,o)::r')) h
theorem filt_own {α:Type} {f:α→List AV} {L:List α} {i:Nat} {ns:List Nat} {k:List (Nat × AObj)→Prop} (hi:ns.contains i=false) (h:k (AK8 i f L)):AP4 ns (AK8 i f L) k:=by
 by_cases hz:L.length=0
 ·rw [AQ9 hz] at h ⊢;exact h
 ·rw [AJ9 hz] at h ⊢;simp only [AP4,hi];exact h
theorem lk_app2 {l r:List (Nat × AObj)} (h:∀ i o o',lk l i=some o→lk r i=some o'→False):lk (l++r)=lk (r++l):=by
 have e:∀ (l r:List (Nat × AObj)) i,lk (l++r) i=(lk l i).or (lk r i):=by
  intro l r i
  induction l with
  | nil=>rfl
  | cons p l ih =>
   obtain ⟨j,o⟩:=p
   simp only [List.cons_append,lk]
   split
   ·rfl
   ·exact ih
 funext i
 rw [e,e]
 cases h1:lk l i with
 | none=>simp
 | some o =>
  cases h2:lk r i with
  | none=>simp
  | some o'=>exact (h i o o' h1 h2).elim
theorem AS3 {f m:Nat} {fs cs args args0:List AV} {l0 lr l1 l:List (Nat × AObj)} {nx:Nat} {r r':AV} {K:AV→Hp→Prop} (ns:List Nat) (hc:Ab5 P G f args0 l0 ns.length fun x h1=>x=r∧h1=⟨lr,m⟩) (hGp:Ab4 G) (hd:Ad7 ns=true) (hl0:Given (enter ns) ⟨l,nx⟩ l0)
  (ha:RnL (enter ns) (fs++args++cs) args0) (hlt:∀ n ∈ ns,n < nx) (hr:RnV (back ns nx) r r') (hS:RnS (back ns nx) lr l1) (hk:AP4 ns l fun l2=>K r' ⟨l1++l2,nx+(m - ns.length)⟩):AN4 P G (.fn f fs cs) args ⟨l,nx⟩ K:=by
 have hk:=Ae8 hk
 refine ⟨fun c u vs hR hG hm hu hargs=>?_⟩
 refine callV_loc (h:=⟨l,nx⟩) (K:=fun v h'=>∃ hx,Hq h' hx∧K v hx) ns hc hGp hd hl0 ha hlt ?_ c u vs hR hG hm hu hargs
 rintro x h1 ⟨rfl,rfl⟩
 refine ⟨r',l1,hr,hS,⟨l1++l.filter (fun q=>!ns.contains q.1),nx+(m - ns.length)⟩,⟨?_,rfl⟩,hk⟩
 show lk (l.filter (fun q=>!ns.contains q.1)++l1)=lk (l1++l.filter fun q=>!ns.contains q.1)
 refine lk_app2 fun i o o' h1 h2=>?_
 obtain ⟨q1,q2⟩:=Aa1 h1
 have hlt:i < nx:=(hm.U i).1 (hR.used i o (by rw [hm.at_];exact q2))
 obtain ⟨i',cs,q3,_⟩:=hS.spec Az1 h2
 unfold back at q3
 split at q3
 ·rename_i e;subst q3;exact q1 (List.mem_of_getElem? e)
 ·omega
theorem AO6 {α:Type} {f:α→List AV} {L l2:List α} {l:List (Nat × AObj)} {nx sz bytes d m:Nat} {x:AV} {src:List AV} {rd:List Nat} {k:AV→Up→List Nat→Prop} (hf:∀ x,(f x).length=sz) (hs:Av0 (lk l) sz x=some (src,m,rd)) (hl:L.length ≠ 0→lk l d=some (.cells (flat f L))) (hsrc:src=flat f l2) (h0:0 < m) (hb:(L.length+m) * bytes≤140737488355328∧L.length+m≤1000000000000)
  (hk1:L.length=0→k (.sl nx 0 (L.length+m) (L.length+m) sz) [(nx,some (.cells (flat f (L++l2))))] rd) (hk2:L.length ≠ 0→k (.sl nx 0 (L.length+m) (L.length+m) sz) [(d,none),(nx,some (.cells (flat f (L++l2))))] (d::rd)):AppX l nx sz bytes (AZ7 d sz L.length) x k:=by
 have h:=BX2 (nx:=nx) hf hs hl hsrc h0 hb
 by_cases hz:L.length=0
 ·rw [if_pos hz] at h;exact ⟨_,_,_,h,hk1 hz⟩
 ·rw [if_neg hz] at h;exact ⟨_,_,_,h,hk2 hz⟩
structure RgX (l n:Nat) (sf:SF) (K:Exit→SF→Hp→Prop) (h2:Hp):Prop where
 out:∀ Q:Exit→List AV→Hp→Prop,(∀ e sf hx,K e sf hx→∀ h,Hq h hx→Q e (sd n sf) h)→∀ h,Hq h h2→rangeQ l (sd n sf) Q h
theorem put_hq {h:Hp} {l l':List (Nat × AObj)} {nx i:Nat} {o:AObj} (q:Hq h ⟨l,nx⟩) (e:lk l'=upd (lk l) [(i,some o)]):Hq ⟨put h.l i (some o),h.next⟩ ⟨l',nx⟩:=⟨by
 show lk (put h.l i (some o))=lk l'
 rw [BE4,e,show lk h.l=lk l from q.lk],q.next⟩
section
variable {l nx i:Nat} {sf:SF} {K:Exit→SF→Hp→Prop} {lh:List (Nat × AObj)} {fr':List AV} {ps:List Nat} {as bd:ACode} {st:LoopState}
theorem AD5 (hl:lk lh l=some (.loop .ready none fr' ps as bd)) (hk:repK lh l (.loop .exhausted none fr' ps as bd) fun l'=>K .normal sf ⟨l',nx⟩):RgX l n sf K ⟨lh,nx⟩:=by
 obtain ⟨l',h1,h2⟩:=AQ5 hk
 exact ⟨fun Q hQ h q=>⟨.ready,none,fr',ps,as,bd,by rw [q.lk];exact hl,(fun e=>by cases e),hQ _ _ _ h2 _ (put_hq q h1)⟩⟩
end
theorem range_x {rd:Option Nat} {g n' nx:Nat} {fs cs:List AV} {ps:List Nat} {as bd ac:ACode} {rs:List ARes} {K:Exit→SF→Hp→Prop} {sf:SF} {l:List (Nat × AObj)} (G9:P.follows .mixedOrders=true) (hb:Body P g ac rs n') (hn:Nat.ble (fs++[AV.yld nx]++cs).length n'=true) (hin:inLoop ⟨l,nx⟩ rd)
  (hw:∀ frl asl bdl,frl=sd n sf→asl=as→bdl=bd→BO2 0 (fs++[AV.yld nx]++cs) fun sf'=>AD3 P G none (nx+1) n' ac (endK n' false P rs (nx+1) fun _ h2=>RgX nx n sf K h2) sf' ⟨(nx,.loop .ready none frl ps asl bdl)::l,nx+1⟩):RangeX P G rd n (.fn g fs cs) ps as bd K sf ⟨l,nx⟩:=by
 refine ⟨g,fs,cs,rfl,hb.ok,hin,fun Q hQ=>At9 G9 hb ?_⟩
 rw [Ak9 (Nat.le_of_ble_eq_true hn)]
 exact (AI9 (hw _ _ _ rfl rfl rfl)).out _ (fun e sf' hx hk h q=>AS0 (Ao6 (fun v h' hk=>hk.out Q hQ h' .refl) hk) q) _ .refl
def psK:SF→List Nat→List AV→(SF→Prop)→Prop
 | sf,t::ts,x::xs,k=>psK ((t,x)::sf) ts xs k
 | sf,_,_,k=>k sf
theorem BR8:∀ {ts:List Nat} {xs:List AV} {sf:SF} {k:SF→Prop},psK sf ts xs k→∃ sf',Aq4 (sd n sf) ts xs=sd n sf'∧k sf'
 | [],[],sf,k,h=>⟨sf,rfl,h⟩
 | [],_::_,sf,k,h=>⟨sf,rfl,h⟩
 | _::_,[],sf,k,h=>⟨sf,rfl,h⟩
 | t::ts,x::xs,sf,k,h=>by
  obtain ⟨sf',h1,h2⟩:=BR8 (ts:=ts) (xs:=xs) h
  exact ⟨sf',by rw [← h1,Aq4,BQ6],h2⟩
structure RdX (l:Nat) (K:AV→Hp→Prop) (e:Exit) (h:Hp):Prop where
 out:∀ fr h',Hq h' h→roundQ l (fun v h'=>∃ hx,Hq h' hx∧K v hx) e fr h'
def rdK (l:Nat) (K:AV→Hp→Prop) (e:Exit) (_:SF) (h:Hp):Prop:=RdX l K e h
structure AsX (P:Program) (G:Gl) (l N n:Nat) (bd:ACode) (K:AV→Hp→Prop) (sf1:SF) (h1:Hp):Prop where
 out:∀ h,Hq h h1→assignQ P G l N bd (fun v h'=>∃ hx,Hq h' hx∧K v hx) .normal (sd n sf1) h
def asK (P:Program) (G:Gl) (l N n:Nat) (bd:ACode) (K:AV→Hp→Prop) (e:Exit) (sf1:SF) (h1:Hp):Prop:=match e with
 | .normal=>AsX P G l N n bd K sf1 h1
 | _=>False
theorem cx_yld {l nx:Nat} {lh:List (Nat × AObj)} {pend:Option Code} {frl:List AV} {sf:SF} {ps:List Nat} {as bd:ACode} {args:List AV} {K:AV→Hp→Prop} (G9:P.follows .mixedOrders=true) (hl:lk lh l=some (.loop .ready pend frl ps as bd)) (hF:frl=sd n sf) (hlen:args.length=ps.length)
  (hw:psK sf ps args fun sf1=>AD3 P G (some l) nx n as (asK P G l nx n bd K) sf1 ⟨lh,nx⟩):AN4 P G (.yld l) args ⟨lh,nx⟩ K:=by
 subst hF
 obtain ⟨sf1,h1,h2⟩:=BR8 (n:=n) hw
 refine ⟨callV_yld G9 hl hlen ?_⟩
 rw [h1]
 refine h2.out _ (fun e sf' hx hk h q=>?_) _ .refl
 cases e<;>first|exact hk.out h q|exact hk.elim
theorem Ay4 {l nx:Nat} {lh:List (Nat × AObj)} {pend:Option Code} {frl:List AV} {sf:SF} {ps:List Nat} {asl bdl as bd:ACode} {args:List AV} {K:AV→Hp→Prop} (G9:P.follows .mixedOrders=true) (hl:lk lh l=some (.loop .ready pend frl ps asl bdl)) (hF:frl=sd n sf) (hA:asl=as) (hB:bdl=bd) (hlen:args.length=ps.length)
  (hw:psK sf ps args fun sf1=>AD3 P G (some l) nx n as (asK P G l nx n bd K) sf1 ⟨lh,nx⟩):AN4 P G (.yld l) args ⟨lh,nx⟩ K:=by
 subst hA;subst hB
 exact cx_yld G9 hl hF hlen hw
section
variable {l nx N:Nat} {lh:List (Nat × AObj)} {pend:Option Code} {fr:List AV} {ps:List Nat} {as bd bd':ACode} {K:AV→Hp→Prop} {sf1:SF}
theorem AP7 (hl:lk lh l=some (.loop .ready pend fr ps as bd')) (hw:repK lh l (.loop .busy pend fr ps as bd') fun l'=>AD3 P G (some l) N n bd (rdK l K) sf1 ⟨l',nx⟩):AsX P G l N n bd K sf1 ⟨lh,nx⟩:=by
 obtain ⟨l',h1,h2⟩:=AQ5 hw
 refine ⟨fun h q=>⟨rfl,pend,fr,ps,as,bd',by rw [q.lk];exact hl,?_⟩⟩
 exact h2.out _ (fun e sf' hx hk h' q'=>hk.out _ h' q') _ (put_hq q h1)
theorem AP3 (hl:lk lh l=some (.loop .busy pend fr ps as bd)) (hw:repK lh l (.loop .ready none fr ps as bd) fun l'=>K (.bool true) ⟨l',nx⟩):RdX l K .normal ⟨lh,nx⟩:=by
 obtain ⟨l',h1,h2⟩:=AQ5 hw
 exact ⟨fun _ h q=>⟨pend,fr,ps,as,bd,by rw [q.lk];exact hl,_,put_hq q h1,h2⟩⟩
end
end
end Go.Am
