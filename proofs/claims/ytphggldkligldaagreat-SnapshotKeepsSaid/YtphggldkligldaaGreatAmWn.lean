/-
 A call that makes one block,in a region that draws its order;a call that reads alone. No program in sight.
-/
import Derived.Test.YtphggldkligldaaGreatAmOwnT
set_option linter.unusedSimpArgs false
set_option linter.unusedVariables false
namespace Go.Am
section
variable {P:Program} {G:Gl}
def oneMore (ns:List Nat) (id i j:Nat):Prop:=ns[i]? = some j∨(i=ns.length∧j=id)
theorem fnU_new {f:Nat} {args args0 cs cs':List AV} {r r':AV} {at_:At} {id:Nat} (ns:List Nat) (hc:LocC P G f args0 [] ns.length fun x h1=>x=r∧h1=⟨[(ns.length,.cells cs)],ns.length+1⟩) (hGp:PlainG G) (hin:∀ n ∈ ns,∃ o,at_ n=some o)
  (ha:RnL (enter ns) args args0) (hr:RnV (oneMore ns id) r r') (hcs:RnL (oneMore ns id) cs cs'):FnU P G f args ns at_ r' [(id,some (.cells cs'))] id:=by
 refine ⟨hc.1,fun c vs hR hG hid hat hargs=>?_⟩
 let c0:Cx:={ U:=fun i=>i < ns.length,at_:=lk [],mu:=fun i=>c.mu (ns.getD i 0),w:=c.w,hid:=fun b=>c.hid b∨∃ id o,c.at_ id=some o∧(c.mu id).1=b }
 have getD_:∀ {j n},ns[j]? = some n→ns.getD j 0=n:=fun {j n} e=>by simp [List.getD_eq_getElem?_getD,e]
 have hlt':∀ {j n},ns[j]? = some n→j < ns.length:=fun {j n} e=>(List.getElem?_eq_some_iff.1 e).1
 have hcU:∀ {j n},ns[j]? = some n→c.U n:=fun {j n} e=>by
  have hm:=List.mem_of_getElem? e
  obtain ⟨o,ho⟩:=hin n hm
  exact hR.used _ _ ((hat n hm).trans ho)
 have sub0:Sub (enter ns) c c0 :=
  ⟨fun i j (hij:ns[j]? = some i) _=>⟨hlt' hij,by show c.mu (ns.getD j 0)=_;rw [getD_ hij]⟩,rfl,fun b hb=>⟨hb.1,fun j o ho=>(by cases ho),fun hh=>hh.elim hb.3 fun ⟨i,o,ho,e⟩=>hb.2 i o ho e⟩⟩
 have hR0:Rel P c0:=⟨fun j o ho=>(by cases ho),fun j j' o o' ho _ _=>(by cases ho),fun j o ho=>(by cases ho),⟨ns.length,fun i hi=>hi⟩,fun j o ho=>(by cases ho),fun b hb=>hb.elim (hR.hidlt b) fun ⟨i,o,ho,e⟩=>e▸(hR.obj i o ho).lt⟩
 have hG0:RelG G c0:=fun n cs hn=>rn_plain (plain_iptr (hGp n cs hn)) c c0 _ sub0 (hG n cs hn)
 have hm0:Mat c0 ⟨[],ns.length⟩:=⟨rfl,fun i=>Iff.rfl⟩
 have ha0:argsR c0 args0 vs:=⟨by rw [hargs.1,ha.spec.1],ha.rcs sub0 hargs.2⟩
 refine (hc.2 c0 _ hR0 hG0 hm0 ha0).mono ?_
 rintro e w' ⟨v,rfl,x,h1,c2,rfl,⟨rfl,rfl⟩,hrv,hR2,hm2,he2⟩
 have hk2:c2.at_ ns.length=some (.cells cs):=by rw [hm2.at_];simp [lk]
 have hkU:c2.U ns.length:=hR2.used _ _ hk2
 have hnid:∀ {j},c.U j→j ≠ id:=fun h e=>hid (e▸h)
 let c':Cx:={ U:=fun i=>c.U i∨i=id,at_:=upd c.at_ [(id,some (.cells cs'))],mu:=fun i=>if i=id then c2.mu ns.length else c.mu i,w:=c2.w,hid:=c.hid }
 have muO:∀ {j},j ≠ id→c'.mu j=c.mu j:=fun h=>if_neg h
 have muI:c'.mu id=c2.mu ns.length:=if_pos rfl
 have spec1:∀ j o,c'.at_ j=some o→(j ≠ id∧c.at_ j=some o)∨(j=id∧o = .cells cs'):=fun j o ho=>by
  have ho':(if j=id then some (AObj.cells cs') else c.at_ j)=some o:=ho
  split at ho'
  ·rename_i e;cases ho';exact .inr ⟨e,rfl⟩
  ·rename_i e;exact .inl ⟨e,ho'⟩
 have hidO:∀ j o,c.at_ j=some o→c2.hid (c.mu j).1:=fun j o ho=>(he2.hid _).2 (.inr ⟨j,o,ho,rfl⟩)
 have hidC:∀ b,c.hid b→c2.hid b:=fun b hb=>(he2.hid b).2 (.inl hb)
 have hfroz:∀ b,c2.Froz b→c'.Froz b:=fun b hb=>by
  refine ⟨hb.1,fun j o ho=>?_,fun hh=>hb.3 (hidC b hh)⟩
  rcases spec1 j o ho with ⟨k1,k2⟩ | ⟨rfl,_⟩
  ·rw [muO k1];exact fun e=>hb.3 (e▸hidO j o k2)
  ·rw [muI];exact hb.2 _ _ hk2
 have sub1:Sub (oneMore ns id) c2 c':=by
  refine ⟨fun i j hij hi=>?_,rfl,hfroz⟩
  rcases hij with e | ⟨rfl,rfl⟩
  ·refine ⟨.inl (hcU e),?_⟩
   rw [muO (hnid (hcU e)),he2.mu i (hlt' e)]
   show c.mu j=c.mu (ns.getD i 0)
   rw [getD_ e]
  ·exact ⟨.inr rfl,muI⟩
 have he:Ext c c':=by
  refine ⟨fun i hi=>.inl hi,fun i hi=>muO (hnid hi),he2.csz,fun b hb=>?_,he2.size,fun _=>Iff.rfl,fun b hb=>he2.hidh b (.inl hb),he2.env⟩
  have k:=he2.froz b (sub0.froz b hb)
  exact ⟨hfroz b k.1,k.2⟩
 refine ⟨v,c',rfl,rfl,hr c2 c' v sub1 hrv,?_,he,rfl,fun i=>?_⟩
 ·refine ⟨fun j o ho=>?_,fun j j' o o' ho ho' e=>?_,fun j o ho=>?_,?_,fun j o ho hh=>?_,fun b hb=>Nat.lt_of_lt_of_le (hR.hidlt b hb) he2.size⟩
  ·rcases spec1 j o ho with ⟨k1,k2⟩ | ⟨rfl,_⟩
   ·exact .inl (hR.used j o k2)
   ·exact .inr rfl
  ·rcases spec1 j o ho with ⟨k1,k2⟩ | ⟨rfl,_⟩
   ·rcases spec1 j' o' ho' with ⟨k1',k2'⟩ | ⟨rfl,_⟩
    ·rw [muO k1,muO k1'] at e;exact hR.inj j j' _ _ k2 k2' e
    ·rw [muO k1,muI] at e;exact absurd (e▸hidO j o k2) (hR2.nohid _ _ hk2)
   ·rcases spec1 j' o' ho' with ⟨k1',k2'⟩ | ⟨rfl,_⟩
    ·rw [muO k1',muI] at e;exact absurd (e▸hidO j' o' k2') (hR2.nohid _ _ hk2)
    ·rfl
  ·rcases spec1 j o ho with ⟨k1,k2⟩ | ⟨rfl,rfl⟩
   ·rw [muO k1];exact (hR.obj j o k2).ext he (he2.hidh _ (.inr ⟨j,o,k2,rfl⟩))
   ·rw [muI]
    obtain ⟨a,T,q1,q2⟩:=hR2.obj _ _ hk2
    exact ⟨a,T,q1,hcs.rc1 sub1 q2⟩
  ·obtain ⟨N,hN⟩:=hR.many
   exact ⟨max N (id+1),fun i hi=>hi.elim (fun h=>Nat.lt_of_lt_of_le (hN i h) (Nat.le_max_left ..)) fun h=>by subst h;exact Nat.lt_of_lt_of_le (Nat.lt_succ_self _) (Nat.le_max_right ..)⟩
  ·rcases spec1 j o ho with ⟨k1,k2⟩ | ⟨rfl,_⟩
   ·rw [muO k1] at hh;exact hR.nohid j o k2 hh
   ·rw [muI] at hh;exact hR2.nohid _ _ hk2 (hidC _ hh)
 ·have : newOf [(id,some (AObj.cells cs'))] id=[id]:=by simp [newOf]
  rw [this];simp;rfl
theorem dcx_new {f:Nat} {args args0 cs cs':List AV} {r r':AV} {h:Hp} {K:AV→Up→List Nat→Prop} (ns:List Nat) (hc:LocC P G f args0 [] ns.length fun x h1=>x=r∧h1=⟨[(ns.length,.cells cs)],ns.length+1⟩) (hGp:PlainG G) (hin:∀ n ∈ ns,∃ o,lk h.l n=some o)
  (ha:RnL (enter ns) args args0) (hr:RnV (oneMore ns h.next) r r') (hcs:RnL (oneMore ns h.next) cs cs') (hk:K r' [(h.next,some (.cells cs'))] ns):DCallX P G f args h K:=⟨r',_,ns,fnU_new ns hc hGp hin ha hr hcs,hk⟩
end
theorem appx_q {qa qb:Prop} {α:Type} {L:List α} {l:List (Nat × AObj)} {nx sz bytes d:Nat} {x:AV} {k:AV→Up→List Nat→Prop} (hq:HidP ((L.length=0→qa)∧(L.length ≠ 0→qb))) (h:HidP (L.length=0→qa)→HidP (L.length ≠ 0→qb)→AppX l nx sz bytes (ownV d sz L.length) x k):AppX l nx sz bytes (ownV d sz L.length) x k:=h ⟨hq.out.1⟩ ⟨hq.out.2⟩
end Go.Am
