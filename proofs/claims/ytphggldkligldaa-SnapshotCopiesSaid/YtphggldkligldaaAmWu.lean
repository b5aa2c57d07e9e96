/-
 Calls that change blocks,in a region that draws its order. No program in sight.
-/
import Derived.Test.YtphggldkligldaaAmWv
set_option linter.unusedSimpArgs false
set_option linter.unusedVariables false
namespace Go.Am
section
variable {P:Program} {G:Gl}
def upsOf (l:List (Nat × AObj)):Up:=l.map fun q=>(q.1,some q.2)
theorem upd_ups {at_:At} {j:Nat}:∀ {l:List (Nat × AObj)},upd at_ (upsOf l) j=match lk l j with|some o=>some o|none=>at_ j
 | []=>rfl
 | (i,o)::l=>by
  simp only [upsOf,List.map_cons,upd,lk]
  by_cases e:i=j
  ·subst e;simp
  ·rw [if_neg (fun h=>e h.symm),if_neg (fun h=>e h.symm)];exact upd_ups
inductive GivenA (p:Nat→Nat→Prop) (at_:At):List (Nat × AObj)→Prop where
 | nil:GivenA p at_ []
 | cons {i j:Nat} {cs ds:List AV} {l:List (Nat × AObj)} (hp:p i j) (hi:at_ i=some (.cells cs)) (hc:RnL p cs ds) (t:GivenA p at_ l):GivenA p at_ ((j,.cells ds)::l)
 | maps {i j:Nat} {es:List (AV × AV)} {l:List (Nat × AObj)} (hp:p i j) (hi:at_ i=some (.maps es)) (hc:MapP es) (t:GivenA p at_ l):GivenA p at_ ((j,.maps es)::l)
theorem GivenA.spec {p:Nat→Nat→Prop} {at_:At}:∀ {l:List (Nat × AObj)} {j:Nat} {o:AObj},GivenA p at_ l→lk l j=some o→∃ i cs,p i j∧at_ i=some cs∧RnO p cs o
 | _,j,o,.nil,hl=>by cases hl
 | _,j,o,.cons hp hi hc t,hl=>by
  simp only [lk] at hl
  split at hl
  ·rename_i e;subst e;cases hl;exact ⟨_,_,hp,hi,.cells hc⟩
  ·exact t.spec hl
 | _,j,o,.maps hp hi hc t,hl=>by
  simp only [lk] at hl
  split at hl
  ·rename_i e;subst e;cases hl;exact ⟨_,_,hp,hi,.maps hc⟩
  ·exact t.spec hl
def enterB (ns:List Nat) (i j:Nat):Prop:=ns[i]? = some j
theorem enterB_fun {ns:List Nat}:∀ i j j',enterB ns i j→enterB ns i j'→j=j':=fun i j j' h h'=>by
 unfold enterB at h h';rw [h] at h';exact Option.some.inj h'
theorem fnU_loc {f:Nat} {args args0:List AV} {l0 lr l1:List (Nat × AObj)} {r r':AV} {at_:At} {id:Nat} (ns:List Nat) (hc:LocC P G f args0 l0 ns.length fun x h1=>x=r∧h1=⟨lr,ns.length⟩) (hGp:PlainG G) (hd:nodB ns=true) (hl0:GivenA (enter ns) at_ l0) (hid1:id ∉ l1.map (·.1)) (hall:∀ n ∈ ns,∃ o,lk l1 n=some o)
  (hin:∀ (j n:Nat),ns[j]? = some n→∃ o,lk l0 j=some o) (ha:RnL (enter ns) args args0) (hr:RnV (enterB ns) r r') (hS:RnS (enterB ns) lr l1):FnU P G f args ns at_ r' (upsOf l1) id:=by
 refine ⟨hc.1,fun c vs hR hG hid hat hargs=>?_⟩
 let c0:Cx:={ U:=fun i=>i < ns.length,at_:=lk l0,mu:=fun i=>c.mu (ns.getD i 0),w:=c.w,hid:=fun b=>c.hid b∨∃ id o,c.at_ id=some o∧id ∉ ns∧(c.mu id).1=b }
 have getD_:∀ {j n},ns[j]? = some n→ns.getD j 0=n:=fun {j n} e=>by simp [List.getD_eq_getElem?_getD,e]
 have hlt':∀ {j n},ns[j]? = some n→j < ns.length:=fun {j n} e=>(List.getElem?_eq_some_iff.1 e).1
 have spec0:∀ j o,lk l0 j=some o→∃ i cs,ns[j]? = some i∧c.at_ i=some cs∧RnO (enter ns) cs o:=fun j o ho=>by
  obtain ⟨i,cs,k1,k2,k4⟩:=hl0.spec ho
  exact ⟨i,cs,k1,(hat i (List.mem_of_getElem? k1)).trans k2,k4⟩
 have sub0:Sub (enter ns) c c0:=by
  refine ⟨fun i j (hij:ns[j]? = some i) _=>⟨hlt' hij,by show c.mu (ns.getD j 0)=_;rw [getD_ hij]⟩,rfl,fun b hb=>⟨hb.1,fun j o ho=>?_,fun hh=>hh.elim hb.3 fun ⟨i,o,ho,_,e⟩=>hb.2 i o ho e⟩⟩
  obtain ⟨i,cs,k1,k2,_⟩:=spec0 j o ho
  show (c.mu (ns.getD j 0)).1 ≠ b
  rw [getD_ k1];exact hb.2 i _ k2
 have hR0:Rel P c0:=by
  refine ⟨fun j o ho=>?_,fun j j' o o' ho ho' e=>?_,fun j o ho=>?_,⟨ns.length,fun i hi=>hi⟩,fun j o ho hh=>?_,fun b hb=>hb.elim (hR.hidlt b) fun ⟨i,o,ho,_,e⟩=>e▸(hR.obj i o ho).lt⟩
  ·obtain ⟨i,cs,k1,_⟩:=spec0 j o ho;exact hlt' k1
  ·obtain ⟨i,cs,k1,k2,_⟩:=spec0 j o ho
   obtain ⟨i',cs',k1',k2',_⟩:=spec0 j' o' ho'
   have e':(c.mu (ns.getD j 0)).1=(c.mu (ns.getD j' 0)).1:=e
   rw [getD_ k1,getD_ k1'] at e'
   have:=hR.inj i i' _ _ k2 k2' e'
   subst this
   exact nodB_inj hd k1 k1'
  ·obtain ⟨i,cs,k1,k2,k4⟩:=spec0 j o ho
   show ObjR P c0 (c.mu (ns.getD j 0)) _
   rw [getD_ k1]
   exact k4.obj sub0 (hR.obj i _ k2)
  ·obtain ⟨i,cs,k1,k2,_⟩:=spec0 j o ho
   have hh':c.hid (c.mu (ns.getD j 0)).1∨∃ id o,c.at_ id=some o∧id ∉ ns∧(c.mu id).1=(c.mu (ns.getD j 0)).1:=hh
   rw [getD_ k1] at hh'
   rcases hh' with hh' | ⟨id,o',ho',hn,e⟩
   ·exact hR.nohid i _ k2 hh'
   ·exact hn (hR.inj id i _ _ ho' k2 e▸List.mem_of_getElem? k1)
 have hG0:RelG G c0:=fun n cs hn=>rn_plain (plain_iptr (hGp n cs hn)) c c0 _ sub0 (hG n cs hn)
 have hm0:Mat c0 ⟨l0,ns.length⟩:=⟨rfl,fun i=>Iff.rfl⟩
 have ha0:argsR c0 args0 vs:=⟨by rw [hargs.1,ha.spec.1],ha.rcs sub0 hargs.2⟩
 refine (hc.2 c0 _ hR0 hG0 hm0 ha0).mono ?_
 rintro e w' ⟨v,rfl,x,h1,c2,rfl,⟨rfl,rfl⟩,hrv,hR2,hm2,he2⟩
 have hat2:∀ i o,lk lr i=some o→c2.at_ i=some o:=fun i o hi=>by rw [hm2.at_];exact hi
 have hcU:∀ {j n},ns[j]? = some n→c.U n:=fun {j n} e=>by
  obtain ⟨o,ho⟩:=hin j n e
  obtain ⟨i,cs,k1,k2,_⟩:=spec0 j o ho
  rw [e] at k1;cases k1
  exact hR.used _ _ k2
 let c':Cx:={ c with at_:=upd c.at_ (upsOf l1),w:=c2.w }
 have hmuB:∀ i j,enterB ns i j→c2.U i→c'.U j∧c'.mu j=c2.mu i:=fun i j hb hi=>by
  have e:ns[i]? = some j:=hb
  refine ⟨hcU e,?_⟩
  rw [he2.mu i (hlt' e)]
  show c.mu j=c.mu (ns.getD i 0)
  rw [getD_ e]
 have spec1:∀ j o,c'.at_ j=some o→(j ∉ ns∧c.at_ j=some o)∨∃ i cs,enterB ns i j∧c2.at_ i=some cs∧RnO (enterB ns) cs o:=fun j o ho=>by
  have ho':upd c.at_ (upsOf l1) j=some o:=ho
  rw [upd_ups] at ho'
  cases hl:lk l1 j with
  | some o' =>
   rw [hl] at ho';cases ho'
   obtain ⟨i,cs,k1,k2,k4⟩:=hS.spec enterB_fun hl
   exact .inr ⟨i,cs,k1,hat2 _ _ k2,k4⟩
  | none =>
   rw [hl] at ho'
   refine .inl ⟨fun hj=>?_,ho'⟩
   obtain ⟨o',h'⟩:=hall j hj
   rw [hl] at h';cases h'
 have hidO:∀ j o,j ∉ ns→c.at_ j=some o→c2.hid (c.mu j).1:=fun j o hj ho=>(he2.hid _).2 (.inr ⟨j,o,ho,hj,rfl⟩)
 have hidC:∀ b,c.hid b→c2.hid b:=fun b hb=>(he2.hid b).2 (.inl hb)
 have hfroz:∀ b,c2.Froz b→c'.Froz b:=fun b hb=>by
  refine ⟨hb.1,fun j o ho=>?_,fun hh=>hb.3 (hidC b hh)⟩
  rcases spec1 j o ho with ⟨k1,k2⟩ | ⟨i,cs,k1,k2,_⟩
  ·exact fun e=>hb.3 (e▸hidO j o k1 k2)
  ·rw [(hmuB i j k1 (hR2.used i _ k2)).2];exact hb.2 i _ k2
 have sub1:Sub (enterB ns) c2 c':=⟨hmuB,rfl,hfroz⟩
 have he:Ext c c':=by
  refine ⟨fun i hi=>hi,fun i hi=>rfl,he2.csz,fun b hb=>?_,he2.size,fun _=>Iff.rfl,fun b hb=>he2.hidh b (.inl hb),he2.env⟩
  have k:=he2.froz b (sub0.froz b hb)
  exact ⟨hfroz b k.1,k.2⟩
 refine ⟨v,c',rfl,rfl,hr c2 c' v sub1 hrv,?_,he,rfl,fun i=>?_⟩
 ·refine ⟨fun j o ho=>?_,fun j j' o o' ho ho' e=>?_,fun j o ho=>?_,hR.many,fun j o ho hh=>?_,fun b hb=>Nat.lt_of_lt_of_le (hR.hidlt b hb) he2.size⟩
  ·rcases spec1 j o ho with ⟨k1,k2⟩ | ⟨i,cs,k1,k2,_⟩
   ·exact hR.used j o k2
   ·exact (hmuB i j k1 (hR2.used i _ k2)).1
  ·rcases spec1 j o ho with ⟨k1,k2⟩ | ⟨i,cs,k1,k2,_⟩
   ·rcases spec1 j' o' ho' with ⟨k1',k2'⟩ | ⟨i',cs',k1',k2',_⟩
    ·exact hR.inj j j' _ _ k2 k2' e
    ·rw [(hmuB i' j' k1' (hR2.used i' _ k2')).2] at e
     exact absurd (e▸hidO j o k1 k2) (hR2.nohid i' _ k2')
   ·rcases spec1 j' o' ho' with ⟨k1',k2'⟩ | ⟨i',cs',k1',k2',_⟩
    ·rw [(hmuB i j k1 (hR2.used i _ k2)).2] at e
     exact absurd (e▸hidO j' o' k1' k2') (hR2.nohid i _ k2)
    ·rw [(hmuB i j k1 (hR2.used i _ k2)).2,(hmuB i' j' k1' (hR2.used i' _ k2')).2] at e
     have:=hR2.inj i i' _ _ k2 k2' e
     subst this
     exact enterB_fun i j j' k1 k1'
  ·rcases spec1 j o ho with ⟨k1,k2⟩ | ⟨i,cs,k1,k2,k4⟩
   ·exact (hR.obj j o k2).ext he (he2.hidh _ (.inr ⟨j,o,k2,k1,rfl⟩))
   ·rw [(hmuB i j k1 (hR2.used i _ k2)).2]
    exact k4.obj sub1 (hR2.obj i _ k2)
  ·rcases spec1 j o ho with ⟨k1,k2⟩ | ⟨i,cs,k1,k2,_⟩
   ·exact hR.nohid j o k2 hh
   ·rw [(hmuB i j k1 (hR2.used i _ k2)).2] at hh;exact hR2.nohid i _ k2 (hidC _ hh)
 ·have : newOf (upsOf l1) id=[]:=by
   unfold newOf
   rw [if_neg]
   simp only [upsOf,List.any_map,List.any_eq_true,Function.comp_apply,beq_iff_eq,not_exists,not_and]
   exact fun q hq e=>hid1 (List.mem_map.2 ⟨q,hq,e⟩)
  rw [this];simp;rfl
theorem dcx_loc {f:Nat} {args args0:List AV} {l0 lr l1:List (Nat × AObj)} {r r':AV} {h:Hp} {K:AV→Up→List Nat→Prop} (ns:List Nat) (hc:LocC P G f args0 l0 ns.length fun x h1=>x=r∧h1=⟨lr,ns.length⟩) (hGp:PlainG G) (hd:nodB ns=true) (hl0:GivenA (enter ns) (lk h.l) l0) (hid1:h.next ∉ l1.map (·.1)) (hall:∀ n ∈ ns,∃ o,lk l1 n=some o)
  (hin:∀ (j n:Nat),ns[j]? = some n→∃ o,lk l0 j=some o) (ha:RnL (enter ns) args args0) (hr:RnV (enterB ns) r r') (hS:RnS (enterB ns) lr l1) (hk:K r' (upsOf l1) ns):DCallX P G f args h K:=⟨r',upsOf l1,ns,fnU_loc ns hc hGp hd hl0 hid1 hall hin ha hr hS,hk⟩
end
end Go.Am
