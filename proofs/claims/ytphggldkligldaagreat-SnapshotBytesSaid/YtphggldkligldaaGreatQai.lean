/-
 Calls that change blocks,in a region that draws its order. No program in sight.
 A walk as an argument's default: what is left of it is put together in one proposition. No program in sight.
 Zero values with very many cells: the code is turned with names for them. No program in sight.
-/
import Derived.Test.YtphggldkligldaaGreatQah
set_option linter.unusedSimpArgs false
set_option linter.unusedVariables false
namespace Go.Am
section
variable {P:Program} {G:Gl}
def Ao8 (l:List (Nat × AObj)):Up:=l.map fun q=>(q.1,some q.2)
theorem upd_ups {at_:At} {j:Nat}:∀ {l:List (Nat × AObj)},upd at_ (Ao8 l) j=match lk l j with|some o=>some o|none=>at_ j
 | []=>rfl
 | (i,o)::l=>by
  simp only [Ao8,List.map_cons,upd,lk]
  by_cases e:i=j
  ·subst e;simp
  ·rw [if_neg (fun h=>e h.symm),if_neg (fun h=>e h.symm)];exact upd_ups
inductive GivenA (p:Nat→Nat→Prop) (at_:At):List (Nat × AObj)→Prop where
 | nil:GivenA p at_ []
 | cons {i j:Nat} {cs ds:List AV} {l:List (Nat × AObj)} (hp:p i j) (hi:at_ i=some (.cells cs)) (hc:RnL p cs ds) (t:GivenA p at_ l):GivenA p at_ ((j,.cells ds)::l)
 | maps {i j:Nat} {es:List (AV × AV)} {l:List (Nat × AObj)} (hp:p i j) (hi:at_ i=some (.maps es)) (hc:MapP es) (t:GivenA p at_ l):GivenA p at_ ((j,.maps es)::l)
theorem GivenA.spec {p:Nat→Nat→Prop} {at_:At}:∀ {l:List (Nat × AObj)} {j:Nat} {o:AObj},GivenA p at_ l→lk l j=some o→∃ i cs,p i j∧at_ i=some cs∧RnO p cs o
 | _,j,o,.nil,hl=>by cases hl
 | _,j,o,.cons hp hi hc t,hl=>by
  simp only [lk] at hl
  split at hl
  ·rename_i e;subst e;cases hl;exact ⟨_,_,hp,hi,.cells hc⟩
  ·exact t.spec hl
 | _,j,o,.maps hp hi hc t,hl=>by
  simp only [lk] at hl
  split at hl
  ·rename_i e;subst e;cases hl;exact ⟨_,_,hp,hi,.maps hc⟩
  ·exact t.spec hl
def U2 (ns:List Nat) (i j:Nat):Prop:=ns[i]? = some j
theorem An5 {ns:List Nat}:∀ i j j',U2 ns i j→U2 ns i j'→j=j':=fun i j j' h h'=>by
 unfold U2 at h h';rw [h] at h';exact Option.some.inj h'
theorem fnU_loc {f:Nat} {args args0:List AV} {l0 lr l1:List (Nat × AObj)} {r r':AV} {at_:At} {id:Nat} (ns:List Nat) (hc:AQ1 P G f args0 l0 ns.length fun x h1=>x=r∧h1=⟨lr,ns.length⟩) (hGp:AR2 G) (hd:AY6 ns=true) (hl0:GivenA (enter ns) at_ l0) (hid1:id ∉ l1.map (·.1)) (hall:∀ n ∈ ns,∃ o,lk l1 n=some o)
  (hin:∀ (j n:Nat),ns[j]? = some n→∃ o,lk l0 j=some o) (ha:RnL (enter ns) args args0) (hr:RnV (U2 ns) r r') (hS:RnS (U2 ns) lr l1):FnU P G f args ns at_ r' (Ao8 l1) id:=by
 refine ⟨hc.1,fun c vs hR hG hid hat hargs=>?_⟩
 let c0:Cx:={ U:=fun i=>i < ns.length,at_:=lk l0,mu:=fun i=>c.mu (ns.getD i 0),w:=c.w,hid:=fun b=>c.hid b∨∃ id o,c.at_ id=some o∧id ∉ ns∧(c.mu id).1=b }
 have getD_:∀ {j n},ns[j]? = some n→ns.getD j 0=n:=fun {j n} e=>by simp [List.getD_eq_getElem?_getD,e]
 have hlt':∀ {j n},ns[j]? = some n→j < ns.length:=fun {j n} e=>(List.getElem?_eq_some_iff.1 e).1
 have spec0:∀ j o,lk l0 j=some o→∃ i cs,ns[j]? = some i∧c.at_ i=some cs∧RnO (enter ns) cs o:=fun j o ho=>by
  obtain ⟨i,cs,k1,k2,k4⟩:=hl0.spec ho
  exact ⟨i,cs,k1,(hat i (List.mem_of_getElem? k1)).trans k2,k4⟩
 have sub0:Sub (enter ns) c c0:=by
  refine ⟨fun i j (hij:ns[j]? = some i) _=>⟨hlt' hij,by show c.mu (ns.getD j 0)=_;rw [getD_ hij]⟩,rfl,fun b hb=>⟨hb.1,fun j o ho=>?_,fun hh=>hh.elim hb.3 fun ⟨i,o,ho,_,e⟩=>hb.2 i o ho e⟩⟩
  obtain ⟨i,cs,k1,k2,_⟩:=spec0 j o ho
  show (c.mu (ns.getD j 0)).1 ≠ b
  rw [getD_ k1];exact hb.2 i _ k2
 have hR0:Rel P c0:=by
  refine ⟨fun j o ho=>?_,fun j j' o o' ho ho' e=>?_,fun j o ho=>?_,⟨ns.length,fun i hi=>hi⟩,fun j o ho hh=>?_,fun b hb=>hb.elim (hR.hidlt b) fun ⟨i,o,ho,_,e⟩=>e▸(hR.obj i o ho).lt⟩
  ·obtain ⟨i,cs,k1,_⟩:=spec0 j o ho;exact hlt' k1
  ·obtain ⟨i,cs,k1,k2,_⟩:=spec0 j o ho
   obtain ⟨i',cs',k1',k2',_⟩:=spec0 j' o' ho'
   have e':(c.mu (ns.getD j 0)).1=(c.mu (ns.getD j' 0)).1:=e
   rw [getD_ k1,getD_ k1'] at e'
   have:=hR.inj i i' _ _ k2 k2' e'
   subst this
   exact Aq9 hd k1 k1'
  ·obtain ⟨i,cs,k1,k2,k4⟩:=spec0 j o ho
   show BD4 P c0 (c.mu (ns.getD j 0)) _
   rw [getD_ k1]
   exact k4.obj sub0 (hR.obj i _ k2)
  ·obtain ⟨i,cs,k1,k2,_⟩:=spec0 j o ho
   have hh':c.hid (c.mu (ns.getD j 0)).1∨∃ id o,c.at_ id=some o∧id ∉ ns∧(c.mu id).1=(c.mu (ns.getD j 0)).1:=hh
   rw [getD_ k1] at hh'
   rcases hh' with hh' | ⟨id,o',ho',hn,e⟩
   ·exact hR.nohid i _ k2 hh'
   ·exact hn (hR.inj id i _ _ ho' k2 e▸List.mem_of_getElem? k1)
 have hG0:AT0 G c0:=fun n cs hn=>D6 (AE4 (hGp n cs hn)) c c0 _ sub0 (hG n cs hn)
 have hm0:Mat c0 ⟨l0,ns.length⟩:=⟨rfl,fun i=>Iff.rfl⟩
 have ha0:AE0 c0 args0 vs:=⟨by rw [hargs.1,ha.spec.1],ha.rcs sub0 hargs.2⟩
 refine (hc.2 c0 _ hR0 hG0 hm0 ha0).mono ?_
 rintro e w' ⟨v,rfl,x,h1,c2,rfl,⟨rfl,rfl⟩,hrv,hR2,hm2,he2⟩
 have hat2:∀ i o,lk lr i=some o→c2.at_ i=some o:=fun i o hi=>by rw [hm2.at_];exact hi
 have hcU:∀ {j n},ns[j]? = some n→c.U n:=fun {j n} e=>by
  obtain ⟨o,ho⟩:=hin j n e
  obtain ⟨i,cs,k1,k2,_⟩:=spec0 j o ho
  rw [e] at k1;cases k1
  exact hR.used _ _ k2
 let c':Cx:={ c with at_:=upd c.at_ (Ao8 l1),w:=c2.w }
 have hmuB:∀ i j,U2 ns i j→c2.U i→c'.U j∧c'.mu j=c2.mu i:=fun i j hb hi=>by
  have e:ns[i]? = some j:=hb
  refine ⟨hcU e,?_⟩
  rw [he2.mu i (hlt' e)]
  show c.mu j=c.mu (ns.getD i 0)
  rw [getD_ e]
 have spec1:∀ j o,c'.at_ j=some o→(j ∉ ns∧c.at_ j=some o)∨∃ i cs,U2 ns i j∧c2.at_ i=some cs∧RnO (U2 ns) cs o:=fun j o ho=>by
  have ho':upd c.at_ (Ao8 l1) j=some o:=ho
  rw [upd_ups] at ho'
  cases hl:lk l1 j with
  | some o' =>
   rw [hl] at ho';cases ho'
   obtain ⟨i,cs,k1,k2,k4⟩:=hS.spec An5 hl
   exact .inr ⟨i,cs,k1,hat2 _ _ k2,k4⟩
  | none =>
   rw [hl] at ho'
   refine .inl ⟨fun hj=>?_,ho'⟩
   obtain ⟨o',h'⟩:=hall j hj
   rw [hl] at h';cases h'
 have hidO:∀ j o,j ∉ ns→c.at_ j=some o→c2.hid (c.mu j).1:=fun j o hj ho=>(he2.hid _).2 (.inr ⟨j,o,ho,hj,rfl⟩)
 have hidC:∀ b,c.hid b→c2.hid b:=fun b hb=>(he2.hid b).2 (.inl hb)
 have hfroz:∀ b,c2.Froz b→c'.Froz b:=fun b hb=>by
  refine ⟨hb.1,fun j o ho=>?_,fun hh=>hb.3 (hidC b hh)⟩
  rcases spec1 j o ho with ⟨k1,k2⟩ | ⟨i,cs,k1,k2,_⟩
  ·exact fun e=>hb.3 (e▸hidO j o k1 k2)
  ·rw [(hmuB i j k1 (hR2.used i _ k2)).2];exact hb.2 i _ k2
 have sub1:Sub (U2 ns) c2 c':=⟨hmuB,rfl,hfroz⟩
 have he:Ext c c':=by
  refine ⟨fun i hi=>hi,fun i hi=>rfl,he2.csz,fun b hb=>?_,he2.size,fun _=>Iff.rfl,fun b hb=>he2.hidh b (.inl hb),he2.env⟩
  have k:=he2.froz b (sub0.froz b hb)
  exact ⟨hfroz b k.1,k.2⟩
 refine ⟨v,c',rfl,rfl,hr c2 c' v sub1 hrv,?_,he,rfl,fun i=>?_⟩
 ·refine ⟨fun j o ho=>?_,fun j j' o o' ho ho' e=>?_,fun j o ho=>?_,hR.many,fun j o ho hh=>?_,fun b hb=>Nat.lt_of_lt_of_le (hR.hidlt b hb) he2.size⟩
  ·rcases spec1 j o ho with ⟨k1,k2⟩ | ⟨i,cs,k1,k2,_⟩
   ·exact hR.used j o k2
   ·exact (hmuB i j k1 (hR2.used i _ k2)).1
  ·rcases spec1 j o ho with ⟨k1,k2⟩ | ⟨i,cs,k1,k2,_⟩
   ·rcases spec1 j' o' ho' with ⟨k1',k2'⟩ | ⟨i',cs',k1',k2',_⟩
    ·exact hR.inj j j' _ _ k2 k2' e
    ·rw [(hmuB i' j' k1' (hR2.used i' _ k2')).2] at e
     exact absurd (e▸hidO j o k1 k2) (hR2.nohid i' _ k2')
   ·rcases spec1 j' o' ho' with ⟨k1',k2'⟩ | ⟨i',cs',k1',k2',_⟩
    ·rw [(hmuB i j k1 (hR2.used i _ k2)).2] at e
     exact absurd (e▸hidO j' o' k1' k2') (hR2.nohid i _ k2)
    ·rw [(hmuB i j k1 (hR2.used i _ k2)).2,(hmuB i' j' k1' (hR2.used i' _ k2')).2] at e
     have:=hR2.inj i i' _ _ k2 k2' e
     subst this
     exact An5 i j j' k1 k1'
  ·rcases spec1 j o ho with ⟨k1,k2⟩ | ⟨i,cs,k1,k2,k4⟩
   ·exact (hR.obj j o k2).ext he (he2.hidh _ (.inr ⟨j,o,k2,k1,rfl⟩))
   ·rw [(hmuB i j k1 (hR2.used i _ k2)).2]
    exact k4.obj sub1 (hR2.obj i _ k2)
  ·rcases spec1 j o ho with ⟨k1,k2⟩ | ⟨i,cs,k1,k2,_⟩
   ·exact hR.nohid j o k2 hh
   ·rw [(hmuB i j k1 (hR2.used i _ k2)).2] at hh;exact hR2.nohid i _ k2 (hidC _ hh)
 ·have : w9 (Ao8 l1) id=[]:=by
   unfold w9
   rw [if_neg]
   simp only [Ao8,List.any_map,List.any_eq_true,Function.comp_apply,beq_iff_eq,not_exists,not_and]
   exact fun q hq e=>hid1 (List.mem_map.2 ⟨q,hq,e⟩)
  rw [this];simp;rfl
theorem At3 {f:Nat} {args args0:List AV} {l0 lr l1:List (Nat × AObj)} {r r':AV} {h:Hp} {K:AV→Up→List Nat→Prop} (ns:List Nat) (hc:AQ1 P G f args0 l0 ns.length fun x h1=>x=r∧h1=⟨lr,ns.length⟩) (hGp:AR2 G) (hd:AY6 ns=true) (hl0:GivenA (enter ns) (lk h.l) l0) (hid1:h.next ∉ l1.map (·.1)) (hall:∀ n ∈ ns,∃ o,lk l1 n=some o)
  (hin:∀ (j n:Nat),ns[j]? = some n→∃ o,lk l0 j=some o) (ha:RnL (enter ns) args args0) (hr:RnV (U2 ns) r r') (hS:RnS (U2 ns) lr l1) (hk:K r' (Ao8 l1) ns):AR4 P G f args h K:=⟨r',Ao8 l1,ns,fnU_loc ns hc hGp hd hl0 hid1 hall hin ha hr hS,hk⟩
end
end Go.Am
namespace Go.Am
structure X5 (p:Prop):Prop where
 out:p
section
variable {p A B qa qb:Prop} {b:Bool}
theorem AO1 [Decidable p] (h:p) (hA:A):BrX (decide p) A B:=At9 (decide_eq_true h) hA
theorem AO2 [Decidable p] (h:¬ p) (hB:B):BrX (decide p) A B:=Au0 (decide_eq_false h) hB
theorem N9 [Decidable p] (hq:X5 ((p→qa)∧(¬ p→qb))) (hA:p→X5 qa→A) (hB:¬ p→X5 qb→B):BrX (decide p) A B:=br_d (fun h=>hA h ⟨hq.out.1 h⟩) fun h=>hB h ⟨hq.out.2 h⟩
theorem O1 (hq:X5 ((b=true→qa)∧(b=false→qb))) (hA:b=true→X5 qa→A) (hB:b=false→X5 qb→B):BrX b A B:=br_b (fun h=>hA h ⟨hq.out.1 h⟩) fun h=>hB h ⟨hq.out.2 h⟩
theorem eqn_q {els:List (List AV)} {K:Bool→Prop} (hq:X5 (qa∧qb)) (hA:X5 qa→K true) (hB:X5 qb→K false):EqnX (.isl els) K:=by
 cases els with
 | nil=>exact ⟨hA ⟨hq.out.1⟩,hB ⟨hq.out.2⟩⟩
 | cons a l=>exact ⟨hB ⟨hq.out.2⟩⟩
theorem eqn_n {K:Bool→Prop} (hq:X5 (qa∧qb)) (hA:X5 qa→K true) (hB:X5 qb→K false):EqnX .nils K:=⟨hA ⟨hq.out.1⟩,hB ⟨hq.out.2⟩⟩
theorem As7 {el:List AV} {els:List (List AV)} {K:Bool→Prop} (h:K false):EqnX (.isl (el::els)) K:=⟨h⟩
theorem As6 {α:Type} {f:α→List AV} {x:α} {l:List α} {K:Bool→Prop} (h:K false):EqnX (.isl ((x::l).map f)) K:=⟨h⟩
theorem eqn_sl {id off len cp sz:Nat} {K:Bool→Prop} (h:K false):EqnX (.sl id off len cp sz) K:=⟨h⟩
end
end Go.Am
namespace Go.Am
def eqVA (v:Value) (x:AV):Bool:=match v,x with
 | .int k a,.int k' b=>decide (k=k') && decide (a=b)
 | .bool a,.bool b=>a == b
 | .slice none 0 0,.nils=>true
 | _,_=>false
theorem eqVA_ok {v:Value} {x:AV} (h:eqVA v x=true):ofL v=some x:=by
 unfold eqVA at h
 split at h
 ·simp only [Bool.and_eq_true,decide_eq_true_eq] at h
  obtain ⟨rfl,rfl⟩:=h
  rfl
 ·simp only [beq_iff_eq] at h
  subst h;rfl
 ·rfl
 ·cases h
def chkV:List Value→List AV→Bool
 | [],[]=>true
 | v::r,y::s=>match eqVA v y with
  | true=>chkV r s
  | false=>false
 | _,_=>false
theorem chkV_ok:∀ {l:List Value} {m:List AV},chkV l m=true→l.mapM ofL=some m
 | [],[],_=>rfl
 | v::r,y::s,h=>by
  simp only [chkV] at h
  split at h
  ·rename_i e
   rw [List.mapM_cons,eqVA_ok e,chkV_ok h];rfl
  ·cases h
 | [],_::_,h=>by cases h
 | _::_,[],h=>by cases h
def chkZ (i:TypeInfo) (z:List AV):Bool:=match i.zero with
 | some v=>chkV v.cells.toList z
 | none=>false
theorem chkZ_ok {P:Program} {t:TypeId} {i:TypeInfo} {z:List AV} (h1:P.info? t=some i) (h:chkZ i z=true):zeroOf P t=some z:=by
 unfold chkZ at h
 unfold zeroOf
 rw [h1]
 split at h
 ·rename_i v hv
  show (i.zero).bind _=_
  rw [hv];exact chkV_ok h
 ·cases h
section
variable {P:Program} {Z:TypeId→Option (List AV)}
def copZ (Z:TypeId→Option (List AV)) (P:Program):Op→Option AOp
 | .alloc e=>(Z e).map .new
 | .build t ps=>match P.underlying t,Z t with
  | some (.struct fs),some z=>match fs.toList.mapM (fun f=>(P.info? f.type).map fun i=>(f.offset,i.size)) with
   | some pl=>(AR1 (pl.toArray[·]?) ps.toList).map (.build z)
   | none=>none
  | some (.array _ e),some z=>(AF0 P e).bind fun s=>(AR1 (fun i=>some (i * s,s)) ps.toList).map (.build z)
  | _,_=>none
 | op=>cop P op
def ZOk (Z:TypeId→Option (List AV)) (P:Program):Prop:=∀ t z,Z t=some z→zeroOf P t=some z
theorem copZ_ok (hZ:ZOk Z P) {op:Op} {ao:AOp} (h:copZ Z P op=some ao):cop P op=some ao:=by
 cases op
 case alloc e =>
  simp only [copZ,Option.map_eq_some_iff] at h
  obtain ⟨z,h1,rfl⟩:=h
  simp only [cop,hZ _ _ h1,Option.map_some]
 case build t ps =>
  simp only [copZ] at h
  split at h
  ·rename_i fs z h1 h2
   simp only [cop,h1,hZ _ _ h2]
   exact h
  ·rename_i n e z h1 h2
   simp only [cop,h1,hZ _ _ h2]
   exact h
  ·cases h
 all_goals exact h
def BQ4 (Z:TypeId→Option (List AV)) (P:Program) (ops:Array Oper) (o:Oper):Option I9 :=
 match copZ Z P o.op with
 | none=>none
 | some a=>match o.guard with
  | none=>some { dst:=o.dst,op:=a }
  | some (j,b)=>((ops[j]?).bind (·.dst)).map fun t=>{ dst:=o.dst,op:=a,guard:=some (t,b) }
theorem BB8 (hZ:ZOk Z P) {ops:Array Oper} {o:Oper} {ao:I9} (h:BQ4 Z P ops o=some ao):Ak8 P ops o=some ao:=by
 unfold BQ4 at h
 unfold Ak8
 split at h
 ·cases h
 ·rename_i a ha;rw [copZ_ok hZ ha];exact h
theorem mapM_ok {α β:Type} {f g:α→Option β} (hf:∀ a b,f a=some b→g a=some b):∀ {l:List α} {m:List β},l.mapM f=some m→l.mapM g=some m
 | [],m,h=>by simpa using h
 | a::l,m,h=>by
  rw [List.mapM_cons] at h ⊢
  simp only [bind,Option.bind_eq_some_iff,pure,Option.some.injEq] at h ⊢
  obtain ⟨b,h1,m',h2,rfl⟩:=h
  exact ⟨b,hf _ _ h1,m',mapM_ok hf h2,rfl⟩
def AD7 (Z:TypeId→Option (List AV)) (P:Program):Code→Option ACode
 | .skip=>some .skip
 | .region _ ops false=>(ops.toList.mapM (BQ4 Z P ops)).map .reg
 | .region _ ops true=>(ops.toList.mapM (BQ4 Z P ops)).map fun l=>.regD l (ops.toList.map AF5)
 | .seq a b=>match AD7 Z P a,AD7 Z P b with|some a,some b=>some (.seq a b)|_,_=>none
 | .cond c a b=>match cox c,AD7 Z P a,AD7 Z P b with|some c,some a,some b=>some (.cond c a b)|_,_,_=>none
 | .block i c=>(AD7 Z P c).map (.block i)
 | .loop c=>(AD7 Z P c).map .loop
 | .rangeFunc f ps a b=>match cox f,AD7 Z P a,AD7 Z P b with|some f,some a,some b=>some (.rangeF f ps.toList a b)|_,_,_=>none
 | .exit i=>some (.exit i)
 | .ret=>some .ret
 | _=>none
theorem AA6 (hZ:ZOk Z P):∀ {c:Code} {ac:ACode},AD7 Z P c=some ac→o9 P c=some ac
 | .skip,_,h=>h
 | .region _ ops false,_,h=>by
  simp only [AD7,Option.map_eq_some_iff] at h
  obtain ⟨l,h1,rfl⟩:=h
  have : BJ7 P ops=some l:=mapM_ok (fun a b=>BB8 hZ) h1
  simp only [o9,this,Option.map_some]
 | .region _ ops true,_,h=>by
  simp only [AD7,Option.map_eq_some_iff] at h
  obtain ⟨l,h1,rfl⟩:=h
  have : BJ7 P ops=some l:=mapM_ok (fun a b=>BB8 hZ) h1
  simp only [o9,this,Option.map_some]
 | .seq a b,_,h=>by
  simp only [AD7] at h
  split at h
  ·rename_i x y h1 h2
   simp only [o9,AA6 hZ h1,AA6 hZ h2];exact h
  ·cases h
 | .cond c a b,_,h=>by
  simp only [AD7] at h
  split at h
  ·rename_i x y z h1 h2 h3
   simp only [o9,h1,AA6 hZ h2,AA6 hZ h3];exact h
  ·cases h
 | .block i c,_,h=>by
  simp only [AD7,Option.map_eq_some_iff] at h
  obtain ⟨l,h1,rfl⟩:=h
  simp only [o9,AA6 hZ h1,Option.map_some]
 | .loop c,_,h=>by
  simp only [AD7,Option.map_eq_some_iff] at h
  obtain ⟨l,h1,rfl⟩:=h
  simp only [o9,AA6 hZ h1,Option.map_some]
 | .rangeFunc f ps a b,_,h=>by
  simp only [AD7] at h
  split at h
  ·rename_i x y z h1 h2 h3
   simp only [o9,h1,AA6 hZ h2,AA6 hZ h3];exact h
  ·cases h
 | .exit i,_,h=>h
 | .ret,_,h=>h
end
theorem plw {p:Prop} (h:p:=by ((first|assumption|exact A8|exact A9|exact Af9|exact AJ0|exact Z5|exact BU2|exact plain_str|fail);first|done|fail)):p:=h
theorem prx {p:Prop} (h:p:=by ((repeat' (first|exact BU4|refine BU3 ?_ ?_|exact A8|exact plx|fail));first|done|fail)):p:=h
theorem ppw {p:Prop} (h:p:=by ((first|with_reducible apply Ax7 (fun _=>A8)|with_reducible apply Ax7 (fun _=>A9)|exact prx|fail);first|done|fail)):p:=h
theorem wvxQ0 {p:Prop} (h:p:=by ((first|exact BL0|exact L8 (by first|rfl|omega|(dsimp only;omega))|exact AH9 rfl|exact X9 rfl (by first|decide|simp|omega)|exact j4 rfl (by first|decide|simp|omega) (by first|rfl|omega|simp) (by first|omega|simp) (by first|omega|simp)|exact wk_own rfl (by first|decide|simp|omega)|exact wk_nil0 (by first|rfl|simp)|exact BL1 rfl (by first|decide|omega|(simp;done)) (by first|omega|(simp;done)) (by first|rfl|omega|(simp;done)|(simp;omega))|exact K5 hs plx|(with_reducible refine wk_fn ?_ ?_<;>repeat' (first|with_reducible exact J4|with_reducible refine D5 ?_ ?_|exact X9 rfl (by first|decide|simp|omega)))|(with_reducible refine wk_agg ?_;repeat' (first|with_reducible exact J4|with_reducible refine D5 ?_ ?_|exact L8 (by first|rfl|omega|(dsimp only;omega))|exact AH9 rfl))|exact wk_yld rfl (by first|decide|simp|omega)|fail);first|done|fail)):p:=h
theorem Ac1 {p:Prop} (h:p:=by ((first|exact BL0|exact L8 (by first|rfl|omega|(dsimp only;omega))|exact AH9 rfl|exact X9 rfl (by first|decide|simp|omega)|exact wk_map rfl (by first|decide|simp|omega)|exact j4 rfl (by first|decide|simp|omega) (by first|rfl|omega|simp) (by first|omega|simp) (by first|omega|simp)|exact wk_own rfl (by first|decide|simp|omega)|exact wk_nil0 (by first|rfl|simp)|exact BL1 rfl (by first|decide|omega|(simp;done)) (by first|omega|(simp;done)) (by first|rfl|omega|(simp;done)|(simp;omega))|exact K5 hs plx|(with_reducible refine wk_fn ?_ ?_<;>repeat' (first|with_reducible exact J4|with_reducible refine D5 ?_ ?_|exact X9 rfl (by first|decide|simp|omega)))|(with_reducible refine wk_agg ?_;repeat' (first|with_reducible exact J4|with_reducible refine D5 ?_ ?_|exact L8 (by first|rfl|omega|(dsimp only;omega))|exact AH9 rfl))|exact wk_yld rfl (by first|decide|simp|omega)|(with_reducible refine AI5 ?_;repeat' (first|with_reducible exact J4|with_reducible refine D5 ?_ ?_|exact L8 (by first|rfl|omega|(dsimp only;omega))|exact AH9 rfl|exact X9 rfl (by first|decide|simp|omega)))|fail);first|done|fail)):p:=h
theorem AD3 {p:Prop} (h:p:=by (refine BL2 (by exact L6 rfl) (by exact Af6 rfl) (by intro hs;(repeat' ((try (conv=>whnf));first|with_reducible exact True.intro|with_reducible refine And.intro ?_ ?_|(with_reducible refine WkX.mk ?_;first|exact wvxQ0|fail)))) (by intro hs;(try dsimp only);(repeat' (first|with_reducible exact J6|refine E8 hs (by first|decide|omega|simp) rfl (by first|rfl) (by (first|exact ppx|fail|((refine plain_app ?_ ?_)<;>(first|exact ppx|fail)))) ?_|refine J3 (by first|decide|omega|simp) rfl (by repeat' (first|with_reducible exact J4|with_reducible refine D5 ?_ ?_|(first|exact wvxQ0|fail))) ?_|refine AT3 (by first|decide|omega|simp) rfl (by ((try subst hF);(try subst hF2);exact Ae7 (AH0 (by (repeat' ((try (conv=>whnf));first|with_reducible exact True.intro|with_reducible refine And.intro ?_ ?_|(with_reducible refine WkX.mk ?_;first|exact wvxQ0|fail))))))) ?_|exact J6))))):p:=h
theorem Ak0 {p:Prop} (h:p:=by (refine BL2 (by exact L6 rfl) (by exact Af6 rfl) (by intro hs;(repeat' ((try (conv=>whnf));first|with_reducible exact True.intro|with_reducible refine And.intro ?_ ?_|(with_reducible refine WkX.mk ?_;first|exact L8 (by first|rfl|omega|(dsimp only;omega))|exact AH9 rfl|exact X9 rfl (by first|decide|omega|simp)|exact j4 rfl (by first|decide|omega|simp) (by first|rfl|omega|simp) (by first|omega|simp) (by first|omega|simp)|exact K5 hs plx)))) (by intro hs;(try dsimp only);(repeat' (first|with_reducible exact J6|refine E8 hs (by first|decide|omega|simp) rfl (by first|rfl) (by (first|exact ppx|fail|((refine plain_app ?_ ?_)<;>(first|exact ppx|fail)))) ?_|refine J3 (by first|decide|omega|simp) rfl (by repeat' (first|with_reducible exact J4|with_reducible refine D5 ?_ ?_|(first|exact L8 (by first|rfl|omega|(dsimp only;omega))|exact AH9 rfl|exact X9 rfl (by first|decide|omega|simp)|exact j4 rfl (by first|decide|omega|simp) (by first|rfl|omega|simp) (by first|omega|simp) (by first|omega|simp)|exact K5 hs plx))) ?_|exact J6))))):p:=h
theorem wkxQ2 {p:Prop} (h:p:=by (refine BL2 (by exact L6 rfl) (by exact Af6 rfl) (by intro hs;(repeat' ((try (conv=>whnf));first|with_reducible exact True.intro|with_reducible refine And.intro ?_ ?_|(with_reducible refine WkX.mk ?_;first|exact L8 (by first|rfl|omega|(dsimp only;omega))|exact AH9 rfl|exact X9 rfl (by first|decide|omega|simp)|exact j4 rfl (by first|decide|omega|simp) (by first|rfl|omega|simp) (by first|omega|simp) (by first|omega|simp)|exact K5 hs plx)))) (by intro hs;(try dsimp only);(repeat' (first|with_reducible exact J6|refine AH7 hs (by first|decide|omega|simp) rfl rfl (by first|decide|omega|simp) rfl (by first|decide|omega|simp) ?_|refine x9 hs (by first|decide|omega|simp) rfl rfl H9 ?_|refine E8 hs (by first|decide|omega|simp) rfl (by first|rfl) (by (first|exact ppx|fail|((refine plain_app ?_ ?_)<;>(first|exact ppx|fail)))) ?_|refine J3 (by first|decide|omega|simp) rfl (by repeat' (first|with_reducible exact J4|with_reducible refine D5 ?_ ?_|(first|exact L8 (by first|rfl|omega|(dsimp only;omega))|exact AH9 rfl|exact X9 rfl (by first|decide|omega|simp)|exact j4 rfl (by first|decide|omega|simp) (by first|rfl|omega|simp) (by first|omega|simp) (by first|omega|simp)|exact K5 hs plx))) ?_|exact J6))))):p:=h
theorem wkxQ3 {p:Prop} (h:p:=by (refine weak_o (by rfl) (by rfl) (fun hz=>by first|exact absurd rfl hz|(simp [lk,Q7 hz];done)|exact Q7 hz|rfl) (by rfl) (AE7) (by intro hs;(repeat' ((try (conv=>whnf));first|with_reducible exact True.intro|with_reducible refine And.intro ?_ ?_|(with_reducible refine WkX.mk ?_;first|exact Ac1|fail)))) (by intro hs;(repeat' (first|with_reducible exact J6|refine AH7 hs (by first|decide|omega|simp) rfl rfl (by first|decide|omega|simp) rfl (by first|decide|omega|simp) ?_|refine x9 hs (by first|decide|omega|simp) rfl rfl H9 ?_|refine E8 hs (by first|decide|omega|simp) rfl (by first|rfl) (by (first|exact ppx|fail|((refine plain_app ?_ ?_)<;>(first|exact ppx|fail)))) ?_|refine J3 (by first|decide|omega|simp) rfl (by repeat' (first|with_reducible exact J4|with_reducible refine D5 ?_ ?_|(first|exact Ac1|fail))) ?_|refine AT3 (by first|decide|omega|simp) rfl (by ((try subst hF);(try subst hF2);exact Ae7 (AH0 (by (repeat' ((try (conv=>whnf));first|with_reducible exact True.intro|with_reducible refine And.intro ?_ ?_|(with_reducible refine WkX.mk ?_;first|exact Ac1|fail))))))) ?_|exact J6))))):p:=h
theorem F9 {p:Prop} (h:p:=by (refine BL2 (by exact L6 rfl) (by exact Af6 rfl) (by intro hs;(repeat' ((try (conv=>whnf));first|with_reducible exact True.intro|with_reducible refine And.intro ?_ ?_|(with_reducible refine WkX.mk ?_;first|exact Ac1|fail)))) (by intro hs;(try dsimp only);(repeat' (first|with_reducible exact J6|refine AH7 hs (by first|decide|omega|simp) rfl rfl (by first|decide|omega|simp) rfl (by first|decide|omega|simp) ?_|refine x9 hs (by first|decide|omega|simp) rfl rfl H9 ?_|refine E8 hs (by first|decide|omega|simp) rfl (by first|rfl) (by (first|exact ppx|fail|((refine plain_app ?_ ?_)<;>(first|exact ppx|fail)))) ?_|refine J3 (by first|decide|omega|simp) rfl (by repeat' (first|with_reducible exact J4|with_reducible refine D5 ?_ ?_|(first|exact Ac1|fail))) ?_|refine AT3 (by first|decide|omega|simp) rfl (by ((try subst hF);(try subst hF2);exact Ae7 (AH0 (by (repeat' ((try (conv=>whnf));first|with_reducible exact True.intro|with_reducible refine And.intro ?_ ?_|(with_reducible refine WkX.mk ?_;first|exact Ac1|fail))))))) ?_|exact J6))))):p:=h
theorem BS0 {p:Prop} (h:p:=by (refine weak_o (by rfl) (by rfl) (fun hz=>by first|exact absurd rfl hz|(simp [lk,Q7 hz];done)|exact Q7 hz|rfl) (by rfl) (AP3) (by intro hs;(repeat' ((try (conv=>whnf));first|with_reducible exact True.intro|with_reducible refine And.intro ?_ ?_|(with_reducible refine WkX.mk ?_;first|exact Ac1|fail)))) (by intro hs;(repeat' (first|with_reducible exact J6|refine AH7 hs (by first|decide|omega|simp) rfl rfl (by first|decide|omega|simp) rfl (by first|decide|omega|simp) ?_|refine x9 hs (by first|decide|omega|simp) rfl rfl H9 ?_|refine E8 hs (by first|decide|omega|simp) rfl (by first|rfl) (by (first|exact ppx|fail|((refine plain_app ?_ ?_)<;>(first|exact ppx|fail)))) ?_|refine J3 (by first|decide|omega|simp) rfl (by repeat' (first|with_reducible exact J4|with_reducible refine D5 ?_ ?_|(first|exact Ac1|fail))) ?_|refine AT3 (by first|decide|omega|simp) rfl (by ((try subst hF);(try subst hF2);exact Ae7 (AH0 (by (repeat' ((try (conv=>whnf));first|with_reducible exact True.intro|with_reducible refine And.intro ?_ ?_|(with_reducible refine WkX.mk ?_;first|exact Ac1|fail))))))) ?_|exact J6))))):p:=h
theorem BR9 {p:Prop} (h:p:=by (refine weak_o (by rfl) (by rfl) (fun hz=>by first|exact absurd rfl hz|(simp [lk,Q7 hz];done)|exact Q7 hz|rfl) (by rfl) (AE5) (by intro hs;(repeat' ((try (conv=>whnf));first|with_reducible exact True.intro|with_reducible refine And.intro ?_ ?_|(with_reducible refine WkX.mk ?_;first|exact Ac1|fail)))) (by intro hs;(repeat' (first|with_reducible exact J6|refine AH7 hs (by first|decide|omega|simp) rfl rfl (by first|decide|omega|simp) rfl (by first|decide|omega|simp) ?_|refine x9 hs (by first|decide|omega|simp) rfl rfl H9 ?_|refine E8 hs (by first|decide|omega|simp) rfl (by first|rfl) (by (first|exact ppx|fail|((refine plain_app ?_ ?_)<;>(first|exact ppx|fail)))) ?_|refine J3 (by first|decide|omega|simp) rfl (by repeat' (first|with_reducible exact J4|with_reducible refine D5 ?_ ?_|(first|exact Ac1|fail))) ?_|refine AT3 (by first|decide|omega|simp) rfl (by ((try subst hF);(try subst hF2);exact Ae7 (AH0 (by (repeat' ((try (conv=>whnf));first|with_reducible exact True.intro|with_reducible refine And.intro ?_ ?_|(with_reducible refine WkX.mk ?_;first|exact Ac1|fail))))))) ?_|exact J6))))):p:=h
theorem sxA {p q:Prop} (hq:q) (h:X5 q→p:=by (intro hA;((first|(with_reducible first|refine R3 ?_|refine M6 ?_|refine R9 ?_|refine T9 ?_|refine N8 ?_|refine Y6 ?_|refine Q8 ?_|refine Y5 rfl ?_|refine Q9 ?_|refine K4 ?_|refine M9 ?_|refine N7 ?_|refine S9 ?_|refine K3 ?_|refine M7 (by decide +kernel) ?_|refine L9 (by decide +kernel) ?_|refine AL0 ?_|refine AL1 ?_|refine BC4 ?_|refine AC9 ?_|refine AO0 ?_|refine At9 (by assumption) ?_|refine Au0 (by assumption) ?_|refine AC8 (by omega) ?_|refine AN8 ?_|fail)|((with_reducible refine AO1 ?_ ?_);focus omega)|((with_reducible refine AO2 ?_ ?_);focus omega)|((with_reducible refine BC0 ?_ ?_);focus (first|omega|rfl|assumption|decide|(simp only [List.length_map,List.length_cons,List.length_nil];omega)))|(with_reducible first|refine AN5 ?_|refine AC6 ?_|refine AC5 ?_|refine AN7 ?_|refine AN6 ?_|refine AN3 ?_|refine BA7 ?_|refine K6 ?_|refine AC2 ?_|refine R7 ?_|refine R6 ?_|refine K7 ?_|refine AN4 (by omega) ?_|refine AC4 (by omega) ?_|fail)|fail);repeat' ((try (conv=>whnf));(first|(with_reducible first|refine R3 ?_|refine M6 ?_|refine R9 ?_|refine T9 ?_|refine N8 ?_|refine Y6 ?_|refine Q8 ?_|refine Y5 rfl ?_|refine Q9 ?_|refine K4 ?_|refine M9 ?_|refine N7 ?_|refine S9 ?_|refine K3 ?_|refine M7 (by decide +kernel) ?_|refine L9 (by decide +kernel) ?_|refine AL0 ?_|refine AL1 ?_|refine BC4 ?_|refine AC9 ?_|refine AO0 ?_|refine At9 (by assumption) ?_|refine Au0 (by assumption) ?_|refine AC8 (by omega) ?_|refine AN8 ?_|fail)|((with_reducible refine AO1 ?_ ?_);focus omega)|((with_reducible refine AO2 ?_ ?_);focus omega)|((with_reducible refine BC0 ?_ ?_);focus (first|omega|rfl|assumption|decide|(simp only [List.length_map,List.length_cons,List.length_nil];omega)))|(with_reducible first|refine AN5 ?_|refine AC6 ?_|refine AC5 ?_|refine AN7 ?_|refine AN6 ?_|refine AN3 ?_|refine BA7 ?_|refine K6 ?_|refine AC2 ?_|refine R7 ?_|refine R6 ?_|refine K7 ?_|refine AN4 (by omega) ?_|refine AC4 (by omega) ?_|fail)|fail)));exact hA.out)):p:=h ⟨hq⟩
theorem sxF {p q:Prop} (hq:q) (h:X5 q→p:=by (intro hA;(with_reducible first|refine AH4 ?_|refine BD8.mk (by kernel_rfl) ?_|refine AJ6 rfl ?_|refine AH6 (by decide +kernel) ?_|refine AH5 rfl ?_|fail);exact hA.out)):p:=h ⟨hq⟩
theorem sxN {p q:Prop} (hq:q) (h:X5 q→p:=by (intro hA;(with_reducible first|refine AH4 ?_|refine BD8.mk (by kernel_rfl) ?_|refine AH6 (by decide +kernel) ?_|refine AH5 rfl ?_|fail);exact hA.out)):p:=h ⟨hq⟩
theorem sxH {p q:Prop} (hq:q) (h:X5 q→p:=by (intro hA;(first|refine K6 ?_|refine K7 ?_|refine Aa0 rfl rfl ?_|refine AB5 ?_|refine Z8 rfl ?_|refine Aa6 rfl ?_|refine AY0 rfl ?_|refine AI8 rfl ?_|refine U9 ?_|refine BK8.mk ?_|fail);exact hA.out)):p:=h ⟨hq⟩
end Go.Am
