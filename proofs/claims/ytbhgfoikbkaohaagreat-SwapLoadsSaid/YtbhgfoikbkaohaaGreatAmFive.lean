/-
 All code,and functions: what is asked ahead of a body is what its call comes to. No program in sight.
 How functions are told of: those that are pure;the rounds of a range;what may be forgotten. No program in sight.
 A call of yield: a round of the loop whose record stands in the store. No program in sight.
 A region that draws its order and changes nothing is walked in the order of the text. No program in sight.
 One step at a time: what simp turns. No program in sight.
-/
import Derived.Test.YtbhgfoikbkaohaaGreatAmFour
import Derived.IntWalk
import Derived.Laws.Bits64b
import Derived.Laws.Bits64
set_option linter.unusedSimpArgs false
set_option linter.unusedVariables false
namespace Go.Am
section
variable {P:Program} {G:Gl}
theorem AP8 (G9:P.follows .mixedOrders=true):∀ (code:Code) (ac:ACode),u6 P code=some ac→∀ (rd:Option Nat) (N:Nat) (Q:Exit→List AV→Hp→Prop) (fr:List AV) (h:Hp),wpc P G rd N ac Q fr h→WP P G rd N code Q fr h:=by
 intro code
 induction code with
 | skip=>intro ac hc rd N Q fr h hw B c0 cx a n hs he hf hU hg0 hN;cases hc;exact wpIn_skip ⟨cx,fr,h,rfl,hw,hs,he⟩
 | region id ops draw =>
  intro ac hc rd N Q fr h hw
  cases draw with
  | false =>
   simp only [u6,Option.map_eq_some_iff] at hc
   obtain ⟨l,hl,rfl⟩:=hc
   exact reg_sound hl hw
  | true =>
   simp only [u6,Option.map_eq_some_iff] at hc
   obtain ⟨l,hl,rfl⟩:=hc
   exact regD_sound G9 hl hw.1 hw.2
 | seq x y ihx ihy =>
  intro ac hc rd N Q fr h hw B c0 cx a n hs he hf hU hg0 hN
  simp only [u6] at hc
  split at hc
  ·rename_i ax ay hx hy
   cases hc
   refine wpIn_seq (wpIn_mono (ihx ax hx rd N _ fr h hw B c0 cx a n hs he hf hU hg0 hN) ?_)
   rintro e a' w' ⟨c',fr',h',rfl,hq,hs',he'⟩
   cases e<;>try exact ⟨c',fr',h',rfl,hq,hs',he'⟩
   exact ihy ay hy rd N Q fr' h' hq B c0 c' a' n hs' he' (AR8 he' hU) hU hg0 hN
  ·cases hc
 | cond cnd x y ihx ihy =>
  intro ac hc rd N Q fr h hw B c0 cx a n hs he hf hU hg0 hN
  simp only [u6] at hc
  split at hc
  ·rename_i cc ax' ay hcc hx hy
   cases hc
   obtain ⟨t,ht,h1,h2⟩:=hw
   have hr:=J9 hs.fr hs.glo hcc ht
   simp only [RR_bool] at hr
   refine wpIn_cond hr ?_
   cases t with
   | true=>exact ihx _ hx rd N Q fr h (h1 rfl) B c0 cx a n hs he hf hU hg0 hN
   | false=>exact ihy _ hy rd N Q fr h (h2 rfl) B c0 cx a n hs he hf hU hg0 hN
  ·cases hc
 | block id x ih =>
  intro ac hc rd N Q fr h hw B c0 cx a n hs he hf hU hg0 hN
  simp only [u6,Option.map_eq_some_iff] at hc
  obtain ⟨ac',hac,rfl⟩:=hc
  refine wpIn_block (wpIn_mono (ih ac' hac rd N _ fr h hw B c0 cx a n hs he hf hU hg0 hN) ?_)
  rintro e a' w' ⟨c',fr',h',rfl,hq,hs',he'⟩
  cases e<;>try exact ⟨c',fr',h',rfl,hq,hs',he'⟩
  rename_i j
  simp only [BW9] at hq
  simp only [Exit.inBlock]
  split<;>rename_i hj
  ·rw [if_pos hj] at hq;exact ⟨c',fr',h',rfl,hq,hs',he'⟩
  ·rw [if_neg hj] at hq;exact ⟨c',fr',h',rfl,hq,hs',he'⟩
 | loop x ih =>
  intro ac hc rd N Q fr h hw B c0 cx a n hs he hf hU hg0 hN
  simp only [u6,Option.map_eq_some_iff] at hc
  obtain ⟨ac',hac,rfl⟩:=hc
  obtain ⟨I,m,⟨σ0,fr0,h0,hweak,hk0,hn0,hI0⟩,hround⟩:=hw
  have toRes:∀ (c:Cx) (σ:Nat→Nat) (fr1 fr':List AV) (h1 h':Hp) (a:Act),Ext c0 c→St P G B c fr1 h1 a→Weak P σ fr1 h1 fr' h'→Keeps N σ→N≤h'.next→St P G B (c.ren σ h') fr' h' a∧Ext c0 (c.ren σ h'):=fun c σ fr1 fr' h1 h' a he hs hw hk hn=>by
   obtain ⟨w1,w2,w3⟩:=hw c a.tmps hs.rel hs.mat hs.fr
   have e1:=BN6 he hs.mat w3 (fun i hi=>Nat.lt_of_lt_of_le (hN i hi) hn) fun i hi=>hk i (hN i hi)
   have e2:∀ b,c.Froz b→(c.ren σ h').Froz b:=fun b hb=>⟨hb.1,fun i o hi=>by obtain ⟨o',ho'⟩:=w3 i o hi;exact hb.2 (σ i) o' (by rw [hs.mat.at_];exact ho'),hb.3⟩
   refine ⟨⟨w1,hg0.ext e1,⟨rfl,fun i=>Iff.rfl⟩,w2,⟨hs.df.1,fun d hd=>?_⟩,hs.old⟩,e1⟩
   obtain ⟨r,k1,k0,k2,k3⟩:=hs.df.2 d hd
   exact ⟨r,k1,k0,e2 r k2,k3⟩
  obtain ⟨s0,e0⟩:=toRes cx σ0 fr fr0 h h0 a he hs hweak hk0 hn0
  refine AX7 (ι:=Cx × List AV × Hp) (fun i a w=>i.1.w=w∧St P G B i.1 i.2.1 i.2.2 a∧Ext c0 i.1∧I i.2.1 i.2.2) (fun i=>m i.2.1 i.2.2) (cx.ren σ0 h0,fr0,h0) ⟨rfl,s0,e0,hI0⟩ ?_
  rintro ⟨c1,fr1,h1⟩ a1 w1 ⟨rfl,s1,e1,hI1⟩
  have hf1:fence c1 rd=fence c0 rd:=AR8 e1 hU
  have hb:=ih ac' hac rd N _ fr1 h1 (hround fr1 h1 hI1) B c0 c1 a1 n s1 e1 hf1 hU hg0 hN
  refine wpIn_mono hb ?_
  rintro e a' w' ⟨c',fr',h',rfl,hq,hs',he'⟩
  cases e<;>try exact ⟨c',fr',h',rfl,hq,hs',he'⟩
  obtain ⟨σ2,fr2,h2,hw2,hk2,hn2,hI2,hm2⟩:=hq
  obtain ⟨s2,e2⟩:=toRes c' σ2 fr' fr2 h' h2 a' he' hs' hw2 hk2 hn2
  exact ⟨(c'.ren σ2 h2,fr2,h2),⟨rfl,s2,e2,hI2⟩,hm2⟩
 | rangeFunc f ps x y ihx ihy =>
  intro ac hc rd N Q fr h hw
  simp only [u6] at hc
  split at hc
  ·rename_i fa ax' ay hfa hx hy
   cases hc
   exact BD0 hfa hx hy hw
  ·cases hc
 | exit id=>intro ac hc rd N Q fr h hw B c0 cx a n hs he hf hU hg0 hN;cases hc;exact wpIn_exit ⟨cx,fr,h,rfl,hw,hs,he⟩
 | ret=>intro ac hc rd N Q fr h hw B c0 cx a n hs he hf hU hg0 hN;cases hc;exact wpIn_ret ⟨cx,fr,h,rfl,hw,hs,he⟩
 | _=>intro ac hc;cases hc

inductive ARes where
 | tmp (t:Nat)
 | cell (a:Nat) (ag:Bool) (n:Nat)
def cres (P:Program):ResultVar→Option ARes
 | .tmp t=>some (.tmp t)
 | .cell a t=>match Aq0 P t,AJ3 P t with|some b,some n=>some (.cell a b n)|_,_=>none
def resV (fr:List AV) (at_:At):ARes→Option AV
 | .tmp t=>fr[t]?
 | .cell a ag n=>match fr[a]? with
  | some v=>(Ae0 at_ ag n v).map (·.1)
  | none=>none
def Aq6 (fr:List AV) (at_:At):List ARes→Option (List AV)
 | []=>some []
 | r::rs=>match resV fr at_ r,Aq6 fr at_ rs with
  | some v,some l=>some (v::l)
  | _,_=>none
def BD8:List AV→AV
 | [v]=>v
 | l=>.tup l
def finQ (P:Program) (rs:List ARes) (N:Nat) (K:AV→Hp→Prop):Exit→List AV→Hp→Prop
 | .normal=>fun fr h=>∃ l σ r' h',Aq6 fr (lk h.l) rs=some l∧Weak P σ [BD8 l] h [r'] h'∧Keeps N σ∧N≤h'.next∧K r' h'
 | .ret=>fun fr h=>∃ l σ r' h',Aq6 fr (lk h.l) rs=some l∧Weak P σ [BD8 l] h [r'] h'∧Keeps N σ∧N≤h'.next∧K r' h'
 | _=>fun _ _=>False
structure Taken (B:Nat) (w w':World):Prop where
 size:w'.heap.size=w.heap.size
 cells:∀ b:Nat,(∀ ds,w.heap[b]? ≠ some (Obj.deferred ds))→w'.heap[b]? = w.heap[b]?
 dfr:∀ (b:Nat) ds,w.heap[b]? = some (Obj.deferred ds)→∃ ds',w'.heap[b]? = some (Obj.deferred ds')
 low:∀ b:Nat,b < B→w'.heap[b]? = w.heap[b]?
 env:w'.os=w.os∧w'.tape=w.tape∧w'.output=w.output
theorem Taken.refl (B:Nat) (w:World):Taken B w w:=⟨rfl,fun _ _=>rfl,fun _ ds h=>⟨ds,h⟩,fun _ _=>rfl,rfl,rfl,rfl⟩
theorem Taken.trans {B:Nat} {w w1 w2:World} (h:Taken B w w1) (h':Taken B w1 w2):Taken B w w2:=by
 refine ⟨h'.size.trans h.size,fun b hb=>?_,fun b ds hb=>?_,fun b hb=>(h'.low b hb).trans (h.low b hb),h'.env.1.trans h.env.1,h'.env.2.1.trans h.env.2.1,h'.env.2.2.trans h.env.2.2⟩
 ·have e:=h.cells b hb
  exact (h'.cells b fun ds hd=>hb ds (by rw [← e];exact hd)).trans e
 ·obtain ⟨ds1,h1⟩:=h.dfr b ds hb;exact h'.dfr b ds1 h1
theorem Taken.cell {B:Nat} {w w':World} (h:Taken B w w') (p:Addr):w'.cell? p=w.cell? p:=by
 unfold World.cell?
 by_cases hb:∃ ds,w.heap[p.block]? = some (Obj.deferred ds)
 ·obtain ⟨ds,hd⟩:=hb
  obtain ⟨ds',hd'⟩:=h.dfr _ _ hd
  rw [hd,hd']
 ·rw [h.cells _ fun ds hd=>hb ⟨ds,hd⟩]
theorem Taken.csz {B:Nat} {w w':World} (h:Taken B w w') (b:Nat):csize w' b=csize w b:=by
 unfold csize
 by_cases hb:∃ ds,w.heap[b]? = some (Obj.deferred ds)
 ·obtain ⟨ds,hd⟩:=hb
  obtain ⟨ds',hd'⟩:=h.dfr _ _ hd
  rw [hd,hd']
 ·rw [h.cells _ fun ds hd=>hb ⟨ds,hd⟩]
theorem Taken.extW {B:Nat} {c:Cx} {w':World} (h:Taken B c.w w'):ExtW c (c.wd w') :=
 ⟨fun _ h=>h,fun _ _=>rfl,fun b _=>h.csz b,fun b hb=>⟨⟨by show b < w'.heap.size;rw [h.size];exact hb.1,hb.2,hb.3⟩,fun o v hv=>by show w'.cell? _=_;rw [h.cell];exact hv⟩,by show _≤w'.heap.size;rw [h.size];exact Nat.le_refl _⟩
theorem Taken.rel {B:Nat} {c:Cx} {w':World} (h:Taken B c.w w') (hR:Rel P c):Rel P (c.wd w'):=by
 have e:=h.extW
 refine ⟨hR.used,hR.inj,fun i o hi=>?_,hR.many,hR.nohid,fun b hb=>by show b < w'.heap.size;rw [h.size];exact hR.hidlt b hb⟩
 have ho:=hR.obj i o hi
 show Aq8 P (c.wd w') (c.mu i) o
 have hb:∀ x,c.w.heap[(c.mu i).1]? = some x→(∀ ds,x ≠ .deferred ds)→w'.heap[(c.mu i).1]? = some x:=fun x hx hne=>by
  rw [h.cells _ fun ds hd=>by rw [hx] at hd;exact hne ds (Option.some.inj hd)];exact hx
 cases o with
 | cells cs=>obtain ⟨a,T,h1,h2⟩:=ho;exact ⟨a,T,hb _ h1 (fun ds h=>by cases h),h2.imp (fun _ _ h=>⟨h.1.extW e,h.2⟩) fun _ _ h=>h⟩
 | loop=>obtain ⟨fn,tmps,qs,dn,ca,cb,h1,h2,h3⟩:=ho;exact ⟨fn,tmps,qs,dn,ca,cb,hb _ h1 (fun ds h=>by cases h),⟨h2.1,h2.2.imp (fun _ _=>RR.extW e) fun _ _ h=>h⟩,h3⟩
 | maps es=>obtain ⟨a,k,h1,h2,h3⟩:=ho;exact ⟨a,k,hb _ h1 (fun ds h=>by cases h),h2,fun j kv hj=>let ⟨m,h4,h5,h6⟩:=h3 j kv hj;⟨m,h4,h5.extW e,h6.extW e⟩⟩
theorem BQ1 {B n:Nat} {fn:Func} {tmps:Array Value} {R:Ending→World→Prop} {c:Cx}:∀ (ds:List Deferred) (w:World),Taken B c.w w→ds.Pairwise (fun d e=>d.target ≠ e.target)→(∀ d ∈ ds,∃ r,d={ target:=.collected r,args:=#[] }∧B≤r∧w.heap[r]? = some (.deferred (some []))) →
  (∀ w',Taken B c.w w'→∃ v,(results fn tmps).run P w' = .ok v w'∧R (.returned v) w')→LeavesInM Fence.wide n P fn tmps R ds .returning w
 | [],w,ht,_,_,hk=>hk w ht
 | d::ds,w,ht,hp,hd,hk=>by
  obtain ⟨r,rfl,hB,hr⟩:=hd d (List.mem_cons_self ..)
  have hlt:r < w.heap.size:=by
   rcases Nat.lt_or_ge r w.heap.size with h|h
   ·exact h
   ·rw [Array.getElem?_eq_none h] at hr;cases hr
  refine ⟨by simp,.inl ⟨r,{ w with heap:=w.heap.setIfInBounds r (.deferred none) },rfl,by simp [Instr.takeDeferred,getObj,setObj,Sem.run,hr],?_⟩⟩
  have hp':=List.pairwise_cons.1 hp
  have hne:∀ b,b ≠ r→(w.heap.setIfInBounds r (.deferred none))[b]? = w.heap[b]?:=fun b hb=>Array.getElem?_setIfInBounds_ne (Ne.symm hb)
  refine BQ1 ds _ (ht.trans ⟨by simp,fun b hb=>?_,fun b ds' hb=>?_,fun b hb=>hne b (by omega),rfl,rfl,rfl⟩) hp'.2 (fun d' hd'=>?_) hk
  ·exact hne b fun e=>hb (some []) (e▸hr)
  ·by_cases e:b=r
   ·subst e;exact ⟨none,by simp [hlt]⟩
   ·exact ⟨ds',by show (w.heap.setIfInBounds r (.deferred none))[b]? = _;rw [hne b e];exact hb⟩
  ·obtain ⟨r',rfl,hB',hr'⟩:=hd d' (List.mem_cons_of_mem _ hd')
   have : r' ≠ r:=fun e=>hp'.1 _ hd' (by rw [e])
   exact ⟨r',rfl,hB',by show (w.heap.setIfInBounds r (.deferred none))[r']? = _;rw [hne r' this];exact hr'⟩
structure Body (P:Program) (f:Nat) (ac:ACode) (rs:List ARes) (n:Nat):Prop where
 ok:fnOk P f=true
 ex:∃ fn code,P.funcs[f]? = some fn∧fn.body=some code∧u6 P code=some ac∧fn.results.toList.mapM (cres P)=some rs∧fn.ntmps=n
def BR2 (tmps:Array Value):ResultVar→Sem Value:=fun
 | .tmp t=>pure (tmps.getD t undef)
 | .cell a t=>do loadVar t (← asAddr (tmps.getD a undef))
theorem resV_run {B:Nat} {c:Cx} {fr:List AV} {tmps:Array Value} {w':World} {r:ResultVar} {ar:ARes} {v:AV} (hR:Rel P c) (hF:FR c fr tmps) (ht:Taken B c.w w') (hc:cres P r=some ar) (hv:resV fr c.at_ ar=some v) :
  ∃ val,(BR2 tmps r).run P w' = .ok val w'∧RR c v val:=by
 unfold BR2
 cases r with
 | tmp t =>
  cases hc
  obtain ⟨u,hu,hr⟩:=hF.2 t v hv
  have hu':tmps[t]? = some u:=hu
  exact ⟨u,by simp [hu'],hr⟩
 | cell a t =>
  simp only [cres] at hc
  split at hc
  ·rename_i b n hb hn
   cases hc
   simp only [resV] at hv
   split at hv
   ·rename_i x hx
    obtain ⟨u,hu,hr⟩:=hF.2 a x hx
    have hu':tmps[a]? = some u:=hu
    simp only [Option.map_eq_some_iff] at hv
    obtain ⟨⟨y,rd⟩,hy,rfl⟩:=hv
    have key:∃ b' q cs,u = .pointer (some ⟨b',q,none⟩)∧RC1 (RR c) cs (fun j=>c.w.cell? ⟨b',q+j,none⟩)∧AU3 b 0 n cs=some y:=by
     unfold Ae0 at hy
     split at hy
     ·rename_i i off
      split at hy
      ·rename_i cs hi
       simp only [Option.map_eq_some_iff] at hy
       obtain ⟨z,hz,hzz⟩:=hy
       cases hzz
       obtain ⟨b',q,h1,h2⟩:=BT9 hR hi hr
       rcases As1 (ag:=b) (o:=off) (n:=n) (cs:=cs) with e|e
       ·exact ⟨b',q,_,h1,h2,by rw [← e];exact hz⟩
       ·rw [e] at hz;cases hz
      ·cases hy
     ·rename_i cs
      simp only [Option.map_eq_some_iff] at hy
      obtain ⟨z,hz,hzz⟩:=hy
      cases hzz
      obtain ⟨b',q,h1,_,h2⟩:=AH0.1 hr
      exact ⟨b',q,cs,h1,h2,hz⟩
     ·cases hy
    obtain ⟨b',q,cs,rfl,h2,h3⟩:=key
    have e:=ht.extW
    obtain ⟨val,h4,h5⟩:=run_load (c:={ c.wd w' with U:=c.U,at_:=c.at_ }) hb hn (h2.imp (fun _ _ h=>⟨h.1.extW e,h.2⟩) fun j v hj=>by show w'.cell? _=_;rw [ht.cell];exact hj) h3
    have h6:RR c y val:=by
     have ht':Taken B w' c.w∨True:=.inr trivial
     have eW:ExtW (c.wd w') c:=⟨fun _ h=>h,fun _ _=>rfl,fun b _=>(ht.csz b).symm,fun b hb=>⟨⟨by have : b < w'.heap.size:=hb.1;rw [ht.size] at this;exact this,hb.2,hb.3⟩,fun o v hv=>by rw [← ht.cell];exact hv⟩,by show w'.heap.size≤_;rw [ht.size];exact Nat.le_refl _⟩
     exact h5.extW eW
    exact ⟨val,by simp [hu',asAddr];exact h4,h6⟩
   ·cases hv
  ·cases hc
theorem BC7 {B:Nat} {c:Cx} {fr:List AV} {tmps:Array Value} {w':World} (hR:Rel P c) (hF:FR c fr tmps) (ht:Taken B c.w w'):∀ (rs:List ResultVar) (ars:List ARes) (l:List AV),rs.mapM (cres P)=some ars→Aq6 fr c.at_ ars=some l →
  ∃ vs:List Value,(rs.mapM (BR2 tmps)).run P w' = .ok vs w'∧vs.length=l.length∧RCs (RR c) l fun j=>vs[j]?
 | [],ars,l,hm,hl=>by
  simp at hm;subst hm;cases hl
  exact ⟨[],by simp,rfl,fun j x hx=>by simp at hx⟩
 | r::rs,ars,l,hm,hl=>by
  simp only [List.mapM_cons,Option.bind_eq_bind,Option.bind_eq_some_iff] at hm
  obtain ⟨ar,har,ars',hars,h2⟩:=hm
  cases h2
  simp only [Aq6] at hl
  split at hl
  ·rename_i v l' hv hl'
   cases hl
   obtain ⟨val,h1,h3⟩:=resV_run hR hF ht har hv
   obtain ⟨vs,h4,h5,h6⟩:=BC7 hR hF ht rs ars' l' hars hl'
   refine ⟨val::vs,?_,by simp [h5],fun j x hx=>?_⟩
   ·simp only [List.mapM_cons,Sem.run_bind]
    rw [h1]
    simp only [Result.andThen_ok,Sem.run_bind]
    rw [h4]
    simp
   ·cases j with
    | zero=>simp at hx;subst hx;exact ⟨val,rfl,h3⟩
    | succ j=>obtain ⟨u,hu,hxu⟩:=h6 j x (by simpa using hx);exact ⟨u,by simpa using hu,hxu⟩
  ·cases hl
theorem BK2 {B:Nat} {c:Cx} {fr:List AV} {tmps:Array Value} {w':World} {fn:Func} {ars:List ARes} {l:List AV} (hR:Rel P c) (hF:FR c fr tmps) (ht:Taken B c.w w') (hm:fn.results.toList.mapM (cres P)=some ars) (hl:Aq6 fr c.at_ ars=some l) :
  ∃ v,(results fn tmps).run P w' = .ok v w'∧RR c (BD8 l) v:=by
 obtain ⟨vs,h1,h2,h3⟩:=BC7 hR hF ht _ ars l hm hl
 have hrun:(results fn tmps).run P w' = .ok (if h:vs.toArray.size=1 then vs.toArray[0] else .tuple vs.toArray) w':=by
  have e:results fn tmps=(do let vs ← fn.results.mapM (BR2 tmps);pure (if h:vs.size=1 then vs[0] else .tuple vs)):=rfl
  rw [e]
  simp only [Array.mapM_eq_mapM_toList,Sem.run_bind,Sem.run_map]
  rw [h1]
  simp
 refine ⟨_,hrun,?_⟩
 match l,vs,h2,h3 with
 | [x],[v],_,h3 =>
  obtain ⟨u,hu,hr⟩:=h3 0 x rfl
  simp at hu
  subst hu
  simpa [BD8] using hr
 | [],[],_,_=>exact AH3.2 ⟨#[],rfl,rfl,fun j x hx=>by simp at hx⟩
 | x::y::l,v::u::vs,h2,h3 =>
  rw [dif_neg (by simp)]
  exact AH3.2 ⟨_,rfl,by simpa using h2,h3.imp (fun _ _ h=>h) fun j u hj=>by simpa using hj⟩
 | [],_::_,h2,_=>simp at h2
 | _::_,[],h2,_=>simp at h2
 | [_],_::_::_,h2,_=>simp at h2
 | _::_::_,[_],h2,_=>simp at h2
theorem BW7 {f:Nat} {fn:Func} {code:Code} {rs:List ARes} {args:List AV} {h:Hp} {K:AV→Hp→Prop} (h1:P.funcs[f]? = some fn) (h2:fn.body=some code) (h4:fn.results.toList.mapM (cres P)=some rs) (hw:WP P G none h.next code (finQ P rs h.next K) (args++List.replicate (fn.ntmps - args.length) .undef) h)
  {c:Cx} {vs:Array Value} (hR:Rel P c) (hG:AV2 G c) (hm:Mat c h) (hargs:AI7 c args vs):Calls P f vs c.w fun e w'=>∃ v,e = .returned v∧Ends P c K v w':=by
 refine (callsIn_wide (n:=0)).1 (callsIn_of_wp_marks h1 h2 trivial ?_)
 have hF:FR c (args++List.replicate (fn.ntmps - args.length) .undef) (vs++Array.replicate (fn.ntmps - vs.size) undef):=by
  refine ⟨by simp [hargs.1],fun j x hx=>?_⟩
  show ∃ u,(vs++Array.replicate (fn.ntmps - vs.size) undef)[j]? = some u∧RR c x u
  rw [List.getElem?_append] at hx
  rw [Array.getElem?_append,hargs.1]
  split at hx
  ·rename_i hj;rw [if_pos hj];exact hargs.2 j x hx
  ·rename_i hj
   rw [if_neg hj]
   rw [List.getElem?_replicate] at hx
   split at hx
   ·rename_i hlt
    cases hx
    exact ⟨undef,by rw [Array.getElem?_replicate,if_pos hlt],RR_undef⟩
   ·cases hx
 have hs:St P G c.w.heap.size c (args++List.replicate (fn.ntmps - args.length) .undef) h { tmps:=vs++Array.replicate (fn.ntmps - vs.size) undef,defers:=[] } :=
  ⟨hR,hG,hm,hF,⟨List.Pairwise.nil,fun d hd=>by cases hd⟩,Nat.le_refl _⟩
 have hwp:=hw c.w.heap.size c c _ 0 hs (Ext.refl c) rfl (fun l hl=>by cases hl) hG fun i hi=>(hm.U i).1 hi
 refine wpIn_mono hwp ?_
 have fin:∀ (a':Act) (c':Cx) (fr':List AV) (h':Hp),(∃ l σ r' h'',Aq6 fr' (lk h'.l) rs=some l∧Weak P σ [BD8 l] h' [r'] h''∧Keeps h.next σ∧h.next≤h''.next∧K r' h'')→St P G c.w.heap.size c' fr' h' a'→Ext c c' →
   LeavesInM Fence.wide 0 P fn a'.tmps (fun e w'=>∃ v,e = .returned v∧Ends P c K v w') a'.defers .returning c'.w:=by
  rintro a' c' fr' h' ⟨l,σ,r',h'',k1,k2,kk,k3,k4⟩ hs' he'
  refine BQ1 (B:=c.w.heap.size) (c:=c') a'.defers c'.w (Taken.refl _ _) hs'.df.1 (fun d hd=>?_) fun w' ht=>?_
  ·obtain ⟨r,q1,q2,_,q3⟩:=hs'.df.2 d hd;exact ⟨r,q1,q2,q3⟩
  ·obtain ⟨v,q1,q2⟩:=BK2 hs'.rel hs'.fr ht h4 (by rw [hs'.mat.at_];exact k1)
   refine ⟨v,q1,v,rfl,r',h'',(c'.wd w').ren σ h'',rfl,k4,?_⟩
   have hRt:=ht.rel hs'.rel
   have hmt:Mat (c'.wd w') h':=⟨hs'.mat.at_,hs'.mat.U⟩
   have hFt:FR (c'.wd w') [BD8 l] #[v]:=⟨rfl,fun j x hx=>by
    cases j with
    | zero=>simp at hx;subst hx;exact ⟨v,rfl,q2.extW ht.extW⟩
    | succ j=>simp at hx⟩
   obtain ⟨w1,w2,w3⟩:=k2 (c'.wd w') #[v] hRt hmt hFt
   obtain ⟨u,hu,hr⟩:=w2.2 0 r' rfl
   have hu':u=v:=by simpa using hu.symm
   subst hu'
   have e1:Ext c (c'.wd w'):=by
    have e2:=ht.extW
    refine ⟨he'.used,he'.mu,fun b hb=>(ht.csz b).trans (he'.csz b hb),fun b hb=>⟨(e2.froz b (he'.froz b hb).1).1,(ht.low b hb.1).trans (he'.froz b hb).2⟩,Nat.le_trans he'.size e2.size,he'.hid,fun b hb=>(ht.low b (hR.hidlt b hb)).trans (he'.hidh b hb),ht.env.1.trans he'.env.1,ht.env.2.1.trans he'.env.2.1,ht.env.2.2.trans he'.env.2.2⟩
   exact ⟨hr,w1,⟨rfl,fun i=>Iff.rfl⟩,BN6 e1 hmt w3 (fun i hi=>Nat.lt_of_lt_of_le ((hm.U i).1 hi) k3) fun i hi=>kk i ((hm.U i).1 hi)⟩
 rintro e a' w' ⟨c',fr',h',rfl,hq,hs',he'⟩
 cases e<;>simp only [finQ] at hq
 ·exact fin a' c' fr' h' hq hs' he'
 ·exact fin a' c' fr' h' hq hs' he'
theorem Af2 {f n:Nat} {ac:ACode} {rs:List ARes} {args:List AV} {h:Hp} {K:AV→Hp→Prop} (G9:P.follows .mixedOrders=true) (hb:Body P f ac rs n) (hw:wpc P G none h.next ac (finQ P rs h.next K) (args++List.replicate (n - args.length) .undef) h)
  {c:Cx} {vs:Array Value} (hR:Rel P c) (hG:AV2 G c) (hm:Mat c h) (hargs:AI7 c args vs):Calls P f vs c.w fun e w'=>∃ v,e = .returned v∧Ends P c K v w':=by
 obtain ⟨fn,code,h1,h2,h3,h4,rfl⟩:=hb.ex
 exact BW7 h1 h2 h4 (AP8 G9 code ac h3 none h.next _ _ _ hw) hR hG hm hargs
theorem At9 {f n:Nat} {ac:ACode} {rs:List ARes} {fs args cs:List AV} {h:Hp} {K:AV→Hp→Prop} (G9:P.follows .mixedOrders=true) (hb:Body P f ac rs n) (hw:wpc P G none h.next ac (finQ P rs h.next K) ((fs++args++cs)++List.replicate (n - (fs++args++cs).length) .undef) h) :
  Ah6 P G (.fn f fs cs) args h K:=by
 intro c u vs hR hG hm hu hargs
 obtain ⟨vf,vc,rfl,h1,h2⟩:=AS6.1 hu
 exact ⟨_,_,AE1 hb.ok c.w,Af2 G9 hb hw hR hG hm (AA8 (AA8 h1 hargs) h2)⟩
end
end Go.Am
namespace Go.Am
def Plain (x:AV):Prop:=∀ (c c':Cx) (v:Value),(∀ b,c.Froz b→c'.Froz b∧∀ o u,c.w.cell? ⟨b,o,none⟩=some u→c'.w.cell? ⟨b,o,none⟩=some u)→RR c x v→RR c' x v
theorem Al2:Plain .undef:=fun _ _ _ _ _=>RR_undef
theorem A8 {k:IntKind} {n:Int}:Plain (.int k n):=fun _ _ _ _ h=>RR_int.2 (RR_int.1 h)
theorem D5 {b:Bool}:Plain (.bool b):=fun _ _ _ _ h=>RR_bool.2 (RR_bool.1 h)
theorem plain_str {b:ByteArray}:Plain (.str b):=fun _ _ _ _ h=>RR_str.2 (RR_str.1 h)
theorem U3:Plain .nilp:=fun _ _ _ _ h=>RR_nilp.2 (RR_nilp.1 h)
theorem plain_nilf:Plain .nilf:=fun _ _ _ _ h=>RR_nilf.2 (RR_nilf.1 h)
theorem V3:Plain .nils:=fun _ _ _ _ h=>RR_nils.2 (RR_nils.1 h)
theorem AQ6 {els:List (List AV)} (h:∀ e ∈ els,∀ x ∈ e,Plain x):Plain (.isl els):=fun c c' v hf hr=>by
 obtain ⟨A,cap,h1,h2,h3,h4⟩:=AD0.1 hr
 refine AD0.2 ⟨A,cap,h1,h2,h3,fun hne=>?_⟩
 obtain ⟨b,off,sz,h5,h6,h7⟩:=h4 hne
 refine ⟨b,off,sz,h5,(hf b h6).1,fun k el hk=>⟨(h7 k el hk).1,fun j x hx=>?_⟩⟩
 obtain ⟨u,hu,hxu,h1⟩:=(h7 k el hk).2 j x hx
 exact ⟨u,(hf b h6).2 _ u hu,h el (List.mem_of_getElem? hk) x (List.mem_of_getElem? hx) c c' u hf hxu,h1⟩
theorem AT4 {cs:List AV} (h:∀ x ∈ cs,Plain x):Plain (.iptr cs):=fun c c' v hf hr=>by
 obtain ⟨b,off,h1,h2,h3⟩:=AH0.1 hr
 refine AH0.2 ⟨b,off,h1,(hf b h2).1,fun j x hx=>?_⟩
 obtain ⟨u,hu,hxu,h4⟩:=h3 j x hx
 exact ⟨u,(hf b h2).2 _ u hu,h x (List.mem_of_getElem? hx) c c' u hf hxu,h4⟩
theorem G6 {cs:List AV} (h:∀ x ∈ cs,Plain x):Plain (.agg cs):=fun c c' v hf hr=>by
 obtain ⟨vs,h1,h2,h3⟩:=AB4.1 hr
 refine AB4.2 ⟨vs,h1,h2,fun j x hx=>?_⟩
 obtain ⟨u,hu,hxu,h4⟩:=h3 j x hx
 exact ⟨u,hu,h x (List.mem_of_getElem? hx) c c' u hf hxu,h4⟩
theorem F6 {cs:List AV} (h:∀ x ∈ cs,Plain x):Plain (.tup cs):=fun c c' v hf hr=>by
 obtain ⟨vs,h1,h2,h3⟩:=AH3.1 hr
 refine AH3.2 ⟨vs,h1,h2,fun j x hx=>?_⟩
 obtain ⟨u,hu,hxu⟩:=h3 j x hx
 exact ⟨u,hu,h x (List.mem_of_getElem? hx) c c' u hf hxu⟩
theorem plain_fn {f:Nat} {fs cs:List AV} (h:∀ x ∈ fs,Plain x) (h':∀ x ∈ cs,Plain x):Plain (.fn f fs cs):=fun c c' v hf hr=>by
 obtain ⟨vf,vc,h1,⟨h2,h3⟩,h4,h5⟩:=AS6.1 hr
 refine AS6.2 ⟨vf,vc,h1,⟨h2,fun j x hx=>?_⟩,h4,fun j x hx=>?_⟩
 ·obtain ⟨u,hu,hxu⟩:=h3 j x hx
  exact ⟨u,hu,h x (List.mem_of_getElem? hx) c c' u hf hxu⟩
 ·obtain ⟨u,hu,hxu⟩:=h5 j x hx
  exact ⟨u,hu,h' x (List.mem_of_getElem? hx) c c' u hf hxu⟩
def Ab4 (G:Gl):Prop:=∀ n cs,G n=some cs→∀ x ∈ cs,Plain x
section
variable {P:Program} {G:Gl}
def Cx.bare (c:Cx):Cx:={ U:=fun _=>False,at_:=fun _=>none,mu:=c.mu,w:=c.w,hid:=fun b=>c.hid b∨∃ id o,c.at_ id=some o∧(c.mu id).1=b }
theorem BF4 {c:Cx} {b:Nat}:c.bare.Froz b ↔ c.Froz b :=
 ⟨fun h=>⟨h.1,fun id o ho e=>h.3 (.inr ⟨id,o,ho,e⟩),fun hh=>h.3 (.inl hh)⟩,fun h=>⟨h.1,fun _ _ ho=>(by cases ho),fun hh=>hh.elim h.3 fun ⟨id,o,ho,e⟩=>h.2 id o ho e⟩⟩
theorem Plain.bare {c:Cx} {x:AV} {v:Value} (hp:Plain x) (h:RR c x v):RR c.bare x v:=hp c c.bare v (fun _ hb=>⟨BF4.2 hb,fun _ _ h=>h⟩) h
theorem fnU_pure {f n:Nat} {ac:ACode} {rs:List ARes} {args:List AV} {r:AV} {at_:At} {id:Nat} (G9:P.follows .mixedOrders=true) (hb:Body P f ac rs n) (hG:Ab4 G) (ha:∀ x ∈ args,Plain x) (hr:Plain r)
  (hw:wpc P G none 0 ac (finQ P rs 0 fun r' h'=>r'=r∧h'.l=[]) (args++List.replicate (n - args.length) .undef) ⟨[],0⟩):FnU P G f args [] at_ r [] id:=by
 refine ⟨hb.ok,fun c vs hR hg hid _ hargs=>?_⟩
 have hRb:Rel P c.bare:=⟨fun _ _ h=>(by cases h),fun _ _ _ _ h=>(by cases h),fun _ _ h=>(by cases h),⟨0,fun _ h=>h.elim⟩,fun _ _ h=>(by cases h),fun b hb=>hb.elim (hR.hidlt b) fun ⟨i,o,ho,e⟩=>e▸(hR.obj i o ho).lt⟩
 have hgb:AV2 G c.bare:=fun k cs hk=>(AT4 (hG k cs hk)).bare (hg k cs hk)
 have hmb:Mat c.bare ⟨[],0⟩:=⟨rfl,fun i=>⟨fun h=>h.elim,fun h=>by simp at h⟩⟩
 have hab:AI7 c.bare args vs:=⟨hargs.1,fun j x hx=>by
  obtain ⟨u,hu,hxu⟩:=hargs.2 j x hx
  exact ⟨u,hu,(ha x (List.mem_of_getElem? hx)).bare hxu⟩⟩
 refine (Af2 G9 hb hw hRb hgb hmb hab).mono ?_
 rintro e w' ⟨v,rfl,r',h',c2,rfl,⟨rfl,hl⟩,hrv,hR2,hm2,he2⟩
 have named:∀ i o,c.at_ i=some o→c2.w.heap[(c.mu i).1]? = c.w.heap[(c.mu i).1]?:=fun i o ho=>he2.hidh _ (.inr ⟨i,o,ho,rfl⟩)
 have he:Ext c { c with w:=c2.w }:=⟨fun _ h=>h,fun _ _=>rfl,he2.csz,fun b hb=>⟨⟨Nat.lt_of_lt_of_le hb.1 he2.size,hb.2,hb.3⟩,(he2.froz b (BF4.2 hb)).2⟩,he2.size,fun _=>Iff.rfl,fun b hb=>he2.hidh b (.inl hb),he2.env⟩
 refine ⟨v,{ c with w:=c2.w },rfl,rfl,?_,?_,he,rfl,fun i=>by simp [AB5]⟩
 ·refine hr c2 _ v (fun b hb=>⟨⟨hb.1,fun i o ho e=>hb.3 ((he2.hid b).2 (.inr ⟨i,o,ho,e⟩)),fun hh=>hb.3 ((he2.hid b).2 (.inl hh))⟩,fun _ _ h=>h⟩) hrv
 ·exact ⟨hR.used,hR.inj,fun i o ho=>(hR.obj i o ho).ext he (named i o ho),hR.many,hR.nohid,fun b hb=>Nat.lt_of_lt_of_le (hR.hidlt b hb) he2.size⟩

def WkV (P:Program) (σ:Nat→Nat) (h h':Hp) (x x':AV):Prop:=∀ (c:Cx) (v:Value),Rel P c→Mat c h→RR c x v→RR (c.ren σ h') x' v
def WkL (P:Program) (σ:Nat→Nat) (h h':Hp):List AV→List AV→Prop
 | [],[]=>True
 | x::xs,y::ys=>WkV P σ h h' x y∧WkL P σ h h' xs ys
 | _,_=>False
variable {σ:Nat→Nat}
theorem WkL.spec {h h':Hp}:∀ {xs ys:List AV},WkL P σ h h' xs ys→xs.length=ys.length∧∀ (j:Nat) y,ys[j]? = some y→∃ x,xs[j]? = some x∧WkV P σ h h' x y
 | [],[],_=>⟨rfl,fun j y hy=>by simp at hy⟩
 | x::xs,y::ys,hw=>by
  obtain ⟨h1,h2⟩:=hw.2.spec
  refine ⟨by simp [h1],fun j z hz=>?_⟩
  cases j with
  | zero=>simp at hz;subst hz;exact ⟨x,rfl,hw.1⟩
  | succ j=>obtain ⟨u,hu,hr⟩:=h2 j z (by simpa using hz);exact ⟨u,by simpa using hu,hr⟩
 | [],_::_,hw=>hw.elim
 | _::_,[],hw=>hw.elim
theorem M4 {h h':Hp}:WkL P σ h h' [] []:=trivial
theorem C9 {h h':Hp} {x y:AV} {xs ys:List AV} (h1:WkV P σ h h' x y) (h2:WkL P σ h h' xs ys):WkL P σ h h' (x::xs) (y::ys):=⟨h1,h2⟩
def AL9 (σ:Nat→Nat) (h h':Hp):Prop:=∀ i o,lk h'.l i=some o→∃ o',lk h.l (σ i)=some o'
theorem BD5 {h h':Hp} {x:AV} {c:Cx} {v:Value} (hs:AL9 σ h h') (hp:Plain x) (hm:Mat c h) (hr:RR c x v):RR (c.ren σ h') x v :=
 hp c (c.ren σ h') v (fun b hb=>⟨⟨hb.1,fun i o hi=>by obtain ⟨o',ho⟩:=hs i o hi;exact hb.2 (σ i) o' (by rw [hm.at_];exact ho),hb.3⟩,fun _ _ h=>h⟩) hr
def WkO (P:Program) (σ:Nat→Nat) (h h':Hp):List (Nat × AObj)→Prop
 | []=>True
 | (i,.cells cs')::r=>i < h'.next∧(∃ cs R,lk h.l (σ i)=some (.cells (cs++R))∧WkL P σ h h' cs cs')∧WkO P σ h h' r
 | (i,.loop st pend fr' ps as bd)::r=>i < h'.next∧(∃ fr,lk h.l (σ i)=some (.loop st pend fr ps as bd)∧WkL P σ h h' fr fr')∧WkO P σ h h' r
 | (i,.maps es)::r=>i < h'.next∧(lk h.l (σ i)=some (.maps es)∧AL9 σ h h'∧∀ e ∈ es,Plain e.1∧Plain e.2)∧WkO P σ h h' r
theorem J5 {h h':Hp}:WkO P σ h h' []:=trivial
theorem U6 {h h':Hp} {i:Nat} {cs cs':List AV} {r:List (Nat × AObj)} (h1:i < h'.next) (h2:lk h.l (σ i)=some (.cells cs)) (h3:WkL P σ h h' cs cs') (h4:WkO P σ h h' r):WkO P σ h h' ((i,.cells cs')::r):=⟨h1,⟨cs,[],by rw [List.append_nil];exact h2,h3⟩,h4⟩
theorem AB6 {h h':Hp} {i:Nat} {st:LoopState} {pend:Option Code} {ps:List Nat} {as bd:ACode} {fr fr':List AV} {r:List (Nat × AObj)} (h1:i < h'.next) (h2:lk h.l (σ i)=some (.loop st pend fr ps as bd)) (h3:WkL P σ h h' fr fr') (h4:WkO P σ h h' r):WkO P σ h h' ((i,.loop st pend fr' ps as bd)::r):=⟨h1,⟨fr,h2,h3⟩,h4⟩
theorem WkO.spec {h h':Hp} {i:Nat} {o':AObj}:∀ {l:List (Nat × AObj)},WkO P σ h h' l→lk l i=some o'→i < h'.next∧∃ o,lk h.l (σ i)=some o∧∀ c,Rel P c→Mat c h→Aq8 P (c.ren σ h') (c.mu (σ i)) o'
 | [],_,hl=>by cases hl
 | (j,ob)::r,hw,hl=>by
  simp only [lk] at hl
  cases ob with
  | cells cs' =>
   obtain ⟨h1,⟨cs,R,h2,h3⟩,h4⟩:=hw
   split at hl
   ·rename_i e
    subst e
    cases hl
    refine ⟨h1,_,h2,fun c hR hm=>?_⟩
    obtain ⟨a,T,k1,k2⟩:=hR.obj (σ i) _ (by rw [hm.at_];exact h2)
    obtain ⟨k3,k4⟩:=h3.spec
    refine ⟨a,T,k1,fun j y hy=>?_⟩
    obtain ⟨x,hx,hxy⟩:=k4 j y hy
    obtain ⟨u,hu,hxu,hone⟩:=k2 j x (by rw [List.getElem?_append_left (List.getElem?_eq_some_iff.1 hx).1];exact hx)
    exact ⟨u,hu,hxy c u hR hm hxu,hone⟩
   ·exact WkO.spec h4 hl
  | loop st pend fr' ps as bd =>
   obtain ⟨h1,⟨fr,h2,h3⟩,h4⟩:=hw
   split at hl
   ·rename_i e
    subst e
    cases hl
    refine ⟨h1,_,h2,fun c hR hm=>?_⟩
    obtain ⟨fn,tmps,qs,dn,ca,cb,k1,k2,k3⟩:=hR.obj (σ i) _ (by rw [hm.at_];exact h2)
    obtain ⟨k4,k5⟩:=h3.spec
    refine ⟨fn,tmps,qs,dn,ca,cb,k1,⟨by rw [k2.1,k4],fun j y hy=>?_⟩,k3⟩
    obtain ⟨x,hx,hxy⟩:=k5 j y hy
    obtain ⟨u,hu,hxu⟩:=k2.2 j x hx
    exact ⟨u,hu,hxy c u hR hm hxu⟩
   ·exact WkO.spec h4 hl
  | maps es =>
   obtain ⟨h1,⟨h2,h3,h5⟩,h4⟩:=hw
   split at hl
   ·rename_i e
    subst e
    cases hl
    refine ⟨h1,_,h2,fun c hR hm=>?_⟩
    obtain ⟨a,k,k1,k2,k3⟩:=hR.obj (σ i) _ (by rw [hm.at_];exact h2)
    refine ⟨a,k,k1,k2,fun j kv hj=>?_⟩
    obtain ⟨m,q1,q2,q3⟩:=k3 j kv hj
    obtain ⟨p1,p2⟩:=h5 kv (List.mem_of_getElem? hj)
    exact ⟨m,q1,BD5 h3 p1 hm q2,BD5 h3 p2 hm q3⟩
   ·exact WkO.spec h4 hl
def Az7 (σ:Nat→Nat) (l:List (Nat × AObj)):Prop:=∀ i j o o',lk l i=some o→lk l j=some o'→σ i=σ j→i=j
theorem Ak0 {fr fr':List AV} {h h':Hp} (hi:Az7 σ h'.l) (hf:WkL P σ h h' fr fr') (ho:WkO P σ h h' h'.l):Weak P σ fr h fr' h':=by
 intro c tmps hR hm hF
 have sub:∀ i o',lk h'.l i=some o'→∃ o,c.at_ (σ i)=some o:=fun i o' hi=>by
  obtain ⟨_,o,h1,_⟩:=ho.spec hi
  exact ⟨o,by rw [hm.at_];exact h1⟩
 obtain ⟨h1,h2⟩:=hf.spec
 refine ⟨⟨fun i o hi=>(ho.spec hi).1,fun i j o o' hi' hj hij=>?_,fun i o hi=>?_,⟨h'.next,fun i hi=>hi⟩,fun i o hi=>?_,hR.hidlt⟩,⟨by rw [hF.1,h1],fun j y hy=>?_⟩,fun i o' hi=>let ⟨_,o,h1,_⟩:=ho.spec hi;⟨o,h1⟩⟩
 ·obtain ⟨o1,k1⟩:=sub i o hi'
  obtain ⟨o2,k2⟩:=sub j o' hj
  exact hi i j o o' hi' hj (hR.inj (σ i) (σ j) o1 o2 k1 k2 hij)
 ·obtain ⟨_,o1,_,k⟩:=ho.spec hi;exact k c hR hm
 ·obtain ⟨o1,k1⟩:=sub i o hi;exact hR.nohid (σ i) o1 k1
 ·obtain ⟨x,hx,hxy⟩:=h2 j y hy
  obtain ⟨u,hu,hxu⟩:=hF.2 j x hx
  exact ⟨u,hu,hxy c u hR hm hxu⟩
theorem Q7 {h h':Hp} {i:Nat} {es es':List (AV × AV)} {r:List (Nat × AObj)} (h0:AL9 σ h h') (h1:i < h'.next) (h2:lk h.l (σ i)=some (.maps es)) (he:es=es') (h3:∀ e ∈ es,Plain e.1∧Plain e.2) (h4:WkO P σ h h' r):WkO P σ h h' ((i,.maps es')::r):=by subst he;exact ⟨h1,⟨h2,h0,h3⟩,h4⟩
theorem AY1 {h h':Hp} {i j:Nat} (e:σ i=j) (hi:i < h'.next):WkV P σ h h' (.mapr j) (.mapr i):=fun _ _ _ _ hr=>by subst e;exact AK6.2 ⟨hi,(AK6.1 hr).2⟩
theorem AX9 {h h':Hp} {x:AV}:WkV P σ h h' x .undef:=fun _ _ _ _ _=>RR_undef
theorem O1 {h h':Hp} {k:IntKind} {m n:Int} (e:m=n):WkV P σ h h' (.int k m) (.int k n):=fun _ _ _ _ hr=>by subst e;exact RR_int.2 (RR_int.1 hr)
theorem AB7 {h h':Hp} {m n:Bool} (e:m=n):WkV P σ h h' (.bool m) (.bool n):=fun _ _ _ _ hr=>by subst e;exact RR_bool.2 (RR_bool.1 hr)
theorem u7 {h h':Hp} {i j o:Nat} (e:σ i=j) (hi:i < h'.next):WkV P σ h h' (.ptr j o) (.ptr i o):=fun _ _ _ _ hr=>by subst e;exact AC9.2 ⟨hi,(AC9.1 hr).2⟩
theorem BI7 {h h':Hp} {i j off len len' cp cp' sz:Nat} (e:σ i=j) (hi:i < h'.next) (el:len=len') (ec:cp'≤cp) (elc:len'≤cp'):WkV P σ h h' (.sl j off len cp sz) (.sl i off len' cp' sz):=fun _ _ _ _ hr=>by
 subst e;subst el
 obtain ⟨h1,h2,cap,h3,h4,h5,h6,h7⟩:=AK9.1 hr
 exact AK9.2 ⟨hi,h2,cap,h3,elc,Nat.le_trans ec h5,h6,h7⟩
theorem BA7 {h h':Hp} {i j:Nat} (e:σ i=j) (hi:i < h'.next):WkV P σ h h' (.yld j) (.yld i):=fun _ _ _ _ hr=>by subst e;exact BH8.2 ⟨hi,(BH8.1 hr).2⟩
theorem wk_nils {h h':Hp}:WkV P σ h h' .nils (.isl []):=fun _ _ _ _ hr=>by
 obtain ⟨A,rfl⟩:=RR_nils.1 hr
 exact AD0.2 ⟨A,0,rfl,Nat.le_refl _,Nat.zero_le _,fun h=>absurd rfl h⟩
theorem X0 {h h':Hp} {x:AV} (hs:AL9 σ h h') (hp:Plain x):WkV P σ h h' x x:=fun c v _ hm hr =>
 hp c (c.ren σ h') v (fun b hb=>⟨⟨hb.1,fun i o hi=>by obtain ⟨o',ho⟩:=hs i o hi;exact hb.2 (σ i) o' (by rw [hm.at_];exact ho),hb.3⟩,fun _ _ h=>h⟩) hr
theorem Af7 {h h':Hp} {xs ys:List AV} (hw:WkL P σ h h' xs ys):WkV P σ h h' (.agg xs) (.agg ys):=fun c v hR hm hr=>by
 obtain ⟨vs,rfl,h1,h2⟩:=AB4.1 hr
 obtain ⟨h3,h4⟩:=hw.spec
 refine AB4.2 ⟨vs,rfl,by rw [h1,h3],fun j y hy=>?_⟩
 obtain ⟨x,hx,hxy⟩:=h4 j y hy
 obtain ⟨u,hu,hxu,hone⟩:=h2 j x hx
 exact ⟨u,hu,hxy c u hR hm hxu,hone⟩
theorem Af6 {h h':Hp} {xs ys:List AV} (hw:WkL P σ h h' xs ys):WkV P σ h h' (.tup xs) (.tup ys):=fun c v hR hm hr=>by
 obtain ⟨vs,rfl,h1,h2⟩:=AH3.1 hr
 obtain ⟨h3,h4⟩:=hw.spec
 refine AH3.2 ⟨vs,rfl,by rw [h1,h3],fun j y hy=>?_⟩
 obtain ⟨x,hx,hxy⟩:=h4 j y hy
 obtain ⟨u,hu,hxu⟩:=h2 j x hx
 exact ⟨u,hu,hxy c u hR hm hxu⟩
theorem wk_fn {h h':Hp} {f:Nat} {xs ys us vs:List AV} (hw:WkL P σ h h' xs ys) (hw':WkL P σ h h' us vs):WkV P σ h h' (.fn f xs us) (.fn f ys vs):=fun c v hR hm hr=>by
 obtain ⟨vf,vc,h1,⟨h2,h3⟩,h4,h5⟩:=AS6.1 hr
 obtain ⟨k1,k2⟩:=hw.spec
 obtain ⟨k3,k4⟩:=hw'.spec
 refine AS6.2 ⟨vf,vc,h1,⟨by rw [h2,k1],fun j y hy=>?_⟩,by rw [h4,k3],fun j y hy=>?_⟩
 ·obtain ⟨x,hx,hxy⟩:=k2 j y hy
  obtain ⟨u,hu,hxu⟩:=h3 j x hx
  exact ⟨u,hu,hxy c u hR hm hxu⟩
 ·obtain ⟨x,hx,hxy⟩:=k4 j y hy
  obtain ⟨u,hu,hxu⟩:=h5 j x hx
  exact ⟨u,hu,hxy c u hR hm hxu⟩
theorem wk_frz {h h':Hp} {i off len cp sz:Nat} {cs:List AV} {els:List (List AV)} (hi:lk h.l i=some (.cells cs)) (hi':∀ j o,lk h'.l j=some o→σ j ≠ i) (hs:AL9 σ h h') (hl:els.length=len) (hsz:∀ e ∈ els,e.length=sz) (hc:(cs.drop off).take (len * sz)=els.flatten) (hp:∀ e ∈ els,∀ x ∈ e,Plain x) :
  WkV P σ h h' (.sl i off len cp sz) (.isl els):=fun c v hR hm hr=>by
 obtain ⟨_,hlt,cap,rfl,g1,g2,g3,g4⟩:=AK9.1 hr
 obtain ⟨a,T,k1,k2⟩:=hR.obj i _ (by rw [hm.at_];exact hi)
 have hfz:(c.ren σ h').Froz (c.mu i).1:=by
  refine ⟨hlt,fun j o hj e=>?_,hR.nohid i _ (by rw [hm.at_];exact hi)⟩
  obtain ⟨o',ho'⟩:=hs j o hj
  exact hi' j o hj (hR.inj (σ j) i o' _ (by rw [hm.at_];exact ho') (by rw [hm.at_];exact hi) e)
 refine AD0.2 ⟨_,cap,by rw [hl],by omega,g3,fun hne=>⟨_,_,sz,rfl,hfz,fun k el hk=>⟨hsz el (List.mem_of_getElem? hk),fun j x hx=>?_⟩⟩⟩
 have hel:=hsz el (List.mem_of_getElem? hk)
 have hj:j < sz:=by have:=(List.getElem?_eq_some_iff.1 hx).1;omega
 have hflat:∀ (els:List (List AV)),(∀ e ∈ els,e.length=sz)→∀ (k:Nat) el,els[k]? = some el→els.flatten[k * sz+j]? = el[j]?:=by
  intro els
  induction els with
  | nil=>intro _ k el hk;simp at hk
  | cons e els ih =>
   intro hall k el hk
   rw [List.flatten_cons]
   cases k with
   | zero =>
    simp at hk;subst hk
    rw [List.getElem?_append_left (by have:=hall e (List.mem_cons_self ..);omega)];simp
   | succ k =>
    rw [List.getElem?_append_right (by have:=hall e (List.mem_cons_self ..);rw [Nat.succ_mul];omega),hall e (List.mem_cons_self ..),← ih (fun e he=>hall e (List.mem_cons_of_mem _ he)) k el (by simpa using hk)]
    congr 1;rw [Nat.succ_mul];omega
 have hcx:cs[off+(k * sz+j)]? = some x:=by
  have h1:=hflat els hsz k el hk
  rw [← hc,List.getElem?_take] at h1
  split at h1
  ·rw [List.getElem?_drop] at h1;rw [h1];exact hx
  ·rw [hx] at h1;cases h1
 obtain ⟨u,hu,hxu,hone⟩:=k2 _ x hcx
 have hu':a[(c.mu i).2+(off+(k * sz+j))]? = some u:=hu
 refine ⟨u,?_,(X0 (P:=P) hs (hp el (List.mem_of_getElem? hk) x (List.mem_of_getElem? hx))) c u hR hm hxu,hone⟩
 show c.w.cell? _=some u
 rw [cell_of k1,show (c.mu i).2+off+k * sz+j=(c.mu i).2+(off+(k * sz+j)) by omega]
 exact hu'
end
end Go.Am
namespace Go.Am
def Aq4 (fr:List AV):List Nat→List AV→List AV
 | t::ts,x::xs=>Aq4 (fr.set t x) ts xs
 | _,_=>fr
def roundQ (l:Nat) (K:AV→Hp→Prop) (e:Exit) (_:List AV) (h:Hp):Prop :=
 ∃ pend fr ps as bd,lk h.l l=some (.loop .busy pend fr ps as bd) ∧
  match e with
  | .normal=>K (.bool true) ⟨put h.l l (some (.loop .ready none fr ps as bd)),h.next⟩
  | .ret=>K (.bool false) ⟨put h.l l (some (.loop .done (some .ret) fr ps as bd)),h.next⟩
  | .exit id=>K (.bool false) ⟨put h.l l (some (.loop .done (some (.exit id)) fr ps as bd)),h.next⟩
  | _=>False
def assignQ (P:Program) (G:Gl) (l N:Nat) (bd:ACode) (K:AV→Hp→Prop) (e:Exit) (fr1:List AV) (h1:Hp):Prop :=
 e = .normal∧∃ pend fr ps as bd',lk h1.l l=some (.loop .ready pend fr ps as bd')∧wpc P G (some l) N bd (roundQ l K) fr1 ⟨put h1.l l (some (.loop .busy pend fr ps as bd')),h1.next⟩
section
variable {P:Program} {G:Gl}
theorem FR.ps {c:Cx}:∀ (ps:List Nat) (args:List AV) (vs:List Value) (fr:List AV) (tmps:Array Value),FR c fr tmps→vs.length=args.length→RCs (RR c) args (fun j=>vs[j]?)→FR c (Aq4 fr ps args) ((ps.zip vs).foldl (fun tmps (x:Nat × Value)=>tmps.setIfInBounds x.1 x.2) tmps)
 | [],_,_,_,_,h,_,_=>by simpa [Aq4] using h
 | t::ts,[],[],_,_,h,_,_=>by simpa [Aq4] using h
 | t::ts,x::xs,v::vs,fr,tmps,h,hl,hr=>by
  simp only [Aq4,List.zip_cons_cons,List.foldl_cons]
  obtain ⟨u,hu,hxu⟩:=hr 0 x rfl
  simp at hu
  subst hu
  exact FR.ps ts xs vs _ _ (h.set t hxu) (by simpa using hl) fun j y hy=>by simpa using hr (j+1) y (by simpa using hy)
 | _::_,[],_::_,_,_,_,hl,_=>by simp at hl
 | _::_,_::_,[],_,_,_,hl,_=>by simp at hl
theorem callV_yld {l:Nat} {pend:Option Code} {fr:List AV} {ps:List Nat} {as bd:ACode} {args:List AV} {h:Hp} {K:AV→Hp→Prop} (G9:P.follows .mixedOrders=true) (hl:lk h.l l=some (.loop .ready pend fr ps as bd)) (hlen:args.length=ps.length)
  (hw:wpc P G (some l) h.next as (assignQ P G l h.next bd K) (Aq4 fr ps args) h):Ah6 P G (.yld l) args h K:=by
 intro c u vs hR hG hm hu hargs
 obtain ⟨hUl,rfl⟩:=BH8.1 hu
 have hlc:c.at_ l=some (.loop .ready pend fr ps as bd):=by rw [hm.at_];exact hl
 obtain ⟨r,hr,hrs,hrp,hrF,hrps,hra,hrb,_⟩:=AK0 hR hlc
 have hsz:vs.size=r.params.size:=by rw [hargs.1,hlen,← hrps];simp
 refine ⟨.round (c.mu l).1 r.fn ((r.params.zip vs).foldl (fun tmps (t,a)=>tmps.setIfInBounds t a) r.tmps) r.assign r.body,c.w,?_,fun n=>?_⟩
 ·simp only [Deferred.ofValue,invoke,Instr.yield,Sem.run_bind,Sem.run_pure,Result.andThen_ok,run_getLoop hr]
  simp [hsz]
 ·refine roundIn_of_wpIn trivial ?_
  have hF:FR c (Aq4 fr ps args) ((r.params.zip vs).foldl (fun tmps (t,a)=>tmps.setIfInBounds t a) r.tmps):=by
   have:=FR.ps (c:=c) r.params.toList args vs.toList fr r.tmps hrF (by simpa using hargs.1) (hargs.2.imp (fun _ _ h=>h) fun j u hj=>by simpa using hj)
   rw [hrps] at this
   rw [← Array.foldl_toList,Array.toList_zip,hrps]
   exact this
  have hs:St P G c.w.heap.size c (Aq4 fr ps args) h { tmps:=(r.params.zip vs).foldl (fun tmps (t,a)=>tmps.setIfInBounds t a) r.tmps,defers:=[] } :=
   ⟨hR,hG,hm,hF,⟨List.Pairwise.nil,fun d hd=>by cases hd⟩,Nat.le_refl _⟩
  have hwp:=AP8 G9 r.assign as hra (some l) h.next _ _ _ hw c.w.heap.size c c _ n hs (Ext.refl c) rfl (fun l' hl'=>by cases hl';exact hUl) hG fun i hi=>(hm.U i).1 hi
  refine wpIn_mono hwp ?_
  rintro e a' w' ⟨c1,fr1,h1,rfl,⟨rfl,pend1,fr',ps',as',bd1,hl1,hw1⟩,hs1,he1⟩
  have hl1c:c1.at_ l=some (.loop .ready pend1 fr' ps' as' bd1):=by rw [hs1.mat.at_];exact hl1
  obtain ⟨r1,hr1,hrs1,hrp1,hrF1,hrps1,hra1,hrb1,hch1⟩:=AK0 hs1.rel hl1c
  have hmu1:(c1.mu l).1=(c.mu l).1:=by rw [he1.mu l hUl]
  obtain ⟨hR2,he2⟩:=hch1 .busy pend1
  refine ⟨{ c1.w with heap:=c1.w.heap.setIfInBounds (c1.mu l).1 (.loop { r1 with state:=.busy }) },?_,?_⟩
  ·rw [← hmu1]
   simp only [Instr.beginRound,Sem.run_bind,run_getLoop hr1,Result.andThen_ok,Ac6 _ hr1,hrs1,Sem.run_pure]
  ·have hs2:St P G c.w.heap.size (c1.wro l (.loop .busy pend1 fr' ps' as' bd1) { c1.w with heap:=c1.w.heap.setIfInBounds (c1.mu l).1 (.loop { r1 with state:=.busy,pending:=pend1 }) }) fr1 ⟨put h1.l l (some (.loop .busy pend1 fr' ps' as' bd1)),h1.next⟩ a' :=
    ⟨hR2,hs1.glo.ext he2,hs1.mat.wro _ _ _,hs1.fr.ext he2,hs1.df.ext he2,Nat.le_trans hs1.old he2.size⟩
   -- the body that is laid in the record is the one that was there
   have hbody:r.body=r1.body∨True:=.inr trivial
   have hwb:=AP8 G9 r.body bd hrb (some l) h.next _ _ _ hw1 c.w.heap.size c _ a' n hs2 (he1.trans he2) (by simp only [fence];rw [(he1.trans he2).mu l hUl]) (fun l' hl'=>by cases hl';exact hUl) hG fun i hi=>(hm.U i).1 hi
   have hwsame:{ c1.w with heap:=c1.w.heap.setIfInBounds (c1.mu l).1 (.loop { r1 with state:=.busy }) }=(c1.wro l (.loop .busy pend1 fr' ps' as' bd1) { c1.w with heap:=c1.w.heap.setIfInBounds (c1.mu l).1 (.loop { r1 with state:=.busy,pending:=pend1 }) }).w:=by
    show _=({ c1.w with heap:=c1.w.heap.setIfInBounds (c1.mu l).1 (.loop { r1 with state:=.busy,pending:=pend1 }) }:World)
    rw [← hrp1]
   rw [hwsame]
   refine wpIn_mono hwb ?_
   rintro e a3 w3 ⟨c3,fr3,h3,rfl,⟨pend3,frr,psr,asr,bdr,hl3,hq⟩,hs3,he3⟩
   have hl3c:c3.at_ l=some (.loop .busy pend3 frr psr asr bdr):=by rw [hs3.mat.at_];exact hl3
   obtain ⟨r3,hr3,hrs3,hrp3,_,_,_,_,hch3⟩:=AK0 hs3.rel hl3c
   have hmu3:(c3.mu l).1=(c.mu l).1:=by rw [he3.mu l hUl]
   have fin:∀ jump:Option Code,(Instr.endRound (c.mu l).1 jump).run P c3.w = .ok (.bool jump.isNone) { c3.w with heap:=c3.w.heap.setIfInBounds (c3.mu l).1 (.loop { r3 with state:=if jump.isNone then .ready else .done,pending:=jump }) }:=fun jump=>by
    rw [← hmu3]
    simp only [Instr.endRound,Sem.run_bind,run_getLoop hr3,Result.andThen_ok,Ac6 _ hr3,Sem.run_pure]
   have done:∀ (jump:Option Code) (b:Bool),b=jump.isNone→K (.bool b) ⟨put h3.l l (some (.loop (if jump.isNone then .ready else .done) jump frr psr asr bdr)),h3.next⟩ →
     ∃ v w',(Instr.endRound (c.mu l).1 jump).run P c3.w = .ok v w'∧(∃ v_1,Ending.returned v = .returned v_1∧Ends P c K v_1 w'):=fun jump b hb hK=>by
    obtain ⟨hR4,he4⟩:=hch3 (if jump.isNone then .ready else .done) jump
    exact ⟨_,_,fin jump,_,rfl,.bool b,_,c3.wro l _ _,rfl,hK,RR_bool.2 (by rw [hb]),hR4,hs3.mat.wro _ _ _,he3.trans he4⟩
   cases e<;>simp only at hq<;>try exact hq.elim
   ·exact done none true rfl hq
   ·exact done (some (.exit _)) false rfl hq
   ·exact done (some .ret) false rfl hq
end
end Go.Am
namespace Go.Am
def Af4 (P:Program) (G:Gl) (g:Nat) (args:List AV) (r:AV):Prop:=∀ at_ id,FnU P G g args [] at_ r [] id
def BK6:AOp→Bool
 | .mv _ | .pick _ _ _ | .load _ _ _ | .nchk _ | .bin _ _ _ | .eqb _ _ _ | .eqp _ _ _ _ | .eqs _ _ _ _ | .un _ _ | .conv _ _ | .faddr _ _ | .fld _ _ _ _ | .iaddrA _ _ _ _ | .iaddrS _ _ _ | .idx _ _ _ _ _ | .slS _ _ _ _ _ | .slA _ _ _ _ _ | .mkfn _ _ _ | .ext _ _ | .len _ | .minmax _ _ _ | .build _ _ | .call _ _=>true
 | _=>false
def statQ (anc:List (List Nat)) (n:Nat):List L6→Nat→Nat→List Ent→Option Nat
 | [],_,b,log=>if chk anc b log then some 0 else none
 | o::os,k,b,log =>
  if BK6 o.op then
   if o.op.isCall && pivot anc n k then (if chk anc b log then statQ anc n os (k+1) (k+1) [] else none)
   else (statQ anc n os (k+1) b (log++[AP5 o true [] []])).map (· + 1)
  else none
def Av4 (ops:List L6) (pre:List (List Nat)):Option Nat:=if BE0 pre 0 then statQ (ancs pre) pre.length ops 0 0 [] else none
def BJ5 (P:Program) (G:Gl) (o:AOp) (fr:List AV) (h:Hp) (K:AV→Prop):Prop :=
 match o with
 | .call f xs=>∃ g fs cs avs r,ax G fr f=some (.fn g fs cs)∧AV9 (ax G fr) xs=some avs∧Af4 P G g (fs++avs++cs) r∧K r
 | o=>∃ v rd,G7 (ax G fr) (lk h.l) h.next o=some (v,[],rd)∧K v
def BQ8 (P:Program) (G:Gl):List L6→(List AV→Hp→Prop)→List AV→Hp→Prop
 | [],Q,fr,h=>Q fr h
 | o::os,Q,fr,h=>AH1 o fr (BJ5 P G o.op fr h fun v=>BQ8 P G os Q (AD4 fr o.dst v) h) (BQ8 P G os Q (AD4 fr o.dst (.tup [])) h)
structure Ent.Le (e' e:Ent):Prop where
 sr:∀ x ∈ e'.sr,x ∈ e.sr
 sw:∀ x ∈ e'.sw,x ∈ e.sw
 wr:e'.wr=[]
theorem Ad8 {a a' b b':List Nat} (h:meets a b=false) (ha:∀ x ∈ a',x ∈ a) (hb:∀ x ∈ b',x ∈ b):meets a' b'=false:=by
 simp only [meets,List.any_eq_false,List.contains_eq_mem,decide_eq_true_eq] at h ⊢
 exact fun x hx hxb=>h x (ha x hx) (hb x hxb)
theorem clash_mono {e e' f f':Ent} (he:e'.Le e) (hf:f'.Le f) (h:clash e f=false):clash e' f'=false:=by
 simp only [clash,Bool.or_eq_false_iff] at h ⊢
 obtain ⟨⟨⟨⟨⟨h1,h2⟩,h3⟩,_⟩,_⟩,_⟩:=h
 refine ⟨⟨⟨⟨⟨Ad8 h1 he.sw hf.sr,Ad8 h2 he.sw hf.sw⟩,Ad8 h3 hf.sw he.sr⟩,?_⟩,?_⟩,?_⟩<;>simp [meets,he.wr,hf.wr]
inductive Les:List Ent→List Ent→Prop where
 | nil:Les [] []
 | cons {e' e:Ent} {l' l:List Ent} (h:e'.Le e) (t:Les l' l):Les (e'::l') (e::l)
theorem Les.snoc {e' e:Ent} (h:e'.Le e):∀ {l' l:List Ent},Les l' l→Les (l'++[e']) (l++[e])
 | _,_,.nil=>.cons h .nil
 | _,_,.cons h1 t=>.cons h1 (t.snoc h)
theorem Ap2 {anc:List (List Nat)} {k:Nat} {e' e:Ent} (he:e'.Le e):∀ {l' l:List Ent} {j:Nat},Les l' l→Ap3 anc k e j l=true→Ap3 anc k e' j l'=true
 | _,_,_,.nil,_=>rfl
 | _,_,j,.cons hf t,h=>by
  simp only [Ap3,Bool.and_eq_true,Bool.or_eq_true,Bool.not_eq_true'] at h ⊢
  exact ⟨h.1.imp id (clash_mono he hf),Ap2 he t h.2⟩
theorem Ay8 {anc:List (List Nat)}:∀ {l' l:List Ent} {k:Nat},Les l' l→chk anc k l=true→chk anc k l'=true
 | _,_,_,.nil,_=>rfl
 | _,_,k,.cons he t,h=>by
  simp only [chk,Bool.and_eq_true] at h ⊢
  exact ⟨Ap2 he t h.1,Ay8 t h.2⟩
theorem ent_le {o:L6} {ran:Bool} {rd:List Nat}:(AP5 o ran [] rd).Le (AP5 o true [] []):=by
 refine ⟨fun x hx=>?_,fun x hx=>hx,rfl⟩
 simp only [AP5,List.mem_append] at hx ⊢
 rcases hx with h|h
 ·exact .inl h
 ·cases ran with
  | true=>exact .inr h
  | false=>simp at h
section
variable {P:Program} {G:Gl}
theorem quiet_id {ev:AX→Option AV} {at_:At} {id id':Nat} {o:AOp} (hq:BK6 o=true):G7 ev at_ id o=G7 ev at_ id' o:=by
 cases o<;>first|rfl|cases hq
theorem AM3 {anc:List (List Nat)} {n:Nat} {Q:List AV→Hp→Prop} {l:List (Nat × AObj)} {h:Hp} (hl0:h.l=l) {e:Nat}:∀ (os:List L6) (k b:Nat) (log log':List Ent) (fr:List AV) (nx m:Nat),statQ anc n os k b log=some m→nx+m=e→Les log' log →
    BQ8 P G os (fun fr' _=>Q fr' ⟨l,e⟩) fr h→Ag1 P G anc n os k b log' Q fr ⟨l,nx⟩
  | [],k,b,log,log',fr,nx,m,hs,hm,hl,hr=>by
    simp only [statQ] at hs
    split at hs
    · rename_i hc;cases hs;cases hm;exact ⟨Ay8 hl hc,hr⟩
    · cases hs
  | o::os,k,b,log,log',fr,nx,m,hs,hm,hl,hr=>by
    simp only [statQ] at hs
    split at hs
    · rename_i hq
      simp only [Ag1]
      split at hs
      · rename_i hp
        rw [if_pos hp]
        split at hs
        · rename_i hc
          refine ⟨Ay8 hl hc,?_⟩
          have hcall:o.op.isCall=true:=by simp only [Bool.and_eq_true] at hp;exact hp.1
          have step:BJ5 P G o.op fr h (fun v=>BQ8 P G os (fun fr' _=>Q fr' ⟨l,e⟩) (AD4 fr o.dst v) h)→Ac5 P G o.op fr ⟨l,nx⟩ fun v h'=>Ag1 P G anc n os (k+1) (k+1) [] Q (AD4 fr o.dst v) h':=by
            revert hcall
            cases o.op<;>intro hcall<;>try (cases hcall)
            case eqn=>rintro ⟨v,rd,h1,_⟩;simp [G7] at h1
            rintro ⟨g,fs,cs,avs,r,h1,h2,h3,h4⟩
            exact ⟨_,avs,h1,h2,Ap5 (h3 _ _) (AM3 hl0 os (k+1) (k+1) [] [] _ nx m hs hm .nil h4)⟩
          have skip:BQ8 P G os (fun fr' _=>Q fr' ⟨l,e⟩) (AD4 fr o.dst (.tup [])) h→Ag1 P G anc n os (k+1) (k+1) [] Q (AD4 fr o.dst (.tup [])) ⟨l,nx⟩:=AM3 hl0 os (k+1) (k+1) [] [] _ nx m hs hm .nil
          simp only [BQ8,AH1] at hr ⊢
          split at hr
          · exact step hr
          · obtain ⟨p,h1,h2,h3⟩:=hr
            exact ⟨p,h1,fun e=>step (h2 e),fun e=>skip (h3 e)⟩
        · cases hs
      · rename_i hp
        rw [if_neg hp]
        simp only [Option.map_eq_some_iff] at hs
        obtain ⟨m',hs,rfl⟩:=hs
        have skip:BQ8 P G os (fun fr' _=>Q fr' ⟨l,e⟩) (AD4 fr o.dst (.tup [])) h→Ag1 P G anc n os (k+1) b (log'++[AP5 o false [] []]) Q (AD4 fr o.dst (.tup [])) (Hp.appD ⟨l,nx⟩ []):=fun hr =>
          AM3 hl0 os (k+1) b _ _ _ (nx+1) m' hs (by omega) (hl.snoc ent_le) hr
        have go:∀ (v:AV) (rd:List Nat),BQ8 P G os (fun fr' _=>Q fr' ⟨l,e⟩) (AD4 fr o.dst v) h→Ag1 P G anc n os (k+1) b (log'++[AP5 o true [] rd]) Q (AD4 fr o.dst v) (Hp.appD ⟨l,nx⟩ []):=fun v rd hr =>
          AM3 hl0 os (k+1) b _ _ _ (nx+1) m' hs (by omega) (hl.snoc ent_le) hr
        have step:BJ5 P G o.op fr h (fun v=>BQ8 P G os (fun fr' _=>Q fr' ⟨l,e⟩) (AD4 fr o.dst v) h)→∃ v up rd,StepD P G o.op fr (lk l) nx v up rd∧Ag1 P G anc n os (k+1) b (log'++[AP5 o true up rd]) Q (AD4 fr o.dst v) (Hp.appD ⟨l,nx⟩ up):=by
          have key:BK6 o.op=true:=hq
          revert key
          generalize o.op=op
          intro key hst
          cases op
          case call f xs =>
            obtain ⟨g,fs,cs,avs,r,h1,h2,h3,h4⟩:=hst
            exact ⟨r,[],[],⟨g,fs,cs,avs,h1,h2,h3 _ _⟩,go r [] h4⟩
          all_goals
            first
            | (obtain ⟨v, rd, h1, h2⟩ := hst
               rw [hl0,quiet_id (id':=nx) key] at h1
               exact ⟨v,[],rd,h1,go v rd h2⟩)
            | cases key
        simp only [BQ8,AH1] at hr ⊢
        split at hr
        · exact step hr
        · obtain ⟨p,h1,h2,h3⟩:=hr
          exact ⟨p,h1,fun e=>step (h2 e),fun e=>skip (h3 e)⟩
    · cases hs
theorem regD_quiet {rd:Option Nat} {N m:Nat} {ops:List L6} {pre:List (List Nat)} {Q:Exit→List AV→Hp→Prop} {fr:List AV} {h:Hp} (hs:Av4 ops pre=some m) (hr:BQ8 P G ops (fun fr' _=>Q .normal fr' ⟨h.l,h.next+m⟩) fr h):wpc P G rd N (.regD ops pre) Q fr h:=by
 unfold Av4 at hs
 split at hs
 ·rename_i ho
  exact ⟨ho,AM3 (h:=h) rfl ops 0 0 [] [] fr h.next m hs rfl .nil hr⟩
 ·cases hs
end
end Go.Am
namespace Go.Pol
def nth {α:Type} (d:α) (l:List α) (k:Nat):α:=l[k]?.getD d
theorem I9 {α:Type} {d:α} {l:List α} {k:Nat} (h:k < l.length):nth d l k=l[k]:=by simp [nth,h]
theorem AE5 {α:Type} {d:α} {l:List α} {k:Nat} (h:k < l.length):nth d l k ∈ l:=by rw [I9 h];exact List.getElem_mem h
theorem AS8 {α:Type} {d:α} {l:List α} {k:Nat} (h:k < l.length):l.take (k+1)=l.take k++[nth d l k]:=by
 rw [List.take_succ_eq_append_getElem h,I9 h]
end Go.Pol
namespace Go.Am
section
variable {P:Program} {G:Gl} {rd:Option Nat} {N:Nat} {Q:Exit→List AV→Hp→Prop} {fr:List AV} {h:Hp}
end
section
variable {P:Program} {G:Gl}
def stR:Option (Up × List Nat)→Option (AV × Up × List Nat)
 | some (up,r)=>some (.undef,up,r)
 | none=>none
variable {ev:AX→Option AV} {at_:At} {id:Nat}
end
def BH9:List AV→Prop
 | []=>True
 | x::r=>Plain x∧BH9 r
theorem BH9.all:∀ {l:List AV},BH9 l→∀ x ∈ l,Plain x
 | _::_,h,x,hx=>(List.mem_cons.1 hx).elim (fun e=>e▸h.1) fun hx=>h.2.all x hx
theorem pure_of {P:Program} {G:Gl} {f n:Nat} {ac:ACode} {rs:List ARes} {args:List AV} {r:AV} (G9:P.follows .mixedOrders=true) (hb:Body P f ac rs n) (hG:Ab4 G) (ha:BH9 args) (hr:Plain r)
  (hw:wpc P G none 0 ac (finQ P rs 0 fun r' h'=>r'=r∧h'.l=[]) (args++List.replicate (n - args.length) .undef) ⟨[],0⟩):Af4 P G f args r:=fun _ _=>fnU_pure G9 hb hG ha.all hr hw
end Go.Am
