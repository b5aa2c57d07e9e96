/-
 A region that draws its order: one walk in the order of the text,and a look at who stands in whose way. No program in sight.
 A region that draws its order: whatever order is drawn,it comes to what one walk in the order of the text has shown. No program in sight.
 A region that draws its order: the law. No program in sight.
 The abstract machine's code: what is asked ahead of it so that it comes to what is wanted. No program in sight.
 A range over a function,and all code. No program in sight.
-/
import Derived.Test.YtbhgfoikbkaohaaGreatAmThree
import Derived.OrdersIn
set_option linter.unusedSimpArgs false
set_option linter.unusedVariables false
namespace Go.Am
structure Ent where
 sr:List Nat
 sw:List Nat
 rd:List Nat
 wr:List Nat
def meets (a b:List Nat):Bool:=a.any fun x=>b.contains x
def clash (a b:Ent):Bool:=meets a.sw b.sr || meets a.sw b.sw || meets b.sw a.sr || meets a.wr b.rd || meets a.wr b.wr || meets b.wr a.rd
def AF3 (acc:List (List Nat)) (ps:List Nat):List (List Nat):=acc++[(List.range acc.length).filter fun i=>ps.contains i || ps.any fun p=>(acc.getD p []).contains i]
def ancs (pre:List (List Nat)):List (List Nat):=pre.foldl AF3 []
def Ap3 (anc:List (List Nat)) (k:Nat) (e:Ent):Nat→List Ent→Bool
 | _,[]=>true
 | j,f::r=>((anc.getD j []).contains k || !clash e f) && Ap3 anc k e (j+1) r
def chk (anc:List (List Nat)):Nat→List Ent→Bool
 | _,[]=>true
 | k,e::r=>Ap3 anc k e (k+1) r && chk anc (k+1) r
def pivot (anc:List (List Nat)) (n k:Nat):Bool:=(List.range n).all fun i=>i == k || (anc.getD k []).contains i || (anc.getD i []).contains k

theorem Am5 {a b:List Nat} (h:meets a b=false) {x:Nat} (ha:x ∈ a):x ∉ b:=fun hb=>by
 simp only [meets,List.any_eq_false,List.contains_eq_mem,decide_eq_true_eq] at h
 exact h x ha hb
theorem Ap1 {anc:List (List Nat)} {k:Nat} {e:Ent}:∀ {l:List Ent} {j:Nat},Ap3 anc k e j l=true→∀ (q:Nat) f,l[q]? = some f→k ∈ anc.getD (j+q) []∨clash e f=false
 | [],_,_,q,f,hq=>by simp at hq
 | g::l,j,h,q,f,hq=>by
  simp only [Ap3,Bool.and_eq_true,Bool.or_eq_true,List.contains_eq_mem,decide_eq_true_eq,Bool.not_eq_true'] at h
  cases q with
  | zero=>simp at hq;subst hq;exact h.1
  | succ q=>rw [show j+(q+1)=j+1+q by omega];exact Ap1 h.2 q f (by simpa using hq)
theorem Aj4 {anc:List (List Nat)}:∀ {l:List Ent} {k:Nat},chk anc k l=true→∀ (i j:Nat) e f,i < j→l[i]? = some e→l[j]? = some f→k+i ∈ anc.getD (k+j) []∨clash e f=false
 | [],_,_,i,_,e,_,_,hi,_=>by simp at hi
 | g::l,k,h,i,j,e,f,hij,hi,hj=>by
  simp only [chk,Bool.and_eq_true] at h
  cases j with
  | zero=>omega
  | succ j =>
   cases i with
   | zero =>
    simp at hi
    subst hi
    have:=Ap1 h.1 j f (by simpa using hj)
    rw [show k+(j+1)=k+1+j by omega];exact this
   | succ i =>
    have:=Aj4 h.2 i j e f (by omega) (by simpa using hi) (by simpa using hj)
    rw [show k+(i+1)=k+1+i by omega,show k+(j+1)=k+1+j by omega];exact this
theorem Ap9:∀ (pre acc:List (List Nat)) (j i:Nat),acc.length≤j→i ∈ (pre.foldl AF3 acc).getD j []→∃ ps,pre[j - acc.length]? = some ps∧i < j∧(i ∈ ps∨∃ p ∈ ps,p < j∧i ∈ (pre.foldl AF3 acc).getD p [])
 | [],acc,j,i,hj,h=>by
  rw [List.foldl_nil] at h
  simp [List.getElem?_eq_none hj] at h
 | ps::pre,acc,j,i,hj,h=>by
  rw [List.foldl_cons] at h
  have hlen:(AF3 acc ps).length=acc.length+1:=by simp [AF3]
  have keep:∀ (pre acc:List (List Nat)) (q:Nat),q < acc.length→(pre.foldl AF3 acc).getD q []=acc.getD q []:=by
   intro pre
   induction pre with
   | nil=>intro acc q _;rfl
   | cons p pre ih =>
    intro acc q hq
    rw [List.foldl_cons,ih _ _ (by simp [AF3];omega)]
    simp [AF3,List.getElem?_append_left hq]
  rcases Nat.lt_or_ge acc.length j with hlt|hge
  ·obtain ⟨ps',h1,h2,h3⟩:=Ap9 pre (AF3 acc ps) j i (by omega) h
   refine ⟨ps',?_,h2,by rw [List.foldl_cons];exact h3⟩
   rw [hlen] at h1
   rw [show j - acc.length=(j - (acc.length+1))+1 by omega,List.getElem?_cons_succ]
   exact h1
  ·obtain rfl:j=acc.length:=by omega
   rw [keep pre (AF3 acc ps) acc.length (by omega)] at h
   simp only [AF3,List.getD_eq_getElem?_getD,List.getElem?_append_right (Nat.le_refl _),Nat.sub_self,List.getElem?_cons_zero,Option.getD_some,List.mem_filter,List.mem_range,Bool.or_eq_true,List.contains_eq_mem,decide_eq_true_eq,List.any_eq_true] at h
   obtain ⟨h1,h2⟩:=h
   refine ⟨ps,by simp,h1,h2.imp id ?_⟩
   rintro ⟨p,hp,hip⟩
   have hpl:p < acc.length:=by
    rcases Nat.lt_or_ge p acc.length with h|h
    ·exact h
    ·rw [List.getElem?_eq_none h] at hip;simp at hip
   refine ⟨p,hp,hpl,?_⟩
   rw [List.foldl_cons,keep pre (AF3 acc ps) p (by omega)]
   simp only [AF3,List.getD_eq_getElem?_getD,List.getElem?_append_left hpl]
   exact hip
def Closed (ops:Array Oper) (listed:Array Bool):Prop:=∀ (j:Nat) (o:Oper),ops[j]? = some o→listed.getD j false=true→∀ p ∈ AJ6 o,listed.getD p false=true
theorem Au2 {ops:Array Oper} {listed:Array Bool} (hc:Closed ops listed):∀ (j i:Nat),i ∈ (ancs (ops.toList.map AJ6)).getD j []→(∀ o,ops[j]? = some o→∀ p ∈ AJ6 o,listed.getD p false=true)→listed.getD i false=true:=by
 intro j
 induction j using Nat.strongRecOn with
 | _ j ih =>
  intro i h hp
  obtain ⟨ps,h1,h2,h3⟩:=Ap9 (ops.toList.map AJ6) [] j i (Nat.zero_le _) h
  simp only [List.length_nil,Nat.sub_zero,List.getElem?_map,Option.map_eq_some_iff] at h1
  obtain ⟨o,ho,rfl⟩:=h1
  have ho':ops[j]? = some o:=by simpa using ho
  rcases h3 with h3 | ⟨p,hp1,hpj,hp2⟩
  ·exact hp o ho' i h3
  ·exact ih p hpj i hp2 fun o' ho'' q hq=>hc p o' ho'' (hp o ho' p hp1) q hq
theorem mem_preds {o:Oper} {e:Edge} (he:e ∈ o.after) (hb:Region.binds .any e=true):e.on ∈ AJ6 o:=by
 simp only [AJ6,List.mem_map,List.mem_filter]
 exact ⟨e,⟨by simpa using he,hb⟩,rfl⟩
theorem preds_mem {o:Oper} {p:Nat} (h:p ∈ AJ6 o):∃ e ∈ o.after,Region.binds .any e=true∧e.on=p:=by
 simp only [AJ6,List.mem_map,List.mem_filter] at h
 obtain ⟨e,⟨h1,h2⟩,h3⟩:=h
 exact ⟨e,by simpa using h1,h2,h3⟩

def fnOk (P:Program) (f:Nat):Bool:=match P.funcs[f]? with
 | some fn=>fn.name != "runtime.NumGoroutine" && fn.body.isSome
 | none=>false
def FnU (P:Program) (G:Gl) (f:Nat) (args:List AV) (rd:List Nat) (at_:At) (r:AV) (up:Up) (id:Nat):Prop :=
 fnOk P f=true∧∀ (c:Cx) (vs:Array Value),Rel P c→AV2 G c→¬ c.U id→(∀ i ∈ rd,c.at_ i=at_ i)→AI7 c args vs →
  Calls P f vs c.w fun e w'=>∃ v c',e = .returned v∧c'.w=w'∧RR c' r v∧Rel P c'∧Ext c c'∧c'.at_=upd c.at_ up∧∀ i,c'.U i ↔ c.U i∨i ∈ AB5 up id
def StepD (P:Program) (G:Gl) (o:AOp) (fr:List AV) (at_:At) (id:Nat) (v:AV) (up:Up) (rd:List Nat):Prop :=
 match o with
 | .call f xs=>∃ g fs cs avs,ax G fr f=some (.fn g fs cs)∧AV9 (ax G fr) xs=some avs∧FnU P G g (fs++avs++cs) rd at_ v up id
 | o=>G7 (ax G fr) at_ id o=some (v,up,rd)
theorem AE1 {P:Program} {f:Nat} {vf vc vs:Array Value} (h:fnOk P f=true) (w:World):(do let d ← Deferred.ofValue (.func (.func f) vf vc) vs;invoke d.target d.args:Sem Next).run P w = .ok (.enter f (vf++vs++vc)) w:=by
 unfold fnOk at h
 cases hf:P.funcs[f]? with
 | none=>rw [hf] at h;cases h
 | some fn =>
  rw [hf] at h
  simp only [Bool.and_eq_true,bne_iff_ne,ne_eq] at h
  obtain ⟨b,hb⟩:=Option.isSome_iff_exists.1 h.2
  simp [Deferred.ofValue,invoke,callFunc,hf,h.1,hb]
theorem AA8 {c:Cx} {xs ys:List AV} {us vs:Array Value} (h1:AI7 c xs us) (h2:AI7 c ys vs):AI7 c (xs++ys) (us++vs):=by
 refine ⟨by simp [h1.1,h2.1],fun j x hx=>?_⟩
 show ∃ u,(us++vs)[j]? = some u∧RR c x u
 rw [List.getElem?_append] at hx
 rw [Array.getElem?_append,h1.1]
 split at hx
 ·rename_i hj;rw [if_pos hj];exact h1.2 j x hx
 ·rename_i hj;rw [if_neg hj];exact h2.2 _ x hx
theorem Ap5 {P:Program} {G:Gl} {g:Nat} {fs cs avs:List AV} {h:Hp} {rd:List Nat} {r:AV} {up:Up} {K:AV→Hp→Prop} (hf:FnU P G g (fs++avs++cs) rd (lk h.l) r up h.next) (hK:K r (h.app up)):Ah6 P G (.fn g fs cs) avs h K:=by
 intro c u vs hR hG hm hu hargs
 obtain ⟨vf,vc,rfl,h1,h2⟩:=AS6.1 hu
 refine ⟨_,_,AE1 hf.1 c.w,?_⟩
 refine (hf.2 c (vf++vs++vc) hR hG hm.fresh (fun i _=>by rw [hm.at_]) (AA8 (AA8 h1 hargs) h2)).mono ?_
 rintro e w' ⟨v,c',rfl,rfl,k1,k2,k3,k4,k5⟩
 exact ⟨v,rfl,r,_,c',rfl,hK,k1,k2,hm.app k4 k5,k3⟩
section
variable {P:Program} {G:Gl} {c:Cx} {fr:List AV} {a:Act}
theorem BJ6 {o:Oper} {ao:AOp} {n:Nat} {rd0:Option Nat} {fr':List AV} {at0:At} {id:Nat} {v:AV} {up:Up} {rd:List Nat} {next:Act→World→Prop} {Q:Exit→Act→World→Prop} (hc:cop P o.op=some ao) (hF:FR c fr' a.tmps) (hG:AV2 G c) (hR:Rel P c) (hid:¬ c.U id)
  (hs:∀ n ∈ ao.slots,fr'[n]? = fr[n]?) (ha:∀ i ∈ rd,c.at_ i=at0 i) (h1:StepD P G ao fr at0 id v up rd)
  (hk:∀ val c',RR c' v val→Rel P c'→Ext c c'→c'.at_=upd c.at_ up→(∀ i,c'.U i ↔ c.U i∨i ∈ AB5 up id)→next (a.put o.dst val) c'.w):o.wpIn (fence c rd0) n P a c.w next Q:=by
 refine ⟨AU1 c rd0 o _ _,?_⟩
 rw [Oper.semAt_eq _ _ _ (BG5 hc)]
 have plain:G7 (ax G fr) at0 id ao=some (v,up,rd)→o.uponIn (fence c rd0) n P a next Q ((execOp a.eval o).run P c.w):=fun hv=>by
  rw [← BN8 hs] at hv
  exact Ak5 (snd hF hG hR hid hc (BN7 hv ha)) fun c' val=>hk val c'
 cases ao with
 | call f xs =>
  obtain ⟨g,fs,cs,avs,hf,hxs,hfn,hcall⟩:=h1
  obtain ⟨cl,fo,hop,hcal,hfo,hargs⟩:=BW3 hc
  rw [← U5 fun n hn=>hs n (by simp [AOp.slots,hn])] at hf
  rw [← AJ1 fun n hn=>hs n (by simp [AOp.slots,hn])] at hxs
  obtain ⟨vf,vc,hu,k1,k2⟩:=AS6.1 (J9 hF hG hfo hf)
  have hrun:(execOp a.eval o).run P c.w = .ok (.enter g (vf++cl.args.map a.eval++vc)) c.w:=by
   rw [← AE1 (vf:=vf) (vc:=vc) (vs:=cl.args.map a.eval) hfn c.w]
   simp [execOp,hop,resolve,hcal,hu]
  rw [hrun]
  refine BB3 (R:=fun val w'=>∃ c',c'.w=w'∧RR c' v val∧Rel P c'∧Ext c c'∧c'.at_=upd c.at_ up∧∀ i,c'.U i ↔ c.U i∨i ∈ AB5 up id) ?_ ?_
  ·refine (hcall c _ hR hG hid ha (AA8 (AA8 k1 (Au1 hF hG rfl hargs hxs)) k2)).mono ?_
   rintro e w' ⟨val,c',rfl,h2,h3⟩
   exact ⟨val,rfl,c',h2,h3⟩
  ·rintro val w' ⟨c',rfl,h2,h3,h4,h5,h6⟩
   exact hk val c' h2 h3 h4 h5 h6
 | _=>exact plain h1
end
def Hp.appD (h:Hp) (up:Up):Hp:={ l:=puts h.l up,next:=h.next+1 }
def AOp.isCall:AOp→Bool
 | .call _ _=>true
 | .eqn _ _=>true
 | _=>false
def gslot (o:L6):List Nat:=match o.guard with
 | some (t,_)=>[t]
 | none=>[]
def AP5 (o:L6) (ran:Bool) (up:Up) (rd:List Nat):Ent:={ sr:=gslot o++(if ran then o.op.slots else []),sw:=o.dst.toList,rd,wr:=up.map (·.1) }
def AH1 (o:L6) (fr:List AV) (A B:Prop):Prop:=match o.guard with
 | none=>A
 | some (t,b)=>∃ p,(fr[t]?).bind gval=some p∧(p=some b→A)∧(p ≠ some b→B)
def Ag1 (P:Program) (G:Gl) (anc:List (List Nat)) (n:Nat):List L6→Nat→Nat→List Ent→(List AV→Hp→Prop)→List AV→Hp→Prop
 | [],_,b,log,Q,fr,h=>chk anc b log=true∧Q fr h
 | o::os,k,b,log,Q,fr,h =>
  if o.op.isCall && pivot anc n k then
   chk anc b log=true∧AH1 o fr (Ac5 P G o.op fr h fun v h'=>Ag1 P G anc n os (k+1) (k+1) [] Q (AD4 fr o.dst v) h') (Ag1 P G anc n os (k+1) (k+1) [] Q (AD4 fr o.dst (.tup [])) h)
  else AH1 o fr (∃ v up rd,StepD P G o.op fr (lk h.l) h.next v up rd∧Ag1 P G anc n os (k+1) b (log++[AP5 o true up rd]) Q (AD4 fr o.dst v) (h.appD up))
   (Ag1 P G anc n os (k+1) b (log++[AP5 o false [] []]) Q (AD4 fr o.dst (.tup [])) (h.appD []))
structure Rec where
 o:L6
 ran:Bool
 v:AV
 up:Up
 rd:List Nat
def Rec.ent (r:Rec):Ent:=AP5 r.o r.ran r.up r.rd
def BD1 (o:L6) (fr:List AV) (ran:Bool):Prop:=match o.guard with
 | none=>ran=true
 | some (t,b)=>∃ p,(fr[t]?).bind gval=some p∧ran=(p == some b)
def RecOk (P:Program) (G:Gl) (r:Rec) (fr:List AV) (h:Hp):Prop :=
 BD1 r.o fr r.ran∧(r.ran=true→StepD P G r.o.op fr (lk h.l) h.next r.v r.up r.rd)∧(r.ran=false→r.v = .tup []∧r.up=[]∧r.rd=[])
def TrOk (P:Program) (G:Gl):List Rec→List AV→Hp→Prop
 | [],_,_=>True
 | r::rs,fr,h=>RecOk P G r fr h∧TrOk P G rs (AD4 fr r.o.dst r.v) (h.appD r.up)
def finF:List Rec→List AV→List AV
 | [],fr=>fr
 | r::rs,fr=>finF rs (AD4 fr r.o.dst r.v)
def finH:List Rec→Hp→Hp
 | [],h=>h
 | r::rs,h=>finH rs (h.appD r.up)
def Tail (P:Program) (G:Gl) (anc:List (List Nat)) (n k:Nat) (Q:List AV→Hp→Prop) (fr:List AV) (h:Hp):List L6→Prop
 | []=>Q fr h
 | o::os=>pivot anc n k=true∧AH1 o fr (Ac5 P G o.op fr h fun v h'=>Ag1 P G anc n os (k+1) (k+1) [] Q (AD4 fr o.dst v) h') (Ag1 P G anc n os (k+1) (k+1) [] Q (AD4 fr o.dst (.tup [])) h)
theorem Ac8 {P:Program} {G:Gl} {anc:List (List Nat)} {n:Nat} {Q:List AV→Hp→Prop}:∀ (os:List L6) (k b:Nat) (log:List Ent) (fr:List AV) (h:Hp),Ag1 P G anc n os k b log Q fr h →
  ∃ (L:List Rec) (os2:List L6),os=L.map (·.o)++os2∧TrOk P G L fr h∧chk anc b (log++L.map Rec.ent)=true∧Tail P G anc n (k+L.length) Q (finF L fr) (finH L h) os2
 | [],k,b,log,fr,h,hr=>⟨[],[],rfl,trivial,by simpa using hr.1,hr.2⟩
 | o::os,k,b,log,fr,h,hr=>by
  simp only [Ag1] at hr
  split at hr
  ·rename_i hp
   simp only [Bool.and_eq_true] at hp
   exact ⟨[],o::os,rfl,trivial,by simpa using hr.1,hp.2,hr.2⟩
  ·have go:∀ (ran:Bool) (v:AV) (up:Up) (rd:List Nat),RecOk P G ⟨o,ran,v,up,rd⟩ fr h→Ag1 P G anc n os (k+1) b (log++[AP5 o ran up rd]) Q (AD4 fr o.dst v) (h.appD up)→∃ (L:List Rec) (os2:List L6),o::os=L.map (·.o)++os2∧TrOk P G L fr h∧chk anc b (log++L.map Rec.ent)=true∧Tail P G anc n (k+L.length) Q (finF L fr) (finH L h) os2:=fun ran v up rd hok hrest=>by
    obtain ⟨L,os2,h1,h2,h3,h4⟩:=Ac8 os (k+1) b _ _ _ hrest
    refine ⟨⟨o,ran,v,up,rd⟩::L,os2,by simp [h1],⟨hok,h2⟩,?_,?_⟩
    ·rw [List.map_cons,show Rec.ent ⟨o,ran,v,up,rd⟩=AP5 o ran up rd from rfl];simpa using h3
    ·rw [List.length_cons,show k+(L.length+1)=k+1+L.length by omega];exact h4
   unfold AH1 at hr
   split at hr
   ·rename_i hg
    obtain ⟨v,up,rd,h1,h2⟩:=hr
    exact go true v up rd ⟨by unfold BD1;rw [hg],fun _=>h1,fun h=>(by cases h)⟩ h2
   ·rename_i t bb hg
    obtain ⟨p,hp,h1,h2⟩:=hr
    by_cases e:p=some bb
    ·obtain ⟨v,up,rd,h3,h4⟩:=h1 e
     exact go true v up rd ⟨by unfold BD1;rw [hg];exact ⟨p,hp,by simp [e]⟩,fun _=>h3,fun h=>(by cases h)⟩ h4
    ·exact go false (.tup []) [] [] ⟨by unfold BD1;rw [hg];exact ⟨p,hp,by simp [e]⟩,fun h=>(by cases h),fun _=>⟨rfl,rfl,rfl⟩⟩ (h2 e)
def apF:List Rec→(Nat→Bool)→Nat→List AV→List AV
 | [],_,_,fr=>fr
 | r::rs,S,k,fr=>apF rs S (k+1) (if S k then AD4 fr r.o.dst r.v else fr)
def apH:List Rec→(Nat→Bool)→Nat→At→At
 | [],_,_,at_=>at_
 | r::rs,S,k,at_=>apH rs S (k+1) (if S k then upd at_ r.up else at_)
theorem BJ7 (fr:List AV) (d:Option Nat) (v:AV):(AD4 fr d v).length=fr.length:=by cases d<;>simp [AD4]
theorem setO_ne {fr:List AV} {d:Option Nat} {v:AV} {n:Nat} (h:n ∉ d.toList):(AD4 fr d v)[n]? = fr[n]?:=by
 cases d with
 | none=>rfl
 | some d=>simp only [AD4];rw [List.getElem?_set_ne (fun e=>h (by simp [e]))]
theorem setO_same {fr fr':List AV} {d:Option Nat} {v:AV} {n:Nat} (hl:fr'.length=fr.length) (h:fr'[n]? = fr[n]?):(AD4 fr' d v)[n]? = (AD4 fr d v)[n]?:=by
 cases d with
 | none=>exact h
 | some d=>simp only [AD4,List.getElem?_set,hl,h]
theorem upd_ne {at_:At} {i:Nat}:∀ {up:Up},i ∉ up.map (·.1)→upd at_ up i=at_ i
 | [],_=>rfl
 | (j,o)::r,h=>by
  simp only [List.map_cons,List.mem_cons,not_or] at h
  simp only [upd,if_neg h.1];exact upd_ne h.2
theorem upd_same {at_ at':At} {i:Nat} (h:at' i=at_ i):∀ (up:Up),upd at' up i=upd at_ up i
 | []=>h
 | (j,o)::r=>by simp only [upd];rw [upd_same h r]
theorem BX4 {n:Nat}:∀ (L:List Rec) (S T:Nat→Bool) (k:Nat) (fr fr':List AV),fr'.length=fr.length→fr'[n]? = fr[n]? → (∀ (q:Nat) r,L[q]? = some r→n ∈ r.o.dst.toList→S (k+q)=T (k+q))→(apF L S k fr')[n]? = (apF L T k fr)[n]?
 | [],_,_,_,_,_,_,h,_=>h
 | r::L,S,T,k,fr,fr',hl,h,hS=>by
  simp only [apF]
  refine BX4 L S T (k+1) _ _ ?_ ?_ fun q r' hq hn=>by have:=hS (q+1) r' (by simpa using hq) hn;rw [show k+1+q=k+(q+1) by omega];exact this
  ·split<;>split<;>simp [BJ7,hl]
  ·by_cases hn:n ∈ r.o.dst.toList
   ·have:=hS 0 r rfl hn
    rw [Nat.add_zero] at this
    rw [this]
    split
    ·exact setO_same hl h
    ·exact h
   ·have e1:(if S k then AD4 fr' r.o.dst r.v else fr')[n]? = fr'[n]?:=by split<;>first|rfl|exact setO_ne hn
    have e2:(if T k then AD4 fr r.o.dst r.v else fr)[n]? = fr[n]?:=by split<;>first|rfl|exact setO_ne hn
    rw [e1,e2];exact h
theorem BX3 {i:Nat}:∀ (L:List Rec) (S T:Nat→Bool) (k:Nat) (at_ at':At),at' i=at_ i→(∀ (q:Nat) r,L[q]? = some r→i ∈ r.up.map (·.1)→S (k+q)=T (k+q))→apH L S k at' i=apH L T k at_ i
 | [],_,_,_,_,_,h,_=>h
 | r::L,S,T,k,at_,at',h,hS=>by
  simp only [apH]
  refine BX3 L S T (k+1) _ _ ?_ fun q r' hq hn=>by have:=hS (q+1) r' (by simpa using hq) hn;rw [show k+1+q=k+(q+1) by omega];exact this
  by_cases hn:i ∈ r.up.map (·.1)
  ·have:=hS 0 r rfl hn
   rw [Nat.add_zero] at this
   rw [this]
   split
   ·exact upd_same h _
   ·exact h
  ·have e1:(if S k then upd at' r.up else at') i=at' i:=by split<;>first|rfl|exact upd_ne hn
   have e2:(if T k then upd at_ r.up else at_) i=at_ i:=by split<;>first|rfl|exact upd_ne hn
   rw [e1,e2];exact h
end Go.Am
namespace Go.Am
def adj (S:Nat→Bool) (k:Nat):Nat→Bool:=fun i=>S i || i == k
theorem setO_comm {fr:List AV} {d e:Option Nat} {v u:AV} (h:∀ n ∈ d.toList,n ∉ e.toList):AD4 (AD4 fr d v) e u=AD4 (AD4 fr e u) d v:=by
 cases d with
 | none=>rfl
 | some d =>
  cases e with
  | none=>rfl
  | some e =>
   have : d ≠ e:=fun x=>h d (by simp) (by simp [x])
   simp only [AD4]
   rw [List.set_comm _ _ this]
theorem upd_comm {at_:At} {up1 up2:Up} (h:∀ i ∈ up1.map (·.1),i ∉ up2.map (·.1)):upd (upd at_ up1) up2=upd (upd at_ up2) up1:=by
 funext i
 by_cases h1:i ∈ up1.map (·.1)
 ·rw [upd_ne (h i h1)]
  exact upd_same (upd_ne (h i h1)).symm up1
 ·rw [upd_ne h1]
  exact upd_same (upd_ne h1) up2
theorem apF_put {d:Option Nat} {v:AV}:∀ (L:List Rec) (S:Nat→Bool) (k:Nat) (fr:List AV),(∀ (q:Nat) r,L[q]? = some r→S (k+q)=true→∀ n ∈ d.toList,n ∉ r.o.dst.toList)→apF L S k (AD4 fr d v)=AD4 (apF L S k fr) d v
 | [],_,_,_,_=>rfl
 | r::L,S,k,fr,h=>by
  simp only [apF]
  have ih:=fun fr=>apF_put (d:=d) (v:=v) L S (k+1) fr fun q r' hq hs=>h (q+1) r' (by simpa using hq) (by rw [show k+(q+1)=k+1+q by omega];exact hs)
  split
  ·rename_i hs
   rw [setO_comm (h 0 r rfl (by simpa using hs)),ih]
  ·rw [ih]
theorem apH_put {up:Up}:∀ (L:List Rec) (S:Nat→Bool) (k:Nat) (at_:At),(∀ (q:Nat) r,L[q]? = some r→S (k+q)=true→∀ i ∈ up.map (·.1),i ∉ r.up.map (·.1))→apH L S k (upd at_ up)=upd (apH L S k at_) up
 | [],_,_,_,_=>rfl
 | r::L,S,k,at_,h=>by
  simp only [apH]
  have ih:=fun at_=>apH_put (up:=up) L S (k+1) at_ fun q r' hq hs=>h (q+1) r' (by simpa using hq) (by rw [show k+(q+1)=k+1+q by omega];exact hs)
  split
  ·rename_i hs
   rw [upd_comm (h 0 r rfl (by simpa using hs)),ih]
  ·rw [ih]
theorem apF_adj {r:Rec}:∀ (L:List Rec) (S:Nat→Bool) (k q:Nat) (fr:List AV),L[q]? = some r→S (k+q)=false→(∀ (p:Nat) r',L[p]? = some r'→q < p→S (k+p)=true→∀ n ∈ r.o.dst.toList,n ∉ r'.o.dst.toList) →
  apF L (adj S (k+q)) k fr=AD4 (apF L S k fr) r.o.dst r.v
 | [],_,_,_,_,h,_,_=>by simp at h
 | r0::L,S,k,0,fr,hq,hS,h=>by
  simp at hq
  subst hq
  rw [Nat.add_zero] at hS
  simp only [apF,hS,Nat.add_zero,adj,beq_self_eq_true,Bool.or_true,if_true,Bool.false_eq_true,if_false]
  have hsame:∀ (L:List Rec) (k':Nat) (fr:List AV),k < k'→apF L (adj S k) k' fr=apF L S k' fr:=by
   intro L
   induction L with
   | nil=>intro k' fr _;rfl
   | cons r L ih =>
    intro k' fr hk
    simp only [apF]
    have : adj S k k'=S k':=by simp [adj];intro e;omega
    rw [this];exact ih _ _ (by omega)
  have e1:=hsame L (k+1) (AD4 fr r0.o.dst r0.v) (by omega)
  rw [e1]
  exact apF_put L S (k+1) fr fun p r' hp hs=>h (p+1) r' (by simpa using hp) (by omega) (by rw [show k+(p+1)=k+1+p by omega];exact hs)
 | r0::L,S,k,q+1,fr,hq,hS,h=>by
  simp only [apF]
  have hk:adj S (k+(q+1)) k=S k:=by simp [adj]
  rw [hk,show k+(q+1)=k+1+q by omega]
  exact apF_adj L S (k+1) q _ (by simpa using hq) (by rw [show k+1+q=k+(q+1) by omega];exact hS) fun p r' hp hlt hs=>h (p+1) r' (by simpa using hp) (by omega) (by rw [show k+(p+1)=k+1+p by omega];exact hs)
theorem apH_adj {r:Rec}:∀ (L:List Rec) (S:Nat→Bool) (k q:Nat) (at_:At),L[q]? = some r→S (k+q)=false→(∀ (p:Nat) r',L[p]? = some r'→q < p→S (k+p)=true→∀ i ∈ r.up.map (·.1),i ∉ r'.up.map (·.1)) →
  apH L (adj S (k+q)) k at_=upd (apH L S k at_) r.up
 | [],_,_,_,_,h,_,_=>by simp at h
 | r0::L,S,k,0,at_,hq,hS,h=>by
  simp at hq
  subst hq
  rw [Nat.add_zero] at hS
  simp only [apH,hS,Nat.add_zero,adj,beq_self_eq_true,Bool.or_true,if_true,Bool.false_eq_true,if_false]
  have hsame:∀ (L:List Rec) (k':Nat) (at_:At),k < k'→apH L (adj S k) k' at_=apH L S k' at_:=by
   intro L
   induction L with
   | nil=>intro k' at_ _;rfl
   | cons r L ih =>
    intro k' at_ hk
    simp only [apH]
    have : adj S k k'=S k':=by simp [adj];intro e;omega
    rw [this];exact ih _ _ (by omega)
  have e1:=hsame L (k+1) (upd at_ r0.up) (by omega)
  rw [e1]
  exact apH_put L S (k+1) at_ fun p r' hp hs=>h (p+1) r' (by simpa using hp) (by omega) (by rw [show k+(p+1)=k+1+p by omega];exact hs)
 | r0::L,S,k,q+1,at_,hq,hS,h=>by
  simp only [apH]
  have hk:adj S (k+(q+1)) k=S k:=by simp [adj]
  rw [hk,show k+(q+1)=k+1+q by omega]
  exact apH_adj L S (k+1) q _ (by simpa using hq) (by rw [show k+1+q=k+(q+1) by omega];exact hS) fun p r' hp hlt hs=>h (p+1) r' (by simpa using hp) (by omega) (by rw [show k+(p+1)=k+1+p by omega];exact hs)
theorem tr_at {P:Program} {G:Gl}:∀ (L:List Rec) (fr:List AV) (h:Hp) (k q:Nat) (r:Rec),TrOk P G L fr h→L[q]? = some r→∃ fr' h',RecOk P G r fr' h'∧fr'=apF L (fun i=>decide (i < k+q)) k fr∧lk h'.l=apH L (fun i=>decide (i < k+q)) k (lk h.l)∧h'.next=h.next+q
 | [],_,_,_,_,_,_,h=>by simp at h
 | r0::L,fr,h,k,0,r,ht,hq=>by
  simp at hq
  subst hq
  have nF:∀ (L:List Rec) (k':Nat) (fr:List AV),k≤k'→apF L (fun i=>decide (i < k+0)) k' fr=fr:=by
   intro L
   induction L with
   | nil=>intro k' fr _;rfl
   | cons r L ih=>intro k' fr hk;simp only [apF];rw [if_neg (by simp;omega)];exact ih _ _ (by omega)
  have nH:∀ (L:List Rec) (k':Nat) (at_:At),k≤k'→apH L (fun i=>decide (i < k+0)) k' at_=at_:=by
   intro L
   induction L with
   | nil=>intro k' fr _;rfl
   | cons r L ih=>intro k' fr hk;simp only [apH];rw [if_neg (by simp;omega)];exact ih _ _ (by omega)
  exact ⟨fr,h,ht.1,(nF _ k fr (Nat.le_refl _)).symm,(nH _ k _ (Nat.le_refl _)).symm,rfl⟩
 | r0::L,fr,h,k,q+1,r,ht,hq=>by
  obtain ⟨fr',h',h1,h2,h3,h4⟩:=tr_at L _ _ (k+1) q r ht.2 (by simpa using hq)
  refine ⟨fr',h',h1,?_,?_,by rw [h4];simp [Hp.appD];omega⟩
  ·simp only [apF]
   rw [if_pos (by simp),show k+(q+1)=k+1+q by omega];exact h2
  ·simp only [apH]
   rw [if_pos (by simp),show k+(q+1)=k+1+q by omega,h3]
   simp only [Hp.appD,AO2]
theorem fin_all:∀ (L:List Rec) (fr:List AV) (h:Hp) (k:Nat) (S:Nat→Bool),(∀ q,q < L.length→S (k+q)=true)→finF L fr=apF L S k fr∧lk (finH L h).l=apH L S k (lk h.l)∧(finH L h).next=h.next+L.length
 | [],_,_,_,_,_=>⟨rfl,rfl,rfl⟩
 | r::L,fr,h,k,S,hS=>by
  obtain ⟨h1,h2,h3⟩:=fin_all L (AD4 fr r.o.dst r.v) (h.appD r.up) (k+1) S fun q hq=>by rw [show k+1+q=k+(q+1) by omega];exact hS (q+1) (by simp;omega)
  have h0:S k=true:=hS 0 (by simp)
  refine ⟨?_,?_,?_⟩
  ·simp only [finF,apF,h0,if_true];exact h1
  ·simp only [finH,apH,h0,if_true];rw [h2];simp only [Hp.appD,AO2]
  ·simp only [finH];rw [h3];simp [Hp.appD];omega
end Go.Am
namespace Go.Am
def Cx.grow (c:Cx) (k:Nat):Cx:={ c with U:=fun i=>c.U i∨i=k }
theorem Ax3 {c:Cx} (k:Nat):Ext c (c.grow k):=⟨fun _ h=>.inl h,fun _ _=>rfl,fun _ _=>rfl,fun _ h=>⟨⟨h.1,h.2,h.3⟩,rfl⟩,Nat.le_refl _,fun _=>Iff.rfl,fun _ _=>rfl,rfl,rfl,rfl⟩
theorem rel_grow {P:Program} {c:Cx} (k:Nat) (h:Rel P c):Rel P (c.grow k) :=
 ⟨fun i o hi => .inl (h.used i o hi), h.inj, fun i o hi => (h.obj i o hi).ext (Ax3 k) rfl, let ⟨N, hN⟩ := h.many; ⟨max N (k + 1), fun i hi => by
  rcases hi with hi|hi
  ·have:=hN i hi;omega
  ·omega⟩,h.nohid,h.hidlt⟩
def BE0:List (List Nat)→Nat→Bool
 | [],_=>true
 | ps::r,k=>ps.all (fun p=>decide (p < k)) && BE0 r (k+1)
theorem As4:∀ {l:List (List Nat)} {k:Nat},BE0 l k=true→∀ (j:Nat) ps,l[j]? = some ps→∀ p ∈ ps,p < k+j
 | [],_,_,j,ps,h=>by simp at h
 | q::l,k,h,j,ps,hj=>by
  simp only [BE0,Bool.and_eq_true,List.all_eq_true,decide_eq_true_eq] at h
  cases j with
  | zero=>simp at hj;subst hj;exact h.1
  | succ j=>rw [show k+(j+1)=k+1+j by omega];exact As4 h.2 j ps (by simpa using hj)
theorem Az5:∀ (L:List Rec) (S:Nat→Bool) (k:Nat) (fr:List AV),(∀ i,k≤i→S i=false)→apF L S k fr=fr
 | [],_,_,_,_=>rfl
 | r::L,S,k,fr,h=>by simp only [apF,h k (Nat.le_refl _),Bool.false_eq_true,if_false];exact Az5 L S (k+1) fr fun i hi=>h i (by omega)
theorem Az4:∀ (L:List Rec) (S:Nat→Bool) (k:Nat) (at_:At),(∀ i,k≤i→S i=false)→apH L S k at_=at_
 | [],_,_,_,_=>rfl
 | r::L,S,k,at_,h=>by simp only [apH,h k (Nat.le_refl _),Bool.false_eq_true,if_false];exact Az4 L S (k+1) at_ fun i hi=>h i (by omega)
theorem ancs_lt {pre:List (List Nat)} {j i:Nat} (h:i ∈ (ancs pre).getD j []):i < j:=by
 obtain ⟨_,_,h2,_⟩:=Ap9 pre [] j i (Nat.zero_le _) h;exact h2
theorem As0 {anc:List (List Nat)} {n k i:Nat} (h:pivot anc n k=true) (hi:i < n) (hne:i ≠ k):i ∈ anc.getD k []∨k ∈ anc.getD i []:=by
 simp only [pivot,List.all_eq_true,List.mem_range,Bool.or_eq_true,beq_iff_eq,List.contains_eq_mem,decide_eq_true_eq] at h
 rcases h i hi with (h|h)|h
 ·exact absurd h hne
 ·exact .inl h
 ·exact .inr h
theorem Y0 {listed:Array Bool} {i:Nat} (hi:i < listed.size) (j:Nat):(listed.setIfInBounds i true).getD j false=(listed.getD j false || j == i):=by
 by_cases e:j=i
 ·subst e;simp [hi]
 ·rw [getD_set_ne false (Ne.symm e)];simp [e]
def AR3 (listed:Array Bool):Nat:=listed.toList.count true
theorem BM2 {listed:Array Bool} {i:Nat} (hi:i < listed.size) (h:listed.getD i false=false):AR3 (listed.setIfInBounds i true)=AR3 listed+1:=by
 unfold AR3
 rw [Array.toList_setIfInBounds,List.count_set (by simpa using hi)]
 have : listed.toList[i]'(by simpa using hi)=false:=by simpa [hi] using h
 simp [this]
theorem BM3 {listed:Array Bool} (h:AR3 listed=listed.size) (i:Nat) (hi:i < listed.size):listed.getD i false=true:=by
 unfold AR3 at h
 have h2:∀ b ∈ listed.toList,true=b:=List.count_eq_length.1 (by simpa using h)
 have:=h2 listed[i] (by simp)
 simp [hi,← this]
section
variable {P:Program} {G:Gl} {B:Nat} {ops:Array Oper} {aops:List L6} {n':Nat} {rd:Option Nat} {Q:Exit→List AV→Hp→Prop} {c0:Cx}
structure Inv (P:Program) (G:Gl) (B:Nat) (ops:Array Oper) (aops:List L6) (rd:Option Nat) (Q:List AV→Hp→Prop) (c0:Cx) (listed:Array Bool) (b:Nat) (L:List Rec) (os2:List L6) (fr0:List AV) (h0:Hp) (c:Cx) (a:Act):Prop where
 size:listed.size=ops.size
 closed:Closed ops listed
 below:∀ i,i < b→i < ops.size→listed.getD i false=true
 above:∀ i,b+L.length≤i→listed.getD i false=false
 split:∃ A1:List L6,A1.length=b∧aops=A1++(L.map (·.o)++os2)
 tr:TrOk P G L fr0 h0
 chk:chk (ancs (ops.toList.map AJ6)) b (L.map Rec.ent)=true
 tail:Tail P G (ancs (ops.toList.map AJ6)) ops.size (b+L.length) Q (finF L fr0) (finH L h0) os2
 rel:Rel P c
 glo:AV2 G c
 at_:c.at_=apH L (fun i=>listed.getD i false) b (lk h0.l)
 U:∀ i,c.U i ↔ i < h0.next∨∃ q,q < L.length∧listed.getD (b+q) false=true∧i=h0.next+q
 fr:FR c (apF L (fun i=>listed.getD i false) b fr0) a.tmps
 df:DF B c a.defers
 old:B≤c.w.heap.size
 ext:Ext c0 c
 fen:fence c rd=fence c0 rd
 rdU:∀ l,rd=some l→c.U l
theorem Inv.full {listed:Array Bool} {b:Nat} {L:List Rec} {os2:List L6} {fr0:List AV} {h0:Hp} {c:Cx} {a:Act} {Q:List AV→Hp→Prop} (I:Inv P G B ops aops rd Q c0 listed b L os2 fr0 h0 c a) (hall:∀ q,q < L.length→listed.getD (b+q) false=true):St P G B c (finF L fr0) (finH L h0) a:=by
 obtain ⟨h1,h2,h3⟩:=fin_all L fr0 h0 b (fun i=>listed.getD i false) hall
 refine ⟨I.rel,I.glo,⟨by rw [I.at_,h2],fun i=>?_⟩,by rw [h1];exact I.fr,I.df,I.old⟩
 rw [I.U,h3]
 constructor
 ·rintro (h | ⟨q,hq,_,rfl⟩)<;>omega
 ·intro h
  rcases Nat.lt_or_ge i h0.next with h4|h4
  ·exact .inl h4
  ·exact .inr ⟨i - h0.next,by omega,hall _ (by omega),by omega⟩
theorem closed_set {listed:Array Bool} {i:Nat} {o:Oper} (hi:i < listed.size) (hc:Closed ops listed) (ho:ops[i]? = some o) (hp:∀ p ∈ AJ6 o,listed.getD p false=true):Closed ops (listed.setIfInBounds i true):=fun j oj hj hl p hpj=>by
 rw [Y0 hi] at hl ⊢
 simp only [Bool.or_eq_true,beq_iff_eq] at hl
 rcases hl with hl|rfl
 ·rw [hc j oj hj hl p hpj];rfl
 ·rw [ho] at hj;cases hj;rw [hp p hpj];rfl
theorem AR8 {c c':Cx} (e:Ext c c') (hU:∀ l,rd=some l→c.U l):fence c' rd=fence c rd:=by
 cases rd with
 | none=>rfl
 | some l=>simp only [fence];rw [e.mu l (hU l rfl)]
theorem BE9 {o:L6} {fr:List AV} {A B:Prop} (h:AH1 o fr A B):(∃ ran,BD1 o fr ran∧(ran=true→A)∧(ran=false→B)):=by
 unfold AH1 at h
 unfold BD1
 split at h
 ·rename_i hg;exact ⟨true,rfl,fun _=>h,fun h=>(by cases h)⟩
 ·rename_i t b hg
  obtain ⟨p,hp,h1,h2⟩:=h
  exact ⟨p == some b,⟨p,hp,rfl⟩,fun h=>h1 (by simpa using h),fun h=>h2 (by simpa using h)⟩
theorem Ar1 {o:Oper} {ao:L6} {c:Cx} {fr fr':List AV} {a:Act} {ran:Bool} (hao:Aq7 P ops o=some ao) (hF:FR c fr' a.tmps) (hs:∀ n ∈ gslot ao,fr'[n]? = fr[n]?) (hr:BD1 ao fr ran):Region.wanted o (yielded ops a.tmps)=ran:=by
 obtain ⟨_,_,hg⟩:=AT9 hao
 unfold BD1 at hr
 rcases hg with ⟨hg1,hg2⟩ | ⟨j,b,t,hg1,hg2,hj⟩
 ·rw [hg2] at hr;rw [hr];exact AV8 hg1
 ·rw [hg2] at hr
  obtain ⟨p,hp,rfl⟩:=hr
  exact Ak1 hg1 hj hF (by rw [hs t (by simp [gslot,hg2])];exact hp)
theorem draw_inv (haops:BO7 P ops=some aops) (hord:BE0 (ops.toList.map AJ6) 0=true):∀ (fuel:Nat) (listed:Array Bool) (b:Nat) (L:List Rec) (os2:List L6) (fr0:List AV) (h0:Hp) (c:Cx) (a:Act),Inv P G B ops aops rd (Q .normal) c0 listed b L os2 fr0 h0 c a→AR3 listed+fuel=ops.size →
  wpAnyIn (fence c0 rd) n' P .any ops (Post P G B c0 Q) fuel listed a c.w:=by
 have hm:=mapM_some haops
 have hlenA:aops.length=ops.size:=by simpa using hm.1
 have hat:∀ (j:Nat) y,aops[j]? = some y→∃ o,ops[j]? = some o∧Aq7 P ops o=some y:=fun j y hy=>by
  obtain ⟨x,hx,hxy⟩:=hm.2 j y hy
  exact ⟨x,by simpa using hx,hxy⟩
 -- all has been done
 have done:∀ (listed:Array Bool) (b:Nat) (L:List Rec) (os2:List L6) (fr0:List AV) (h0:Hp) (c:Cx) (a:Act),Inv P G B ops aops rd (Q .normal) c0 listed b L os2 fr0 h0 c a→(∀ i,i < ops.size→listed.getD i false=true)→Post P G B c0 Q .normal a c.w:=fun listed b L os2 fr0 h0 c a I hall=>by
  obtain ⟨A1,hA1,hsp⟩:=I.split
  have hlen:b+L.length+os2.length=ops.size:=by rw [← hlenA,hsp];simp;omega
  cases os2 with
  | nil =>
   refine ⟨c,_,_,rfl,I.tail,I.full fun q hq=>hall _ (by simp at hlen;omega),I.ext⟩
  | cons o os2 =>
   simp at hlen
   have h1:=hall (b+L.length) (by omega)
   rw [I.above _ (Nat.le_refl _)] at h1
   cases h1
 -- nothing is ready: all has been done
 have none_ready:∀ (listed:Array Bool),listed.size=ops.size→Region.ready .any ops listed=[]→∀ i,i < ops.size→listed.getD i false=true:=fun listed hsz hr=>by
  intro i
  induction i using Nat.strongRecOn with
  | _ i ih =>
   intro hi
   cases hl:listed.getD i false with
   | true=>rfl
   | false =>
    exfalso
    have : i ∈ Region.ready .any ops listed:=mem_ready.2 ⟨by simp [hsz,hi] at hl ⊢;exact hl,ops[i],by simp [hi],fun e he hb=>by
     have hp:=mem_preds he hb
     have hlt:=As4 hord i (AJ6 ops[i]) (by simp [hi]) _ hp
     exact ih e.on (by omega) (by omega)⟩
    rw [hr] at this;cases this
 intro fuel
 induction fuel with
 | zero =>
  intro listed b L os2 fr0 h0 c a I hcount
  have hall:∀ i,i < ops.size→listed.getD i false=true:=fun i hi=>BM3 (by rw [I.size];omega) i (by rw [I.size];exact hi)
  refine ⟨?_,done listed b L os2 fr0 h0 c a I hall⟩
  cases hr:Region.ready .any ops listed with
  | nil=>rfl
  | cons i r =>
   exfalso
   have hmem:i ∈ Region.ready .any ops listed:=by rw [hr];simp
   obtain ⟨h1,o,ho,_⟩:=mem_ready.1 hmem
   have hi:i < ops.size:=(Array.getElem?_eq_some_iff.1 ho).1
   have:=hall i hi
   simp [I.size,hi] at h1 this
   rw [this] at h1;cases h1
 | succ fuel ih =>
  intro listed b L os2 fr0 h0 c a I hcount
  refine ⟨fun hr=>done listed b L os2 fr0 h0 c a I (none_ready listed I.size hr),fun i hi=>?_⟩
  obtain ⟨hun,o,ho,hpre⟩:=mem_ready.1 hi
  have hilt:i < ops.size:=(Array.getElem?_eq_some_iff.1 ho).1
  have hil:i < listed.size:=by rw [I.size];exact hilt
  have hun':listed.getD i false=false:=by simp [hil] at hun ⊢;exact hun
  have hpre':∀ p ∈ AJ6 o,listed.getD p false=true:=fun p hp=>by
   obtain ⟨e,he,hb,rfl⟩:=preds_mem hp;exact hpre e he hb
  have hcount':AR3 (listed.setIfInBounds i true)+fuel=ops.size:=by rw [BM2 hil hun'];omega
  have hclosed:=closed_set hil I.closed ho hpre'
  have hanc:∀ p,p ∈ (ancs (ops.toList.map AJ6)).getD i []→listed.getD p false=true:=fun p hp=>Au2 I.closed i p hp fun o' ho'=>by rw [ho] at ho';cases ho';exact hpre'
  have hanc':∀ j,listed.getD j false=true→i ∉ (ancs (ops.toList.map AJ6)).getD j []:=fun j hj hij=>by
   have:=Au2 I.closed j i hij fun o' ho'=>I.closed j o' ho' hj
   rw [hun'] at this;cases this
  obtain ⟨A1,hA1,hsp⟩:=I.split
  have hlen:b+L.length+os2.length=ops.size:=by rw [← hlenA,hsp];simp;omega
  have hbi:b≤i:=by
   rcases Nat.lt_or_ge i b with h|h
   ·rw [I.below i h hilt] at hun';cases hun'
   ·exact h
  unfold wpOpIn
  simp only [ho]
  rcases Nat.lt_or_ge i (b+L.length) with hin|hout
  ·-- an operation of this stretch
   obtain ⟨q,rfl⟩:∃ q,i=b+q:=⟨i - b,by omega⟩
   have hq:q < L.length:=by omega
   obtain ⟨r,hr⟩:∃ r,L[q]? = some r:=⟨L[q],List.getElem?_eq_getElem hq⟩
   obtain ⟨fr',h',⟨hran,hstep,hskip⟩,hfr',hh',hnext⟩:=tr_at L fr0 h0 b q r I.tr hr
   have hao:Aq7 P ops o=some r.o:=by
    have h1:aops[b+q]? = some r.o:=by
     rw [hsp,List.getElem?_append_right (by omega),hA1,show b+q - b=q by omega,List.getElem?_append_left (by simp;exact hq)]
     simp [hr]
    obtain ⟨o',ho',hco⟩:=hat _ _ h1
    rw [ho] at ho';cases ho';exact hco
   obtain ⟨hc,hd,_⟩:=AT9 hao
   have hent:(L.map Rec.ent)[q]? = some r.ent:=by simp [hr]
   -- those that were done before it,and those that were not
   have order:∀ (p:Nat) r',L[p]? = some r'→(clash r'.ent r.ent=true∨clash r.ent r'.ent=true)→(p < q→clash r'.ent r.ent=true)→(q < p→clash r.ent r'.ent=true)→p ≠ q→listed.getD (b+p) false=decide (b+p < b+q):=fun p r' hp _ h1 h2 hne=>by
    have hp':(L.map Rec.ent)[p]? = some r'.ent:=by simp [hp]
    rcases Nat.lt_or_ge p q with hlt|hge
    ·rcases Aj4 I.chk p q _ _ hlt hp' hent with h3|h3
     ·rw [hanc _ h3];simp;omega
     ·rw [h1 hlt] at h3;cases h3
    ·have hlt:q < p:=by omega
     rcases Aj4 I.chk q p _ _ hlt hent hp' with h3|h3
     ·cases hl:listed.getD (b+p) false with
      | true=>exact absurd h3 (hanc' _ hl)
      | false=>simp;omega
     ·rw [h2 hlt] at h3;cases h3
   have meetsT:∀ {x y:List Nat} {n:Nat},n ∈ x→n ∈ y→meets x y=true:=fun {x y n} h1 h2=>by simp only [meets,List.any_eq_true,List.contains_eq_mem,decide_eq_true_eq];exact ⟨n,h1,h2⟩
   have slotsOk:∀ n ∈ r.ent.sr,(apF L (fun i=>listed.getD i false) b fr0)[n]? = fr'[n]?:=fun n hn=>by
    rw [hfr']
    refine BX4 L _ _ b fr0 fr0 rfl rfl fun p r' hp hnd=>?_
    by_cases e:p=q
    ·subst e;rw [hun'];simp
    ·have hw:n ∈ r'.ent.sw:=hnd
     refine order p r' hp (.inl ?_) (fun _=>?_) (fun _=>?_) e
     ·simp only [clash,meetsT hw hn,Bool.true_or]
     ·simp only [clash,meetsT hw hn,Bool.true_or]
     ·simp only [clash,meetsT hw hn,Bool.or_true,Bool.true_or]
   have atOk:∀ k ∈ r.rd,c.at_ k=lk h'.l k:=fun k hk=>by
    rw [I.at_,hh']
    refine BX3 L _ _ b _ _ rfl fun p r' hp hnd=>?_
    by_cases e:p=q
    ·subst e;rw [hun'];simp
    ·have hw:k ∈ r'.ent.wr:=hnd
     have hk':k ∈ r.ent.rd:=hk
     refine order p r' hp (.inl ?_) (fun _=>?_) (fun _=>?_) e
     ·simp only [clash,meetsT hw hk',Bool.true_or,Bool.or_true]
     ·simp only [clash,meetsT hw hk',Bool.true_or,Bool.or_true]
     ·simp only [clash,meetsT hw hk',Bool.or_true]
   have hfresh:¬ c.U h'.next:=by
    rw [I.U,hnext]
    rintro (h | ⟨q',hq',hl,he⟩)
    ·omega
    ·obtain rfl:q'=q:=by omega
     rw [hun'] at hl;cases hl
   have later:∀ (p:Nat) r',L[p]? = some r'→q < p→listed.getD (b+p) false=true→clash r.ent r'.ent=false:=fun p r' hp hlt hl=>by
    have hp':(L.map Rec.ent)[p]? = some r'.ent:=by simp [hp]
    rcases Aj4 I.chk q p _ _ hlt hent hp' with h3|h3
    ·exact absurd h3 (hanc' _ hl)
    ·exact h3
   have nextInv:∀ (c':Cx) (a':Act) (val:Value),RR c' r.v val→Rel P c'→Ext c c'→c'.at_=upd c.at_ r.up→(∀ i,c'.U i ↔ c.U i∨i ∈ AB5 r.up h'.next)→a'.tmps=(a.put o.dst val).tmps→a'.defers=a.defers →
     wpAnyIn (fence c0 rd) n' P .any ops (Post P G B c0 Q) fuel (listed.setIfInBounds (b+q) true) a' c'.w:=fun c' a' val hx hR' he hat' hU' ht hdf=>by
    have e2:Ext c (c'.grow h'.next):=he.trans (Ax3 _)
    have hS:∀ j,(listed.setIfInBounds (b+q) true).getD j false=adj (fun i=>listed.getD i false) (b+q) j:=fun j=>Y0 hil j
    have:=ih (listed.setIfInBounds (b+q) true) b L os2 fr0 h0 (c'.grow h'.next) a' ?_ hcount'
    ·exact this
    ·refine ⟨by simpa using I.size,hclosed,fun j hj hjn=>by rw [Y0 hil,I.below j hj hjn];rfl,fun j hj=>?_,⟨A1,hA1,hsp⟩,I.tr,I.chk,I.tail,rel_grow _ hR',I.glo.ext e2,?_,fun j=>?_,?_,by rw [hdf];exact I.df.ext e2,Nat.le_trans I.old e2.size,I.ext.trans e2,?_,fun l hl=>e2.used l (I.rdU l hl)⟩
     ·rw [Y0 hil,I.above j hj];simp;omega
     ·show c'.at_=_
      rw [hat',I.at_,show (fun i=>(listed.setIfInBounds (b+q) true).getD i false)=adj (fun i=>listed.getD i false) (b+q) from funext hS]
      exact (apH_adj L _ b q _ hr hun' fun p r' hp hlt hl k hk hk'=>by
       have h3:=later p r' hp hlt hl
       simp only [clash,Bool.or_eq_false_iff] at h3
       exact Am5 h3.1.2 hk hk').symm
     ·show (c'.U j∨j=h'.next) ↔ _
      rw [hU',I.U]
      constructor
      ·rintro ((h|h)|h)
       ·rcases h with h | ⟨q',hq',hl,rfl⟩
        ·exact .inl h
        ·exact .inr ⟨q',hq',by rw [Y0 hil,hl];rfl,rfl⟩
       ·unfold AB5 at h
        split at h
        ·simp at h;exact .inr ⟨q,hq,by rw [Y0 hil];simp,by omega⟩
        ·simp at h
       ·exact .inr ⟨q,hq,by rw [Y0 hil];simp,by omega⟩
      ·rintro (h | ⟨q',hq',hl,rfl⟩)
       ·exact .inl (.inl (.inl h))
       ·rw [Y0 hil] at hl
        simp only [Bool.or_eq_true,beq_iff_eq] at hl
        rcases hl with hl|hl
        ·exact .inl (.inl (.inr ⟨q',hq',hl,rfl⟩))
        ·exact .inr (by omega)
     ·rw [ht,show (fun i=>(listed.setIfInBounds (b+q) true).getD i false)=adj (fun i=>listed.getD i false) (b+q) from funext hS]
      rw [apF_adj L (fun i=>listed.getD i false) b q fr0 hr hun' fun p r' hp hlt hl n hn hn'=>by
       have h3:=later p r' hp hlt hl
       simp only [clash,Bool.or_eq_false_iff] at h3
       exact Am5 h3.1.1.1.1.2 hn hn']
      rw [← hd]
      exact (I.fr.ext e2).put r.o.dst (hx.ext (Ax3 _))
     ·rw [← I.fen]
      exact AR8 e2 I.rdU
   rw [Ar1 hao I.fr (fun n hn=>slotsOk n (by simp [Rec.ent,AP5,hn])) hran]
   cases hrb:r.ran with
   | true =>
    simp only [if_true]
    rw [← I.fen]
    refine BJ6 hc I.fr I.glo I.rel hfresh (fun n hn=>slotsOk n (by simp [Rec.ent,AP5,hrb,hn])) atOk (hstep hrb) fun val c' hx hR' he hat' hU'=>?_
    rw [I.fen]
    exact nextInv c' _ val hx hR' he hat' hU' rfl (put_defers _ _ _)
   | false =>
    simp only [Bool.false_eq_true,if_false]
    obtain ⟨hv,hup,hrd⟩:=hskip hrb
    refine ⟨by rw [← I.fen];exact AU1 c rd o _ _,?_⟩
    exact nextInv c _ undef (by rw [hv];exact BP4) I.rel (Ext.refl c) (by rw [hup];rfl) (fun i=>by rw [hup];simp [AB5]) rfl (put_defers _ _ _)
  ·cases os2 with
   | nil=>simp at hlen;omega
   | cons o2 os2 =>
    obtain ⟨hpiv,htail⟩:=I.tail
    simp at hlen
    by_cases hie:i=b+L.length
    ·-- the call that everything comes before,or behind
     subst hie
     have hall:∀ q,q < L.length→listed.getD (b+q) false=true:=fun q hq=>by
      rcases As0 hpiv (show b+q < ops.size by omega) (by omega) with h|h
      ·exact hanc _ h
      ·have:=ancs_lt h;omega
     have hst:=I.full hall
     have hao:Aq7 P ops o=some o2:=by
      have h1:aops[b+L.length]? = some o2:=by
       rw [hsp,List.getElem?_append_right (by omega),hA1,show b+L.length - b=L.length by omega,List.getElem?_append_right (by simp)]
       simp
      obtain ⟨o',ho',hco⟩:=hat _ _ h1
      rw [ho] at ho';cases ho';exact hco
     obtain ⟨hc,hd,_⟩:=AT9 hao
     have hbelow:∀ j,j < b+L.length+1→j < ops.size→(listed.setIfInBounds (b+L.length) true).getD j false=true:=fun j hj hjn=>by
      rw [Y0 hil]
      rcases Nat.lt_or_ge j b with h|h
      ·rw [I.below j h hjn];rfl
      ·rcases Nat.lt_or_ge j (b+L.length) with h2|h2
       ·have:=hall (j - b) (by omega)
        rw [show b+(j - b)=j by omega] at this
        rw [this];rfl
       ·have : j=b+L.length:=by omega
        simp [this]
     have habove:∀ j,b+L.length+1≤j→(listed.setIfInBounds (b+L.length) true).getD j false=false:=fun j hj=>by
      rw [Y0 hil,I.above j (by omega)];simp;omega
     have nextInv:∀ (c':Cx) (a':Act) (fr1:List AV) (h1:Hp),Ag1 P G (ancs (ops.toList.map AJ6)) ops.size os2 (b+L.length+1) (b+L.length+1) [] (Q .normal) fr1 h1→St P G B c' fr1 h1 a'→Ext c c' →
       wpAnyIn (fence c0 rd) n' P .any ops (Post P G B c0 Q) fuel (listed.setIfInBounds (b+L.length) true) a' c'.w:=fun c' a' fr1 h1 hrun hs' he=>by
      obtain ⟨L',os3,k1,k2,k3,k4⟩:=Ac8 os2 _ _ _ _ _ hrun
      refine ih (listed.setIfInBounds (b+L.length) true) (b+L.length+1) L' os3 fr1 h1 c' a' ?_ hcount'
      refine ⟨by simpa using I.size,hclosed,hbelow,fun j hj=>habove j (by omega),⟨A1++(L.map (·.o)++[o2]),by simp [hA1];omega,by rw [hsp,k1];simp⟩,k2,by simpa using k3,k4,hs'.rel,hs'.glo,?_,fun j=>?_,?_,hs'.df,hs'.old,I.ext.trans he,?_,fun l hl=>he.used l (I.rdU l hl)⟩
      ·rw [Az4 L' _ _ _ fun i hi=>habove i hi];exact hs'.mat.at_
      ·rw [hs'.mat.U]
       constructor
       ·exact fun h=>.inl h
       ·rintro (h | ⟨q,_,hl,_⟩)
        ·exact h
        ·rw [habove _ (by omega)] at hl;cases hl
      ·rw [Az5 L' _ _ _ fun i hi=>habove i hi];exact hs'.fr
      ·rw [← I.fen];exact AR8 he I.rdU
     obtain ⟨ran,hran,h1,h2⟩:=BE9 htail
     rw [Ar1 hao hst.fr (fun _ _=>rfl) hran]
     cases ran with
     | true =>
      simp only [if_true]
      rw [← I.fen]
      refine Ac4 hc hst (h1 rfl) fun v val c' h' hK hx hr' hm' he'=>?_
      rw [I.fen,← hd]
      exact nextInv c' _ _ _ hK (hst.step o2.dst hx hr' hm' he') he'
     | false =>
      simp only [Bool.false_eq_true,if_false]
      refine ⟨by rw [← I.fen];exact AU1 c rd o _ _,?_⟩
      rw [← hd]
      exact nextInv c _ _ _ (h2 rfl) (hst.step o2.dst (v:=.tup []) (val:=undef) BP4 hst.rel hst.mat (Ext.refl c)) (Ext.refl c)
    ·exfalso
     rcases As0 hpiv hilt hie with h|h
     ·have:=ancs_lt h;omega
     ·have:=hanc _ h
      rw [I.above _ (Nat.le_refl _)] at this
      cases this
end
end Go.Am
namespace Go.Am
def Cx.ren (c:Cx) (σ:Nat→Nat) (h:Hp):Cx:={ U:=fun i=>i < h.next,at_:=lk h.l,mu:=fun i=>c.mu (σ i),w:=c.w,hid:=c.hid }
def Keeps (N:Nat) (σ:Nat→Nat):Prop:=∀ i,i < N→σ i=i
def Weak (P:Program) (σ:Nat→Nat) (fr:List AV) (h:Hp) (fr':List AV) (h':Hp):Prop :=
 ∀ (c:Cx) (tmps:Array Value),Rel P c→Mat c h→FR c fr tmps→Rel P (c.ren σ h')∧FR (c.ren σ h') fr' tmps∧∀ i o,lk h'.l i=some o→∃ o',lk h.l (σ i)=some o'
theorem BN6 {c0 c:Cx} {σ:Nat→Nat} {h h':Hp} (e:Ext c0 c) (hm:Mat c h) (hs:∀ i o,lk h'.l i=some o→∃ o',lk h.l (σ i)=some o') (hn:∀ i,c0.U i→i < h'.next) (hσ:∀ i,c0.U i→σ i=i):Ext c0 (c.ren σ h') :=
 ⟨hn,fun i hi=>by show c.mu (σ i)=_;rw [hσ i hi];exact e.mu i hi,e.csz,fun b hb=>⟨⟨(e.froz b hb).1.1,fun i o hi=>by
   obtain ⟨o',ho'⟩:=hs i o hi
   exact (e.froz b hb).1.2 (σ i) o' (by rw [hm.at_];exact ho'),(e.froz b hb).1.3⟩,(e.froz b hb).2⟩,e.size,e.hid,e.hidh,e.env⟩
def thenQ (w:List AV→Hp→Prop) (Q:Exit→List AV→Hp→Prop):Exit→List AV→Hp→Prop
 | .normal=>w
 | e=>Q e
def BW9 (id:Nat) (Q:Exit→List AV→Hp→Prop):Exit→List AV→Hp→Prop
 | .exit j=>if j=id then Q .normal else Q (.exit j)
 | e=>Q e
def loopQ (P:Program) (I:List AV→Hp→Prop) (m:List AV→Hp→Nat) (N M:Nat) (Q:Exit→List AV→Hp→Prop):Exit→List AV→Hp→Prop
 | .normal=>fun fr h=>∃ σ fr' h',Weak P σ fr h fr' h'∧Keeps N σ∧N≤h'.next∧I fr' h'∧m fr' h' < M
 | e=>Q e
def rangeQ (l:Nat) (fr:List AV) (Q:Exit→List AV→Hp→Prop) (h2:Hp):Prop :=
 ∃ st pend fr' ps as bd,lk h2.l l=some (.loop st pend fr' ps as bd)∧st ≠ .busy ∧
  match pend with
  | none=>Q .normal fr ⟨put h2.l l (some (.loop .exhausted pend fr' ps as bd)),h2.next⟩
  | some (.exit id)=>Q (.exit id) fr ⟨put h2.l l (some (.loop .exhausted pend fr' ps as bd)),h2.next⟩
  | some .ret=>Q .ret fr ⟨put h2.l l (some (.loop .exhausted pend fr' ps as bd)),h2.next⟩
  | _=>False
def inLoop (h:Hp):Option Nat→Prop
 | none=>True
 | some l=>∃ st pend fr ps as bd,lk h.l l=some (.loop st pend fr ps as bd)
def RangeA (P:Program) (G:Gl) (rd:Option Nat) (f:AX) (ps:List Nat) (assign body:ACode) (Q:Exit→List AV→Hp→Prop) (fr:List AV) (h:Hp):Prop :=
 ∃ g fs cs,ax G fr f=some (.fn g fs cs)∧fnOk P g=true∧inLoop h rd∧Ah6 P G (.fn g fs cs) [.yld h.next] ⟨put h.l h.next (some (.loop .ready none fr ps assign body)),h.next+1⟩ fun _ h2=>rangeQ h.next fr Q h2
def wpc (P:Program) (G:Gl) (rd:Option Nat) (N:Nat):ACode→(Exit→List AV→Hp→Prop)→List AV→Hp→Prop
 | .skip,Q=>Q .normal
 | .reg ops,Q=>BI1 P G ops (Q .normal)
 | .regD ops pre,Q=>fun fr h=>BE0 pre 0=true∧Ag1 P G (ancs pre) pre.length ops 0 0 [] (Q .normal) fr h
 | .seq a b,Q=>wpc P G rd N a (thenQ (wpc P G rd N b Q) Q)
 | .cond c a b,Q=>fun fr h=>∃ t,ax G fr c=some (.bool t)∧(t=true→wpc P G rd N a Q fr h)∧(t=false→wpc P G rd N b Q fr h)
 | .block id c,Q=>wpc P G rd N c (BW9 id Q)
 | .loop c,Q=>fun fr h=>∃ (I:List AV→Hp→Prop) (m:List AV→Hp→Nat),(∃ σ fr0 h0,Weak P σ fr h fr0 h0∧Keeps N σ∧N≤h0.next∧I fr0 h0)∧∀ fr1 h1,I fr1 h1→wpc P G rd N c (loopQ P I m N (m fr1 h1) Q) fr1 h1
 | .rangeF f ps a b,Q=>RangeA P G rd f ps a b Q
 | .exit id,Q=>Q (.exit id)
 | .ret,Q=>Q .ret

section
variable {P:Program} {G:Gl}
theorem least {p:Nat→Prop}:(∃ k,p k)→∃ k,p k∧∀ j,p j→k≤j:=by
 rintro ⟨k,hk⟩
 induction k using Nat.strongRecOn with
 | _ k ih =>
  by_cases h:∃ j,j < k∧p j
  ·obtain ⟨j,hj,hp⟩:=h;exact ih j hj hp
  ·exact ⟨k,hk,fun j hj=>by
    rcases Nat.lt_or_ge j k with h2|h2
    ·exact absurd ⟨j,h2,hj⟩ h
    ·exact h2⟩
open Classical in
theorem AX7 {ι:Type} {F:Fence} {n:Nat} {c:Code} {Q:Exit→Act→World→Prop} {a:Act} {w:World} (I:ι→Act→World→Prop) (m:ι→Nat) (i0:ι) (h0:I i0 a w)
  (round:∀ i a w,I i a w→c.wpIn F n P (Exit.then (fun a' w'=>∃ j,I j a' w'∧m j < m i) Q) a w):(Code.loop c).wpIn F n P Q a w:=by
 have hl:∀ a w,(∃ i,I i a w)→∃ k,(∃ i,I i a w∧m i=k)∧∀ j,(∃ i,I i a w∧m i=j)→k≤j:=fun a w ⟨i,hi⟩=>least ⟨m i,i,hi,rfl⟩
 let mu:Act→World→Nat:=fun a w=>if h:∃ i,I i a w then Classical.choose (hl a w h) else 0
 have hmu:∀ a w (h:∃ i,I i a w),(∃ i,I i a w∧m i=mu a w)∧∀ i,I i a w→mu a w≤m i:=fun a w h=>by
  have:=Classical.choose_spec (hl a w h)
  simp only [mu,dif_pos h]
  exact ⟨this.1,fun i hi=>this.2 _ ⟨i,hi,rfl⟩⟩
 refine wpIn_loop (fun a w=>∃ i,I i a w) mu ⟨i0,h0⟩ fun a w h=>?_
 obtain ⟨⟨i,hi,hmi⟩,_⟩:=hmu a w h
 refine wpIn_mono (round i a w hi) fun e a' w' hq=>?_
 cases e<;>simp only [Exit.then] at hq ⊢<;>try exact hq
 obtain ⟨j,hj,hlt⟩:=hq
 exact ⟨⟨j,hj⟩,by have:=(hmu a' w' ⟨j,hj⟩).2 j hj;omega⟩
def WP (P:Program) (G:Gl) (rd:Option Nat) (N:Nat) (c:Code) (Q:Exit→List AV→Hp→Prop) (fr:List AV) (h:Hp):Prop :=
 ∀ (B:Nat) (c0 cx:Cx) (a:Act) (n:Nat),St P G B cx fr h a→Ext c0 cx→fence cx rd=fence c0 rd→(∀ l,rd=some l→c0.U l)→AV2 G c0→(∀ i,c0.U i→i < N)→c.wpIn (fence c0 rd) n P (Post P G B c0 Q) a cx.w
theorem reg_sound {id:Nat} {ops:Array Oper} {aops:List L6} {rd:Option Nat} {N:Nat} {Q:Exit→List AV→Hp→Prop} {fr:List AV} {h:Hp} (hm:BO7 P ops=some aops) (hr:BI1 P G aops (Q .normal) fr h):WP P G rd N (.region id ops false) Q fr h:=by
 intro B c0 cx a n hs he hf hU _ _
 refine wpIn_region ?_
 have:=Ac7 (n:=n) (rd:=rd) (c0:=c0) ops.toList aops 0 (fun j=>by simp) hm hs he hf (fun l hl=>he.used l (hU l hl)) hr
 rw [List.range_eq_range',← Array.length_toList]
 exact this
theorem regD_sound {id:Nat} {ops:Array Oper} {aops:List L6} {rd:Option Nat} {N:Nat} {Q:Exit→List AV→Hp→Prop} {fr:List AV} {h:Hp} (G9:P.follows .mixedOrders=true) (hm:BO7 P ops=some aops) (hord:BE0 (ops.toList.map AJ6) 0=true)
  (hr:Ag1 P G (ancs (ops.toList.map AJ6)) (ops.toList.map AJ6).length aops 0 0 [] (Q .normal) fr h):WP P G rd N (.region id ops true) Q fr h:=by
 intro B c0 cx a n hs he hf hU _ _
 refine wpIn_region_any G9 ?_
 have e1:Ext cx (cx.wd { cx.w with drawn:=cx.w.drawn+1 }):=ext_wd rfl ⟨rfl,rfl,rfl⟩
 obtain ⟨L,os2,k1,k2,k3,k4⟩:=Ac8 aops 0 0 [] fr h hr
 have hsz:(ops.toList.map AJ6).length=ops.size:=by simp
 rw [hsz] at k4
 have hl0:∀ i,(Array.replicate ops.size false).getD i false=false:=fun i=>by
  simp only [Array.getD_eq_getD_getElem?,Array.getElem?_replicate]
  split<;>rfl
 refine draw_inv (rd:=rd) (aops:=aops) (c:=cx.wd { cx.w with drawn:=cx.w.drawn+1 }) hm hord ops.size (Array.replicate ops.size false) 0 L os2 fr h a ?_ ?_
 ·refine ⟨by simp,fun j o ho hl=>(by rw [hl0] at hl;cases hl),fun i hi=>(by omega),fun i _=>hl0 i,⟨[],rfl,by simpa using k1⟩,k2,by simpa using k3,k4,rel_wd rfl ⟨rfl,rfl,rfl⟩ hs.rel,hs.glo.ext e1,?_,fun i=>?_,?_,hs.df.ext e1,hs.old,he.trans e1,?_,fun l hl=>he.used l (hU l hl)⟩
  ·rw [Az4 L _ _ _ fun i _=>hl0 i];exact hs.mat.at_
  ·show cx.U i ↔ _
   rw [hs.mat.U]
   constructor
   ·exact fun h=>.inl h
   ·rintro (h | ⟨q,_,hl,_⟩)
    ·exact h
    ·rw [hl0] at hl;cases hl
  ·rw [Az5 L _ _ _ fun i _=>hl0 i];exact hs.fr.ext e1
  ·exact hf
 ·simp [AR3,List.count_replicate]
end
end Go.Am
namespace Go.Am
section
variable {P:Program} {G:Gl}
def Cx.wro (c:Cx) (id:Nat) (o:AObj) (w':World):Cx:={ U:=c.U,at_:=upd c.at_ [(id,some o)],mu:=c.mu,w:=w',hid:=c.hid }
theorem ext_wro {c:Cx} {id:Nat} {o o':AObj} {w':World} (hR:Rel P c) (ho:c.at_ id=some o) (hother:∀ b,b ≠ (c.mu id).1→w'.heap[b]? = c.w.heap[b]?) (hcs:csize w' (c.mu id).1=csize c.w (c.mu id).1) (hsz:w'.heap.size=c.w.heap.size) (henv:w'.os=c.w.os∧w'.tape=c.w.tape∧w'.output=c.w.output) :
  Ext c (c.wro id o' w'):=by
 have:=Ao2 (cs:=[]) hR ho hother hcs hsz henv
 refine ⟨this.used,this.mu,this.csz,fun b hb=>⟨⟨(this.froz b hb).1.1,fun i o1 hi=>?_,hb.3⟩,(this.froz b hb).2⟩,this.size,this.hid,this.hidh,this.env⟩
 simp only [Cx.wro,upd] at hi ⊢
 split at hi
 ·rename_i e;subst e;exact hb.2 i o ho
 ·exact hb.2 i o1 hi
theorem rel_wro {c:Cx} {id:Nat} {o o':AObj} {w':World} (hR:Rel P c) (ho:c.at_ id=some o) (hother:∀ b,b ≠ (c.mu id).1→w'.heap[b]? = c.w.heap[b]?) (hcs:csize w' (c.mu id).1=csize c.w (c.mu id).1) (hsz:w'.heap.size=c.w.heap.size) (henv:w'.os=c.w.os∧w'.tape=c.w.tape∧w'.output=c.w.output)
  (hob:Aq8 P (c.wro id o' w') (c.mu id) o'):Rel P (c.wro id o' w'):=by
 have he:=ext_wro (o':=o') hR ho hother hcs hsz henv
 have hat:∀ i o1,(c.wro id o' w').at_ i=some o1→(i=id∧o1=o')∨(i ≠ id∧c.at_ i=some o1):=fun i o1 hi=>by
  simp only [Cx.wro,upd] at hi
  split at hi
  ·rename_i e;cases hi;exact .inl ⟨e,rfl⟩
  ·rename_i e;exact .inr ⟨e,hi⟩
 have hlive:∀ i o1,(c.wro id o' w').at_ i=some o1→∃ o2,c.at_ i=some o2:=fun i o1 hi=>by
  rcases hat i o1 hi with ⟨e,_⟩ | ⟨_,h⟩
  ·exact ⟨o,e▸ho⟩
  ·exact ⟨o1,h⟩
 refine ⟨fun i o1 hi=>?_,fun i j o1 o2 hi hj hij=>?_,fun i o1 hi=>?_,hR.many,fun i o1 hi=>(let ⟨o2,h1⟩:=hlive i o1 hi;hR.nohid i o2 h1),fun b hb=>by have:=hR.hidlt b hb;simp [Cx.wro,hsz];exact this⟩
 ·obtain ⟨o2,h1⟩:=hlive i o1 hi;exact hR.used i o2 h1
 ·obtain ⟨p1,h1⟩:=hlive i o1 hi
  obtain ⟨p2,h2⟩:=hlive j o2 hj
  exact hR.inj i j p1 p2 h1 h2 hij
 ·rcases hat i o1 hi with ⟨e1,e2⟩ | ⟨n1,h1⟩
  ·rw [e1,e2];exact hob
  ·exact (hR.obj i o1 h1).ext he (hother _ fun e=>n1 (hR.inj i id o1 o h1 ho e))
theorem Mat.wro {c:Cx} {h:Hp} (m:Mat c h) (id:Nat) (o:AObj) (w':World):Mat (c.wro id o w') ⟨put h.l id (some o),h.next⟩ :=
 ⟨by rw [BE4,← m.at_];rfl,m.U⟩
theorem Ao4 {c:Cx} (ob:Obj) (hR:Rel P c):Ext c (c.wd (c.w.alloc ob)) :=
 ⟨fun _ h=>h,fun _ _=>rfl,fun b hb=>by simp only [csize,Cx.wd,X7 c.w ob hb],fun b hb=>⟨⟨by have:=hb.1;simp [Cx.wd];omega,hb.2,hb.3⟩,X7 c.w ob hb.1⟩,by simp [Cx.wd],fun _=>Iff.rfl,fun b hb=>X7 c.w ob (hR.hidlt b hb),rfl,rfl,rfl⟩
theorem rel_alloc {c:Cx} (ob:Obj) (hR:Rel P c):Rel P (c.wd (c.w.alloc ob)) :=
 ⟨hR.used,hR.inj,fun i o ho=>(hR.obj i o ho).ext (Ao4 ob hR) (X7 c.w ob (hR.obj i o ho).lt),hR.many,hR.nohid,fun b hb=>by have:=hR.hidlt b hb;simp [Cx.wd];omega⟩
theorem run_getLoop {w:World} {l:Nat} {r:Loop} (h:w.heap[l]? = some (.loop r)):(Instr.getLoop l).run P w = .ok r w:=by
 simp [Instr.getLoop,getObj,Sem.run,h]
theorem Ac6 {w:World} {l:Nat} {r:Loop} (o:Obj) (h:w.heap[l]? = some (.loop r)):(setObj l o).run P w = .ok () { w with heap:=w.heap.setIfInBounds l o }:=by
 simp [setObj,Sem.run,h]
theorem AK0 {c:Cx} {l:Nat} {st:LoopState} {pend:Option Code} {fr:List AV} {ps:List Nat} {as bd:ACode} (hR:Rel P c) (hl:c.at_ l=some (.loop st pend fr ps as bd)):∃ r:Loop,c.w.heap[(c.mu l).1]? = some (.loop r)∧r.state=st∧r.pending=pend∧FR c fr r.tmps∧r.params.toList=ps∧u6 P r.assign=some as∧u6 P r.body=some bd ∧
  ∀ st' pend',let w':World:={ c.w with heap:=c.w.heap.setIfInBounds (c.mu l).1 (.loop { r with state:=st',pending:=pend' }) }
   Rel P (c.wro l (.loop st' pend' fr ps as bd) w')∧Ext c (c.wro l (.loop st' pend' fr ps as bd) w'):=by
 obtain ⟨fn,tmps,qs,dn,ca,cb,h1,h2,h3,h4,h5⟩:=hR.obj l _ hl
 refine ⟨_,h1,rfl,rfl,h2,h3,h4,h5,fun st' pend'=>?_⟩
 have hlt:=(hR.obj l _ hl).lt
 have hother:∀ (o:Obj) b,b ≠ (c.mu l).1→(c.w.heap.setIfInBounds (c.mu l).1 o)[b]? = c.w.heap[b]?:=fun o b hb=>Array.getElem?_setIfInBounds_ne (Ne.symm hb)
 have hself:∀ o:Obj,(c.w.heap.setIfInBounds (c.mu l).1 o)[(c.mu l).1]? = some o:=fun o=>by simp [hlt]
 have he:Ext c _:=ext_wro hR (o':=.loop st' pend' fr ps as bd) (w':={ c.w with heap:=c.w.heap.setIfInBounds (c.mu l).1 (.loop { state:=st',pending:=pend',fn,tmps,params:=qs,assign:=ca,body:=cb,defers:=dn }) }) hl (fun b hb=>hother _ b hb) (by simp only [csize,hself,h1]) (by simp) ⟨rfl,rfl,rfl⟩
 exact ⟨rel_wro hR hl (fun b hb=>hother _ b hb) (by simp only [csize,hself,h1]) (by simp) ⟨rfl,rfl,rfl⟩ ⟨fn,tmps,qs,dn,ca,cb,hself _,h2.ext he,h3,h4,h5⟩,he⟩
theorem Az0 {c:Cx} {rd:Option Nat} {n g:Nat} {args:Array Value} {w:World} {R:Ending→World→Prop} (h:CallsIn Fence.wide n P g args w R):CallsIn (fence c rd) n P g args w R:=by cases rd<;>exact h
theorem BD0 {f:Operand} {ps:Array Tmp} {ca cb:Code} {fa:AX} {as bd:ACode} {rd:Option Nat} {N:Nat} {Q:Exit→List AV→Hp→Prop} {fr:List AV} {h:Hp} (hf:cox f=some fa) (ha:u6 P ca=some as) (hb:u6 P cb=some bd) (hr:RangeA P G rd fa ps.toList as bd Q fr h):WP P G rd N (.rangeFunc f ps ca cb) Q fr h:=by
 obtain ⟨g,fs,cs,hg,hok,hin,hcall⟩:=hr
 intro B c0 cx a n hs he hfen hU _ _
 refine wpIn_rangeFunc fun fn _=>?_
 obtain ⟨vf,vc,hu,hvf,hvc⟩:=AS6.1 (J9 hs.fr hs.glo hf hg)
 -- the record is laid
 have laid:∃ (mark:List Deferred) (c1:Cx) (dn:Nat),(Instr.enterLoop fn a.tmps ps ca cb (fence c0 rd).round).run P cx.w = .ok (c1.w.heap.size,mark) (c1.w.alloc (.loop { state:=.ready,pending:=none,fn,tmps:=a.tmps,params:=ps,assign:=ca,body:=cb,defers:=dn }))∧Rel P c1∧Ext cx c1∧c1.at_=cx.at_∧c1.U=cx.U∧c1.mu=cx.mu∧DF B c1 (mark++a.defers):=by
  cases rd with
  | none =>
   refine ⟨[{ target:=.collected cx.w.heap.size,args:=#[] }],cx.wd (cx.w.alloc (.deferred (some []))),cx.w.heap.size,?_,rel_alloc _ hs.rel,Ao4 _ hs.rel,rfl,rfl,rfl,?_⟩
   ·show (Instr.enterLoop fn a.tmps ps ca cb none).run P cx.w=_
    simp [Instr.enterLoop,newObj,Sem.run,Cx.wd]
   ·have h0:=hs.df.ext (Ao4 (.deferred (some [])) hs.rel)
    refine ⟨List.pairwise_cons.2 ⟨fun d hd=>?_,h0.1⟩,fun d hd=>?_⟩
    ·obtain ⟨r,rfl,_,hr,_⟩:=hs.df.2 d hd
     intro e
     simp at e
     have:=hr.1
     omega
    ·rcases List.mem_cons.1 hd with rfl|hd
     ·refine ⟨_,rfl,hs.old,⟨by simp [Cx.wd],fun i o hi=>?_,fun hh=>by have:=hs.rel.hidlt _ hh;omega⟩,AA2 _ _⟩
      have:=(hs.rel.obj i o hi).lt
      show (cx.mu i).1 ≠ _
      omega
     ·exact h0.2 d hd
  | some l =>
   obtain ⟨st,pend,fr',ps',as',bd',hl⟩:=hin
   rw [← hs.mat.at_] at hl
   obtain ⟨r,hr,_⟩:=AK0 hs.rel hl
   refine ⟨[],cx,r.defers,?_,hs.rel,Ext.refl _,rfl,rfl,rfl,hs.df⟩
   have hro:(fence c0 (some l)).round=some (cx.mu l).1:=by rw [← hfen];rfl
   rw [hro]
   simp only [Instr.enterLoop,Sem.run_bind,run_getLoop hr,Result.andThen_ok,Sem.run_pure]
   simp [newObj,Sem.run]
 obtain ⟨mark,c1,dn,hent,hR1,he1,hat1,hU1,hmu1,hdf1⟩:=laid
 have hid:¬ c1.U h.next:=by rw [hU1];exact hs.mat.fresh
 generalize hob:Obj.loop { state:=.ready,pending:=none,fn,tmps:=a.tmps,params:=ps,assign:=ca,body:=cb,defers:=dn }=ob at hent
 have he2:Ext c1 (c1.mk' h.next (.loop .ready none fr ps.toList as bd) ob):=Ao3 hR1 hid _ _
 have hR2:Rel P (c1.mk' h.next (.loop .ready none fr ps.toList as bd) ob):=Av2 hR1 hid _ _ ⟨fn,a.tmps,ps,dn,ca,cb,by rw [hob];exact AA2 _ _,hs.fr.ext (he1.trans he2),rfl,ha,hb⟩
 generalize hc2:c1.mk' h.next (.loop .ready none fr ps.toList as bd) ob=c2 at he2 hR2
 have hw2:c2.w=c1.w.alloc ob:=by rw [← hc2];rfl
 have hmu2:(c2.mu h.next).1=c1.w.heap.size:=by rw [← hc2];simp [Cx.mk']
 have hU2:c2.U h.next:=by rw [← hc2];exact .inr rfl
 have hm2:Mat c2 ⟨put h.l h.next (some (.loop .ready none fr ps.toList as bd)),h.next+1⟩:=by
  rw [← hc2]
  refine ⟨by rw [BE4];show upd c1.at_ _=_;rw [hat1,hs.mat.at_],fun i=>?_⟩
  show (c1.U i∨i=h.next) ↔ _
  rw [hU1,hs.mat.U]
  show (i < h.next∨i=h.next) ↔ i < h.next+1
  omega
 have he02:Ext cx c2:=he1.trans he2
 obtain ⟨next,w3,hrun,hup⟩:=hcall c2 (a.eval f) #[.func (.yield (c2.mu h.next).1) #[] #[]] hR2 (hs.glo.ext he02) hm2 ((J9 hs.fr hs.glo hf hg).ext he02) ⟨rfl,fun j x hx=>by
  cases j with
  | zero=>simp at hx;subst hx;exact ⟨_,rfl,BH8.2 ⟨hU2,rfl⟩⟩
  | succ j=>simp at hx⟩
 rw [hu,AE1 hok] at hrun
 cases hrun
 refine ⟨c1.w.heap.size,mark,c1.w.alloc ob,{ target:=.fn (.func g) vc,args:=vf ++ #[.func (.yield c1.w.heap.size) #[] #[]] },c1.w.alloc ob,g,vf ++ #[.func (.yield c1.w.heap.size) #[] #[]]++vc,c1.w.alloc ob,hent,?_,?_,?_,Ay1 c0 rd,?_⟩
 ·simp only [resolve,rangeCall,hu,Deferred.ofValue]
  simp [Act.eval]
 ·intro f' _;cases rd<;>trivial
 ·have:=AE1 (P:=P) (vf:=vf) (vc:=vc) (vs:=#[.func (.yield c1.w.heap.size) #[] #[]]) hok (c1.w.alloc ob)
  simpa [Deferred.ofValue] using this
 ·rw [hmu2,hw2] at hup
  refine (Az0 (callsIn_wide.2 hup)).mono ?_
  rintro e w' ⟨v,rfl,r,h2,c3,rfl,⟨st,pend,fr',ps',as',bd',hl,hst,hq⟩,_,hR3,hm3,he3⟩
  rw [← hm3.at_] at hl
  obtain ⟨rec,hrec,hrs,hrp,_,_,_,_,hch⟩:=AK0 hR3 hl
  have hmu3:(c3.mu h.next).1=c1.w.heap.size:=by rw [he3.mu _ hU2,hmu2]
  obtain ⟨hR4,he4⟩:=hch .exhausted pend
  have hend:(Instr.endLoop c1.w.heap.size).run P c3.w = .ok pend { c3.w with heap:=c3.w.heap.setIfInBounds (c3.mu h.next).1 (.loop { rec with state:=.exhausted,pending:=pend }) }:=by
   rw [← hmu3]
   have hnb:(rec.state == LoopState.busy)=false:=by rw [hrs];cases st<;>first|rfl|exact absurd rfl hst
   simp only [Instr.endLoop,Sem.run_bind,run_getLoop hrec,Result.andThen_ok,hnb,Bool.false_eq_true,if_false,Sem.run_pure,Ac6 _ hrec,hrp]
  refine ⟨pend,_,hend,?_⟩
  have hst4:St P G B (c3.wro h.next (.loop .exhausted pend fr' ps' as' bd') _) fr ⟨put h2.l h.next (some (.loop .exhausted pend fr' ps' as' bd')),h2.next⟩ { a with defers:=mark++a.defers } :=
   ⟨hR4,hs.glo.ext (he02.trans (he3.trans he4)),hm3.wro _ _ _,hs.fr.ext (he02.trans (he3.trans he4)),hdf1.ext (he2.trans (he3.trans he4)),Nat.le_trans hs.old (he02.trans (he3.trans he4)).size⟩
  have he5:=he.trans (he02.trans (he3.trans he4))
  cases pend with
  | none=>exact ⟨_,_,_,rfl,hq,hst4,he5⟩
  | some code =>
   cases code<;>simp only at hq<;>try exact hq.elim
   ·exact wpIn_exit ⟨_,_,_,rfl,hq,hst4,he5⟩
   ·exact wpIn_ret ⟨_,_,_,rfl,hq,hst4,he5⟩
end
end Go.Am
