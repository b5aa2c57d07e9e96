/-
 A loop over a map: 'for k:=range m',whatever the order in which the keys come. No program in sight.
 Maps whose keys are numbers: what is looked up,set,taken away. No program in sight.
 Calls that change blocks,in a region that draws its order. No program in sight.
-/
import Derived.Test.YtbhgfoikbkaohaaGreatQah
import Derived.Maps.RangeRun
set_option linter.unusedSimpArgs false
set_option linter.unusedVariables false
set_option maxHeartbeats 1600000
namespace Go.Am
open Go.ChangeMaps (setBlock)
section
variable {P:Program} {G:Gl}
structure Kept (c:Cx) (r:Nat) (w':World):Prop where
 size:c.w.heap.size≤w'.heap.size
 oth:∀ b,b < c.w.heap.size→b ≠ r→w'.heap[b]? = c.w.heap[b]?
 cz:r < c.w.heap.size→(∃ m s e k,c.w.heap[r]? = some (.mapIter m s e k))∧∃ m s e k,w'.heap[r]? = some (.mapIter m s e k)
 nm:∀ id o,c.at_ id=some o→(c.mu id).1 ≠ r
 env:w'.os=c.w.os∧w'.tape=c.w.tape∧w'.output=c.w.output
section
variable {c:Cx} {r:Nat} {w':World}
theorem Kept.csz (k:Kept c r w'):∀ b,b < c.w.heap.size→csize w' b=csize c.w b:=fun b hb=>by
 by_cases e:b=r
 ·subst e
  obtain ⟨⟨_,_,_,_,h1⟩,_,_,_,_,h2⟩:=k.cz hb
  simp only [csize,h1,h2]
 ·simp only [csize,k.oth b hb e]
theorem Kept.froz (k:Kept c r w') {b:Nat} (h:c.Froz b):(c.wd w').Froz b:=⟨Nat.lt_of_lt_of_le h.1 k.size,h.2,h.3⟩
theorem Kept.extW (k:Kept c r w'):ExtW c (c.wd w'):=⟨fun _ h=>h,fun _ _=>rfl,k.csz,fun b hb=>⟨k.froz hb,fun o v hv=>by
  by_cases e:b=r
  ·subst e
   obtain ⟨⟨_,_,_,_,h1⟩,_⟩:=k.cz hb.1
   simp [World.cell?,h1] at hv
  ·show w'.cell? _=_
   simp only [World.cell?,k.oth b hb.1 e] at hv ⊢
   exact hv⟩,k.size⟩
theorem Kept.rel (k:Kept c r w') (hR:Rel P c):Rel P (c.wd w'):=by
 have e:=k.extW
 refine ⟨hR.used,hR.inj,fun i o hi=>?_,hR.many,hR.nohid,fun b hb=>Nat.lt_of_lt_of_le (hR.hidlt b hb) k.size⟩
 have ho:=hR.obj i o hi
 have hb:w'.heap[(c.mu i).1]? = c.w.heap[(c.mu i).1]?:=k.oth _ ho.lt (k.nm i o hi)
 show Aq8 P (c.wd w') (c.mu i) o
 cases o with
 | cells cs=>obtain ⟨a,T,h1,h2⟩:=ho;exact ⟨a,T,hb.trans h1,h2.imp (fun _ _ h=>⟨h.1.extW e,h.2⟩) fun _ _ h=>h⟩
 | loop=>obtain ⟨fn,tmps,qs,dn,ca,cb,h1,h2,h3⟩:=ho;exact ⟨fn,tmps,qs,dn,ca,cb,hb.trans h1,⟨h2.1,h2.2.imp (fun _ _=>RR.extW e) fun _ _ h=>h⟩,h3⟩
 | maps es=>obtain ⟨a,k,h1,h2,h3⟩:=ho;exact ⟨a,k,hb.trans h1,h2,fun j kv hj=>let ⟨m,h4,h5,h6⟩:=h3 j kv hj;⟨m,h4,h5.extW e,h6.extW e⟩⟩
theorem Kept.st {B:Nat} {fr:List AV} {h:Hp} {a:Act} (k:Kept c r w') (hs:St P G B c fr h a):St P G B (c.wd w') fr h a:=by
 have e:=k.extW
 refine ⟨k.rel hs.rel,fun n cs hn=>(hs.glo n cs hn).extW e,⟨hs.mat.1,hs.mat.2⟩,⟨hs.fr.1,hs.fr.2.imp (fun _ _=>RR.extW e) fun _ _ h=>h⟩,⟨hs.df.1,fun d hd=>?_⟩,Nat.le_trans hs.old k.size⟩
 obtain ⟨q,h1,h0,h2,h3⟩:=hs.df.2 d hd
 refine ⟨q,h1,h0,k.froz h2,(k.oth q h2.1 fun e=>?_).trans h3⟩
 subst e
 obtain ⟨⟨_,_,_,_,h4⟩,_⟩:=k.cz h2.1
 rw [h4] at h3;cases h3
end
def Cx.un (c:Cx) (i:Nat) (o:AObj) (hid0:Nat→Prop):Cx:={ c with at_:=upd c.at_ [(i,some o)],hid:=hid0 }
def Cx.hide (c:Cx) (i it r:Nat):Cx:={ U:=fun j=>c.U j∨j=it,at_:=upd c.at_ [(i,none)],mu:=fun j=>if j=it then (r,0) else c.mu j,w:=c.w,hid:=fun b=>c.hid b∨b=(c.mu i).1 }
theorem upd1 {f:At} {i:Nat} {o:Option AObj} (j:Nat):upd f [(i,o)] j=if j=i then o else f j:=by simp [upd]
theorem put_undef {c:Cx} {fr:List AV} {tmps:Array Value} {d:Nat} {v:Value} (h:FR c fr tmps) (hd:fr[d]? = some .undef):FR c fr (tmps.setIfInBounds d v):=by
 have:=h.set d (x:=.undef) (v:=v) RR_undef
 have e:fr.set d .undef=fr:=by
  refine List.ext_getElem? fun j=>?_
  rw [List.getElem?_set]
  split
  ·rename_i e;subst e
   have hlt:=(List.getElem?_eq_some_iff.1 hd).1
   rw [if_pos hlt,hd]
  ·rfl
 rwa [e] at this
theorem St.undef {B:Nat} {c:Cx} {fr:List AV} {h:Hp} {a:Act} {d:Nat} {v:Value} (hs:St P G B c fr h a) (hd:fr[d]? = some .undef):St P G B c fr h (a.put (some d) v) :=
 ⟨hs.rel,hs.glo,hs.mat,put_undef hs.fr hd,by rw [put_defers];exact hs.df,hs.old⟩
theorem St.setv {B:Nat} {c:Cx} {fr:List AV} {h:Hp} {a:Act} {d:Nat} {x:AV} {v:Value} (hs:St P G B c fr h a) (hx:RR c x v):St P G B c (fr.set d x) h (a.put (some d) v) :=
 ⟨hs.rel,hs.glo,hs.mat,hs.fr.set d hx,by rw [put_defers];exact hs.df,hs.old⟩
theorem AO8 {a:Act} {d e:Nat} {v:Value} (h:d < a.tmps.size):(a.put (some d) v).eval (.tmp e)=if d=e then v else a.eval (.tmp e):=by
 show (a.tmps.setIfInBounds d v).getD e undef=if d=e then v else a.tmps.getD e undef
 simp only [Array.getD_eq_getD_getElem?,Array.getElem?_setIfInBounds]
 by_cases hd:d=e
 ·subst hd;simp [h]
 ·simp [hd]
theorem AU0 {a:Act} {d:Nat} {v:Value}:(a.put (some d) v).tmps.size=a.tmps.size:=by show (a.tmps.setIfInBounds d v).size=_;simp
theorem AL3 {o:Oper} {c:Cx} {n:Nat} {a:Act} {w w':World} {v:Value} {next:Act→World→Prop} {Q:Exit→Act→World→Prop} (hd:∀ k,o.op ≠ .defer k) (hr:(execOp a.eval o).run P w = .ok (.value v) w') (hn:next (a.put o.dst v) w'):o.wpIn (fence c none) n P a w next Q:=by
 refine ⟨AU1 c none o _ _,?_⟩
 rw [Oper.semAt_eq _ _ _ hd,hr]
 exact hn
theorem AH4 {F:Fence} {n:Nat} {ops:Array Oper} {Q:Exit→Act→World→Prop} {i:Nat} {rest:List Nat} {o:Oper} {a:Act} {w:World} (h:ops[i]? = some o) (hg:o.guard=none) (hw:o.wpIn F n P a w (wpOpsIn F n P ops Q rest) Q):wpOpsIn F n P ops Q (i::rest) a w:=by
 simp only [wpOpsIn,h]
 rw [if_pos (AV8 hg)]
 exact hw
structure ExtR (r:Nat) (c c':Cx):Prop where
 used:∀ id,c.U id→c'.U id
 mu:∀ id,c.U id→c'.mu id=c.mu id
 csz:∀ b,b < c.w.heap.size→csize c'.w b=csize c.w b
 froz:∀ b,b ≠ r→c.Froz b→c'.Froz b∧c'.w.heap[b]? = c.w.heap[b]?
 size:c.w.heap.size≤c'.w.heap.size
 hid:∀ b,c'.hid b ↔ c.hid b
 hidh:∀ b,b ≠ r→c.hid b→c'.w.heap[b]? = c.w.heap[b]?
 env:c'.w.os=c.w.os∧c'.w.tape=c.w.tape∧c'.w.output=c.w.output
theorem Kept.extR {c:Cx} {r:Nat} {w':World} (k:Kept c r w') (hR:Rel P c):ExtR r c (c.wd w') :=
 ⟨fun _ h=>h,fun _ _=>rfl,k.csz,fun b hb h=>⟨k.froz h,k.oth b h.1 hb⟩,k.size,fun _=>Iff.rfl,fun b hb h=>k.oth b (hR.hidlt b h) hb,k.env⟩
theorem ExtR.andThen {r:Nat} {c c' c2:Cx} (h:ExtR r c c') (e:Ext c' c2):ExtR r c c2 :=
  ⟨fun i hi => e.used i (h.used i hi), fun i hi => (e.mu i (h.used i hi)).trans (h.mu i hi), fun b hb => (e.csz b (Nat.lt_of_lt_of_le hb h.size)).trans (h.csz b hb), fun b hb hf => ⟨(e.froz b (h.froz b hb hf).1).1, (e.froz b (h.froz b hb hf).1).2.trans (h.froz b hb hf).2⟩, Nat.le_trans h.size e.size,
   fun b=>(e.hid b).trans (h.hid b),fun b hb hh=>(e.hidh b ((h.hid b).2 hh)).trans (h.hidh b hb hh),e.env.1.trans h.env.1,e.env.2.1.trans h.env.2.1,e.env.2.2.trans h.env.2.2⟩
theorem ext_un {c0 c c':Cx} {i r mb:Nat} {o:AObj} {hid0:Nat→Prop} (e:Ext c0 (c.un i o hid0)) (hh:∀ b,c.hid b ↔ hid0 b∨b=mb) (hU:c.U i) (hmu:(c.mu i).1=mb) (hr:c0.w.heap.size≤r) (hrh:∀ b,c0.hid b→b ≠ r) (s:ExtR r c c'):Ext c0 (c'.un i o hid0):=by
 refine ⟨fun id hi=>s.used id (e.used id hi),fun id hi=>(s.mu id (e.used id hi)).trans (e.mu id hi),fun b hb=>(s.csz b (Nat.lt_of_lt_of_le hb e.size)).trans (e.csz b hb),fun b hb=>?_,Nat.le_trans e.size s.size,e.hid,fun b hb=>?_,s.env.1.trans e.env.1,s.env.2.1.trans e.env.2.1,s.env.2.2.trans e.env.2.2⟩
 ·obtain ⟨hF,heq⟩:=e.froz b hb
  have hbm:b ≠ mb:=fun hbm=>hF.nm i o (by show upd c.at_ _ i=_;rw [upd1,if_pos rfl]) (hmu.trans hbm.symm)
  have hFc:c.Froz b:=⟨hF.lt,fun id o' hi=>by
   by_cases hid:id=i
   ·subst hid;rw [hmu];exact Ne.symm hbm
   ·exact hF.nm id o' (by show upd c.at_ _ id=_;rw [upd1,if_neg hid];exact hi),fun h=>by
   rcases (hh b).1 h with h|h
   ·exact hF.nh h
   ·exact hbm h⟩
  obtain ⟨h1,h2⟩:=s.froz b (fun hbr=>by have:=hb.1;omega) hFc
  refine ⟨⟨h1.lt,fun id o' hi=>?_,hF.nh⟩,h2.trans heq⟩
  have hi':upd c'.at_ [(i,some o)] id=some o':=hi
  rw [upd1] at hi'
  split at hi'
  ·rename_i hid;subst hid
   show (c'.mu id).1 ≠ b
   rw [s.mu _ hU,hmu];exact Ne.symm hbm
  ·exact h1.nm id o' hi'
 ·exact (s.hidh b (hrh b hb) ((hh b).2 (.inl ((e.hid b).2 hb)))).trans (e.hidh b hb)
theorem ext_init {c0 c:Cx} {i it r:Nat} {o:AObj} {w':World} (e:Ext c0 c) (hR:Rel P c) (hit:∀ j,c0.U j→j ≠ it) (hii:i ≠ it) (hat:c.at_ i=some o) (k:Kept c r w') (hr:r=c.w.heap.size):Ext c0 (((c.wd w').hide i it r).un i o c.hid):=by
 refine ⟨fun id hi=>.inl (e.used id hi),fun id hi=>?_,fun b hb=>(k.csz b (Nat.lt_of_lt_of_le hb e.size)).trans (e.csz b hb),fun b hb=>?_,Nat.le_trans e.size k.size,e.hid,fun b hb=>?_,k.env.1.trans e.env.1,k.env.2.1.trans e.env.2.1,k.env.2.2.trans e.env.2.2⟩
 ·show (if id=it then (r,0) else c.mu id)=_
  rw [if_neg (hit id hi)];exact e.mu id hi
 ·obtain ⟨hF,heq⟩:=e.froz b hb
  have hbr:b ≠ r:=fun h=>by have:=hF.lt;omega
  refine ⟨⟨Nat.lt_of_lt_of_le hF.lt k.size,fun id o' hi=>?_,hF.nh⟩,(k.oth b hF.lt hbr).trans heq⟩
  show (if id=it then (r,0) else c.mu id).1 ≠ b
  by_cases h1:id=it
  ·rw [if_pos h1];exact Ne.symm hbr
  ·rw [if_neg h1]
   have hi':upd (upd c.at_ [(i,none)]) [(i,some o)] id=some o':=hi
   rw [upd1] at hi'
   split at hi'
   ·rename_i h2;subst h2;exact hF.nm _ o hat
   ·rename_i h2
    rw [upd1,if_neg h2] at hi'
    exact hF.nm id o' hi'
 ·have:=(e.hid b).2 hb
  have hlt:=hR.hidlt b this
  exact (k.oth b hlt (by omega)).trans (e.hidh b hb)
theorem An2 {c:Cx} {i it r id:Nat} (hit:¬ c.U it) (hu:c.U id):(c.hide i it r).mu id=c.mu id:=by
 show (if id=it then (r,0) else c.mu id)=_
 rw [if_neg (fun e:id=it=>hit (e▸hu))]
theorem An3 {c:Cx} {i it r:Nat} {o:AObj} (hR:Rel P c) (hat:c.at_ i=some o) (hit:¬ c.U it):ExtW c (c.hide i it r):=by
 refine ⟨fun _ h=>.inl h,fun id hi=>An2 hit hi,fun _ _=>rfl,fun b hb=>⟨⟨hb.lt,fun id o' hi=>?_,fun h=>?_⟩,fun _ _ h=>h⟩,Nat.le_refl _⟩
 ·have hi':upd c.at_ [(i,none)] id=some o':=hi
  rw [upd1] at hi'
  split at hi'
  ·cases hi'
  ·rw [An2 hit (hR.used id o' hi')];exact hb.nm id o' hi'
 ·rcases h with h|h
  ·exact hb.nh h
  ·exact hb.nm i o hat h.symm
theorem Al9 {c c':Cx} {p:Nat × Nat} {o:AObj} (e:ExtW c c') (hb:c'.w.heap[p.1]? = c.w.heap[p.1]?) (h:Aq8 P c p o):Aq8 P c' p o:=by
 cases o with
 | cells cs=>obtain ⟨a,T,h1,h2⟩:=h;exact ⟨a,T,hb.trans h1,h2.imp (fun _ _ h=>⟨h.1.extW e,h.2⟩) fun _ _ h=>h⟩
 | loop=>obtain ⟨fn,tmps,qs,dn,ca,cb,h1,h2,h3⟩:=h;exact ⟨fn,tmps,qs,dn,ca,cb,hb.trans h1,⟨h2.1,h2.2.imp (fun _ _=>RR.extW e) fun _ _ h=>h⟩,h3⟩
 | maps es=>obtain ⟨a,k,h1,h2,h3⟩:=h;exact ⟨a,k,hb.trans h1,h2,fun j kv hj=>let ⟨m,h4,h5,h6⟩:=h3 j kv hj;⟨m,h4,h5.extW e,h6.extW e⟩⟩
theorem hide_rel {c:Cx} {i it r:Nat} {o:AObj} (hR:Rel P c) (hat:c.at_ i=some o) (hit:¬ c.U it):Rel P (c.hide i it r):=by
 have e:=An3 (r:=r) hR hat hit
 have key:∀ id o',(c.hide i it r).at_ id=some o'→id ≠ i∧c.at_ id=some o'∧(c.hide i it r).mu id=c.mu id:=fun id o' hi=>by
  have hi':upd c.at_ [(i,none)] id=some o':=hi
  rw [upd1] at hi'
  split at hi'
  ·cases hi'
  ·rename_i hne;exact ⟨hne,hi',An2 hit (hR.used id o' hi')⟩
 refine ⟨fun id o' hi=>.inl (hR.used id o' (key id o' hi).2.1),fun id id' o1 o2 h1 h2 h3=>?_,fun id o' hi=>?_,?_,fun id o' hi h=>?_,fun b hb=>?_⟩
 ·obtain ⟨_,a1,m1⟩:=key id o1 h1
  obtain ⟨_,a2,m2⟩:=key id' o2 h2
  rw [m1,m2] at h3
  exact hR.inj id id' o1 o2 a1 a2 h3
 ·obtain ⟨_,a1,m1⟩:=key id o' hi
  rw [m1]
  exact Al9 e rfl (hR.obj id o' a1)
 ·obtain ⟨N,hN⟩:=hR.many
  exact ⟨max N (it+1),fun j hj=>by
   rcases hj with hj|hj
   ·have:=hN j hj;omega
   ·omega⟩
 ·obtain ⟨hne,a1,m1⟩:=key id o' hi
  rw [m1] at h
  rcases h with h|h
  ·exact hR.nohid id o' a1 h
  ·exact hne (hR.inj id i o' o a1 hat h)
 ·rcases hb with hb|hb
  ·exact hR.hidlt b hb
  ·rw [hb];exact (hR.obj i o hat).lt
theorem hide_st {B:Nat} {c:Cx} {i it r:Nat} {o:AObj} {fr:List AV} {l:List (Nat × AObj)} {a:Act} (hs:St P G B c fr ⟨(i,o)::l,it⟩ a) (hl:lk l i=none):St P G B (c.hide i it r) fr ⟨l,it+1⟩ a:=by
 have hat:c.at_ i=some o:=by rw [hs.mat.at_];simp [lk]
 have hit:¬ c.U it:=hs.mat.fresh
 have e:=An3 (r:=r) hs.rel hat hit
 refine ⟨hide_rel hs.rel hat hit,fun n cs hn=>(hs.glo n cs hn).extW e,⟨?_,fun j=>?_⟩,⟨hs.fr.1,hs.fr.2.imp (fun _ _=>RR.extW e) fun _ _ h=>h⟩,⟨hs.df.1,fun d hd=>?_⟩,hs.old⟩
 ·funext j
  show upd c.at_ [(i,none)] j=lk l j
  rw [upd1,hs.mat.at_]
  by_cases e:j=i
  ·subst e;rw [if_pos rfl,hl]
  ·rw [if_neg e];simp [lk,e]
 ·show c.U j∨j=it ↔ j < it+1
  rw [hs.mat.U];show j < it∨j=it ↔ _;omega
 ·obtain ⟨q,h1,h0,h2,h3⟩:=hs.df.2 d hd
  exact ⟨q,h1,h0,(e.froz q h2).1,h3⟩
theorem un_extW {c:Cx} {i mb:Nat} {o:AObj} {hid0:Nat→Prop} (hh:∀ b,c.hid b ↔ hid0 b∨b=mb) (hmu:(c.mu i).1=mb):ExtW c (c.un i o hid0):=by
 refine ⟨fun _ h=>h,fun _ _=>rfl,fun _ _=>rfl,fun b hb=>⟨⟨hb.lt,fun id o' hi=>?_,fun h=>hb.nh ((hh b).2 (.inl h))⟩,fun _ _ h=>h⟩,Nat.le_refl _⟩
 have hi':upd c.at_ [(i,some o)] id=some o':=hi
 rw [upd1] at hi'
 split at hi'
 ·rename_i h;subst h
  exact fun h=>hb.nh ((hh b).2 (.inr (h.symm.trans hmu)))
 ·exact hb.nm id o' hi'
theorem un_st {B:Nat} {c:Cx} {i mb nx:Nat} {o:AObj} {hid0:Nat→Prop} {fr:List AV} {l:List (Nat × AObj)} {a:Act} (hs:St P G B c fr ⟨l,nx⟩ a) (hU:c.U i) (hh:∀ b,c.hid b ↔ hid0 b∨b=mb) (hmu:(c.mu i).1=mb) (hn:¬ hid0 mb) (ho:Aq8 P c (c.mu i) o):St P G B (c.un i o hid0) fr ⟨(i,o)::l,nx⟩ a:=by
 have e:=un_extW (o:=o) hh hmu
 have key:∀ id o',(c.un i o hid0).at_ id=some o'→(id=i∧o'=o)∨(id ≠ i∧c.at_ id=some o'∧(c.mu id).1 ≠ mb):=fun id o' hi=>by
  have hi':upd c.at_ [(i,some o)] id=some o':=hi
  rw [upd1] at hi'
  split at hi'
  ·rename_i h;cases hi';exact .inl ⟨h,rfl⟩
  ·rename_i h;exact .inr ⟨h,hi',fun h2=>hs.rel.nohid id o' hi' ((hh _).2 (.inr h2))⟩
 refine ⟨⟨fun id o' hi=>?_,fun id id' o1 o2 h1 h2 h3=>?_,fun id o' hi=>?_,hs.rel.many,fun id o' hi h=>?_,fun b hb=>hs.rel.hidlt b ((hh b).2 (.inl hb))⟩,fun n cs hn=>(hs.glo n cs hn).extW e,⟨?_,hs.mat.U⟩,⟨hs.fr.1,hs.fr.2.imp (fun _ _=>RR.extW e) fun _ _ h=>h⟩,⟨hs.df.1,fun d hd=>?_⟩,hs.old⟩
 ·rcases key id o' hi with ⟨rfl,_⟩ | ⟨_,h,_⟩
  ·exact hU
  ·exact hs.rel.used id o' h
 ·rcases key id o1 h1 with ⟨rfl,_⟩ | ⟨n1,a1,m1⟩<;>rcases key id' o2 h2 with ⟨rfl,_⟩ | ⟨n2,a2,m2⟩
  ·rfl
  ·exact absurd (h3.symm.trans hmu) m2
  ·exact absurd (h3.trans hmu) m1
  ·exact hs.rel.inj id id' o1 o2 a1 a2 h3
 ·rcases key id o' hi with ⟨rfl,rfl⟩ | ⟨_,h,_⟩
  ·exact Al9 e rfl ho
  ·exact Al9 e rfl (hs.rel.obj id o' h)
 ·rcases key id o' hi with ⟨rfl,rfl⟩ | ⟨_,h1,_⟩
  ·rw [show (c.un id o' hid0).mu id=c.mu id from rfl,hmu] at h;exact hn h
  ·exact hs.rel.nohid id o' h1 ((hh _).2 (.inl h))
 ·funext j
  show upd c.at_ [(i,some o)] j=lk ((i,o)::l) j
  rw [upd1,hs.mat.at_]
  rfl
 ·obtain ⟨q,h1,h0,h2,h3⟩:=hs.df.2 d hd
  exact ⟨q,h1,h0,(e.froz q h2).1,h3⟩
theorem St.ext {B:Nat} {c c':Cx} {fr:List AV} {h h':Hp} {a:Act} (hs:St P G B c fr h a) (hr:Rel P c') (hm:Mat c' h') (he:Ext c c'):St P G B c' fr h' a :=
 ⟨hr,hs.glo.ext he,hm,hs.fr.ext he,hs.df.ext he,Nat.le_trans hs.old he.size⟩
theorem St.ren {B N:Nat} {c0 c:Cx} {σ:Nat→Nat} {fr fr':List AV} {h h':Hp} {a:Act} (hs:St P G B c fr h a) (he:Ext c0 c) (hg:AV2 G c0) (hw:Weak P σ fr h fr' h') (hk:Keeps N σ) (hn:N≤h'.next) (hN:∀ i,c0.U i→i < N):St P G B (c.ren σ h') fr' h' a∧Ext c0 (c.ren σ h'):=by
 obtain ⟨w1,w2,w3⟩:=hw c a.tmps hs.rel hs.mat hs.fr
 have e1:=BN6 he hs.mat w3 (fun i hi=>Nat.lt_of_lt_of_le (hN i hi) hn) fun i hi=>hk i (hN i hi)
 have e2:∀ b,c.Froz b→(c.ren σ h').Froz b:=fun b hb=>⟨hb.1,fun i o hi=>by obtain ⟨o',ho'⟩:=w3 i o hi;exact hb.2 (σ i) o' (by rw [hs.mat.at_];exact ho'),hb.3⟩
 refine ⟨⟨w1,hg.ext e1,⟨rfl,fun i=>Iff.rfl⟩,w2,⟨hs.df.1,fun d hd=>?_⟩,hs.old⟩,e1⟩
 obtain ⟨r,k1,k0,k2,k3⟩:=hs.df.2 d hd
 exact ⟨r,k1,k0,e2 r k2,k3⟩
structure KeysC (P:Program) (code:Code) (m dm d11 d12 d13 d14 d15 d4:Nat) (ac4:ACode):Prop where
 ex:∃ (i1 b i2 b2 i3:Nat) (o1 o2 o3 o4 o5 o6 o7:Oper) (c4:Code) (t t2 k e:TypeId),
  code = .seq (.region i1 #[o1,o2] false) (.block b (.loop (.seq (.region i2 #[o3,o4] false) (.seq (.cond (.tmp d13) .skip (.exit b)) (.block b2 (.seq (.region i3 #[o5,o6,o7] false) c4)))))) ∧
  (o1.op = .load t (.tmp m)∧o1.dst=some dm∧o1.guard=none)∧(o2.op = .range t2 (.tmp dm)∧o2.dst=some d11∧o2.guard=none) ∧
  (o3.op = .next (.tmp d11) false∧o3.dst=some d12∧o3.guard=none)∧(o4.op = .extract (.tmp d12) 0∧o4.dst=some d13∧o4.guard=none) ∧
  (o5.op = .entry (.tmp d11)∧o5.dst=some d14∧o5.guard=none)∧(o6.op = .extract (.tmp d14) 0∧o6.dst=some d15∧o6.guard=none)∧(o7.op = .assign (.tmp d15)∧o7.dst=some d4∧o7.guard=none) ∧
  P.underlying t2=some (.map k e)∧cop P (.load t (.tmp m))=some (.load false 1 (.t m))∧u6 P c4=some ac4
structure BP5 (P:Program) (G:Gl) (N n:Nat) (c:Code) (K:Exit→SF→Hp→Prop) (sf:SF) (h:Hp):Prop where
 out:∀ Q:Exit→List AV→Hp→Prop,(∀ e sf hx,K e sf hx→∀ h,Hq h hx→Q e (sd n sf) h)→∀ h1,Hq h1 h→WP P G none N c Q (sd n sf) h1
structure KeyX (P:Program) (N n:Nat) (sf':SF) (h':Hp) (sf:SF) (h:Hp):Prop where
 out:∃ ren:List (Nat × Nat),AU8 N ren=true∧Az6 P ren n sf h sf' h'
def keyK (P:Program) (N n:Nat) (sf':SF) (h':Hp) (e:Exit) (sf:SF) (h:Hp):Prop:=match e with
 | .normal=>KeyX P N n sf' h' sf h
 | _=>False
structure KI (P:Program) (G:Gl) (B:Nat) (c0:Cx) (hid0:Nat→Prop) (i it r mb:Nat) (es:List (AV × AV)) (a0:Array MapEntry) (clock:Nat) (ks:List Int) (n:Nat) (F:List Int→SF) (H:List Int→List (Nat × AObj)) (d11:Nat) (c:Cx) (vis:List Int) (seen:Array Nat) (a:Act):Prop where
 st:St P G B c (sd n ((d11,.ptr it 0)::F vis)) ⟨H vis,it+1⟩ a
 ext:Ext c0 (c.un i (.maps es) hid0)
 hh:∀ b,c.hid b ↔ hid0 b∨b=mb
 U:c.U i
 mui:(c.mu i).1=mb
 muit:c.mu it=(r,0)
 fr:c.Froz r
 hb:c.w.heap[mb]? = some (.map a0 clock)
 hr:∃ since k0,c.w.heap[r]? = some (.mapIter (some mb) since seen k0)∧(∀ x ∈ a0.toList,x.born < since)∧since≤k0∧since≤clock
 sn:∀ x ∈ a0.toList,seen.contains x.born=true ↔ ∃ k ∈ vis,x.key = .int .i64 k
 ents:∀ (j:Nat) (kv:AV × AV),es[j]? = some kv→∃ m:MapEntry,a0[j]? = some m∧RR c kv.1 m.key∧RR c kv.2 m.val
 vis:vis.Nodup∧∀ k ∈ vis,k ∈ ks
theorem AO0 {n d:Nat} {sf:SF} (hd:d < n) (h:AT0 sf d = .undef):(sd n sf)[d]? = some .undef:=by rw [AP0,if_pos hd,h]
theorem BO4 {c:Cx} {es:List (AV × AV)} {a0:Array MapEntry} {ks:List Int} (hks:es.map (·.1)=ks.map (AV.int .i64)) (hl:a0.size=es.length) (he:∀ (j:Nat) (kv:AV × AV),es[j]? = some kv→∃ m:MapEntry,a0[j]? = some m∧RR c kv.1 m.key∧RR c kv.2 m.val) {x:MapEntry} (hx:x ∈ a0.toList):∃ (j:Nat) (k:Int),ks[j]? = some k∧a0[j]? = some x∧x.key = .int .i64 k:=by
 obtain ⟨j,hj⟩:=List.getElem?_of_mem hx
 have hj':a0[j]? = some x:=by simpa using hj
 have hlt:j < es.length:=by rw [← hl];exact (Array.getElem?_eq_some_iff.1 hj').1
 obtain ⟨m,h1,h2,_⟩:=he j es[j] (List.getElem?_eq_getElem hlt)
 rw [hj'] at h1;cases h1
 have h3:(es.map (·.1))[j]? = some es[j].1:=by rw [List.getElem?_map,List.getElem?_eq_getElem hlt];rfl
 rw [hks,List.getElem?_map] at h3
 cases h4:ks[j]? with
 | none=>rw [h4] at h3;cases h3
 | some k =>
  rw [h4] at h3
  have h5:AV.int .i64 k=es[j].1:=Option.some.inj h3
  rw [← h5] at h2
  exact ⟨j,k,h4,hj',RR_int.1 h2⟩
theorem ent_of {c:Cx} {es:List (AV × AV)} {a0:Array MapEntry} {ks:List Int} (hks:es.map (·.1)=ks.map (AV.int .i64)) (he:∀ (j:Nat) (kv:AV × AV),es[j]? = some kv→∃ m:MapEntry,a0[j]? = some m∧RR c kv.1 m.key∧RR c kv.2 m.val) {k:Int} (hk:k ∈ ks):∃ x ∈ a0.toList,x.key = .int .i64 k:=by
 obtain ⟨j,hj⟩:=List.getElem?_of_mem hk
 have h3:(ks.map (AV.int .i64))[j]? = some (.int .i64 k):=by rw [List.getElem?_map,hj];rfl
 rw [← hks,List.getElem?_map] at h3
 cases h4:es[j]? with
 | none=>rw [h4] at h3;cases h3
 | some kv =>
  rw [h4] at h3
  obtain ⟨m,h1,h2,_⟩:=he j kv h4
  have h5:kv.1=AV.int .i64 k:=Option.some.inj h3
  rw [h5] at h2
  exact ⟨m,by rw [← Array.getElem?_toList] at h1;exact List.mem_of_getElem? h1,RR_int.1 h2⟩
theorem ent_same {c:Cx} {es:List (AV × AV)} {a0:Array MapEntry} {ks:List Int} (hks:es.map (·.1)=ks.map (AV.int .i64)) (hnd:ks.Nodup) (hl:a0.size=es.length) (he:∀ (j:Nat) (kv:AV × AV),es[j]? = some kv→∃ m:MapEntry,a0[j]? = some m∧RR c kv.1 m.key∧RR c kv.2 m.val) {x y:MapEntry} (hx:x ∈ a0.toList) (hy:y ∈ a0.toList) (h:x.key=y.key):x=y:=by
 obtain ⟨j,k,h1,h2,h3⟩:=BO4 hks hl he hx
 obtain ⟨j',k',h4,h5,h6⟩:=BO4 hks hl he hy
 rw [h3,h6] at h
 cases h
 have hj:j=j':=by
  obtain ⟨l1,e1⟩:=List.getElem?_eq_some_iff.1 h1
  obtain ⟨l2,e2⟩:=List.getElem?_eq_some_iff.1 h4
  have q:=List.pairwise_iff_getElem.1 hnd
  rcases Nat.lt_trichotomy j j' with h|h|h
  ·exact absurd (e1.trans e2.symm) (q j j' l1 l2 h)
  ·exact h
  ·exact absurd (e2.trans e1.symm) (q j' j l2 l1 h)
 subst hj
 rw [h2] at h5;cases h5;rfl
theorem ent_born {a0:Array MapEntry} (h:(a0.toList.map (·.born)).Nodup) {x y:MapEntry} (hx:x ∈ a0.toList) (hy:y ∈ a0.toList) (e:x.born=y.born):x=y:=by
 obtain ⟨j,hj⟩:=List.getElem?_of_mem hx
 obtain ⟨j',hj'⟩:=List.getElem?_of_mem hy
 obtain ⟨l1,e1⟩:=List.getElem?_eq_some_iff.1 hj
 obtain ⟨l2,e2⟩:=List.getElem?_eq_some_iff.1 hj'
 have q:=List.pairwise_iff_getElem.1 h
 have q1:∀ i1 (h1:i1 < a0.toList.length),(a0.toList.map (·.born))[i1]'(by simpa using h1)=(a0.toList[i1]).born:=fun i1 h1=>List.getElem_map _
 rcases Nat.lt_trichotomy j j' with h|h|h
 ·refine absurd ?_ (q j j' (by simpa using l1) (by simpa using l2) h)
  rw [q1 j l1,q1 j' l2,e1,e2,e]
 ·subst h;rw [← e1,← e2]
 ·refine absurd ?_ (q j' j (by simpa using l2) (by simpa using l1) h)
  rw [q1 j l1,q1 j' l2,e1,e2,e]
theorem keys_w (G9:P.follows .mixedOrders=true) {code:Code} {m dm d11 d12 d13 d14 d15 d4:Nat} {ac4:ACode} (hc:KeysC P code m dm d11 d12 d13 d14 d15 d4 ac4) {n N nx i it pb po:Nat} {sf:SF} {l:List (Nat × AObj)} {cs:List AV} {K:Exit→SF→Hp→Prop} {es:List (AV × AV)} {ks:List Int} (ren:List (Nat × Nat)) (F:List Int→SF) (H:List Int→List (Nat × AObj))
  (hks:es.map (·.1)=ks.map (AV.int .i64)) (hnd:ks.Nodup) (hlt:[m,dm,d11,d12,d13,d14,d15,d4].all (fun d=>Nat.blt d n)=true) (hdis:Ad7 [dm,d11,d12,d13,d14,d15,d4]=true)
  (hm:AT0 sf m = .ptr pb po) (hld:Ae0 (lk l) false 1 (.ptr pb po)=some (.mapr i,cs.map fun _=>0)∨∃ rd,Ae0 (lk l) false 1 (.ptr pb po)=some (.mapr i,rd)) (hl:lk l i=some (.maps es)) (hi:i < N) (hN:N≤it) (hkp:AU8 N ren=true)
  (hF:∀ vis,([dm,d12,d13,d14,d15,d4].all fun d=>match AT0 (F vis) d with | .undef=>true|_=>false)=true) (hF0:AT0 (F []) d11 = .undef) (hH:∀ vis,lk (H vis) i=none)
  (hw:Az6 P ren n sf ⟨l,nx⟩ (F []) ⟨(i,.maps es)::H [],it⟩)
  (hr:∀ vis k,(vis++[k]).Nodup→(∀ x ∈ vis++[k],x ∈ ks)→AD3 P G none (it+1) n ac4 (keyK P (it+1) n ((d11,.ptr it 0)::F (vis++[k])) ⟨H (vis++[k]),it+1⟩) ((d4,.int .i64 k)::(d11,.ptr it 0)::F vis) ⟨H vis,it+1⟩)
  (hf:∀ vis,vis.Perm ks→K .normal ((d11,.ptr it 0)::F vis) ⟨(i,.maps es)::H vis,it+1⟩):BP5 P G N n code K sf ⟨l,nx⟩:=by
 refine ⟨fun Q hQ h1 q B c0 cx a nn hs he hfe hU hg0 hN'=>?_⟩
 obtain ⟨i1,b,i2,b2,i3,o1,o2,o3,o4,o5,o6,o7,c4,t,t2,kt,et,rfl,⟨p1,q1,g1⟩,⟨p2,q2,g2⟩,⟨p3,q3,g3⟩,⟨p4,q4,g4⟩,⟨p5,q5,g5⟩,⟨p6,q6,g6⟩,⟨p7,q7,g7⟩,ht2,hcl,hc4⟩:=hc.ex
 have hld':∃ rd,Ae0 (lk l) false 1 (.ptr pb po)=some (.mapr i,rd):=by rcases hld with h|h;exact ⟨_,h⟩;exact h
 obtain ⟨rd,hld'⟩:=hld'
 simp only [List.all_cons,List.all_nil,Bool.and_true,Bool.and_eq_true,Nat.blt_eq] at hlt
 obtain ⟨lm,ldm,l11,l12,l13,l14,l15,l4⟩:=hlt
 have hF':∀ vis,AT0 (F vis) dm = .undef∧AT0 (F vis) d12 = .undef∧AT0 (F vis) d13 = .undef∧AT0 (F vis) d14 = .undef∧AT0 (F vis) d15 = .undef∧AT0 (F vis) d4 = .undef:=fun vis=>by
  have:=hF vis
  simp only [List.all_cons,List.all_nil,Bool.and_true,Bool.and_eq_true] at this
  have key:∀ d,(match AT0 (F vis) d with | .undef=>true|_=>false)=true→AT0 (F vis) d = .undef:=fun d h=>by
   split at h
   ·assumption
   ·cases h
  obtain ⟨k1,k2,k3,k4,k5,k6⟩:=this
  exact ⟨key _ k1,key _ k2,key _ k3,key _ k4,key _ k5,key _ k6⟩
 -- the first region
 refine wpIn_seq (wpIn_region ?_)
 show wpOpsIn (fence c0 none) nn P #[o1,o2] _ [0,1] a cx.w
 refine AH4 (o:=o1) rfl g1 (Ac4 (c:=cx) (rd:=none) (K:=fun v h'=>v = .mapr i∧h'.l=h1.l∧h'.next=h1.next) (by rw [p1];exact hcl) hs ?_ fun v val c1 h2 ⟨hv,hh1,hh2⟩ hx hR1 hm1 e1=>?_)
 ·refine ⟨.mapr i,[],rd,?_,rfl,rfl,?_⟩
  ·have e:ax G (sd n sf) (.t m)=some (.ptr pb po):=by show (sd n sf)[m]? = _;rw [AP0,if_pos lm,hm]
   simp only [G7,e,q.lk,hld']
  ·simp [Hp.app,AR6]
 subst hv
 obtain ⟨hUi,rfl⟩:=AK6.1 hx
 have hm1':Mat c1 ⟨l,nx⟩:=⟨by rw [hm1.at_,hh1,q.lk],fun j=>by rw [hm1.U,hh2,q.next]⟩
 have s1:St P G B c1 (sd n sf) ⟨l,nx⟩ a:=hs.ext hR1 hm1' e1
 have hat1:c1.at_ i=some (.maps es):=by rw [hm1'.at_];exact hl
 obtain ⟨s2,e2⟩:=s1.ren (he.trans e1) hg0 hw.out (AO3 hkp) hN hN'
 rw [q1]
 obtain ⟨mb,hmb⟩:∃ mb,mb=(c1.mu i).1:=⟨_,rfl⟩
 rw [← hmb]
 have hits:(rn ren) i=i:=AO3 hkp i hi
 have hmu2:((c1.ren (rn ren) ⟨(i,.maps es)::H [],it⟩).mu i).1=mb:=by show (c1.mu ((rn ren) i)).1=mb;rw [hits,hmb]
 have hw2:(c1.ren (rn ren) ⟨(i,.maps es)::H [],it⟩).w=c1.w:=rfl
 rw [← hw2]
 generalize c1.ren (rn ren) ⟨(i,.maps es)::H [],it⟩=c2 at s2 e2 hmu2 hw2 ⊢
 have hat2:c2.at_ i=some (.maps es):=by rw [s2.mat.at_];simp [lk]
 have hU2:c2.U i:=s2.rel.used i _ hat2
 obtain ⟨a0,clock,hb0,⟨hsz0,hst0⟩,hen0⟩:=s2.rel.obj i _ hat2
 rw [hmu2] at hb0
 have htm:a.tmps.size=n:=by rw [s2.fr.1];simp [sd]
 have ev1:(a.put (some dm) (.map (some mb))).eval (.tmp dm) = .map (some mb):=by rw [AO8 (by omega),if_pos rfl]
 have hrange:=run_range_map (P:=P) c2.w t2 kt et mb a0 clock ht2 hb0
 refine AH4 (o:=o2) rfl g2 (AL3 (c:=cx) (v:=.pointer (some ⟨c2.w.heap.size,0,none⟩)) (w':=c2.w.alloc (.mapIter (some mb) clock #[] clock)) (fun k h=>by rw [p2] at h;cases h) (by simp [execOp,p2,ev1,hrange,Result.andThen]) ?_)
 rw [q2]
 obtain ⟨r,hr0⟩:∃ r,r=c2.w.heap.size:=⟨_,rfl⟩
 rw [← hr0]
 have hal:=MapKept.heap_alloc c2.w (.mapIter (some mb) clock #[] clock)
 have kp:Kept c2 r (c2.w.alloc (.mapIter (some mb) clock #[] clock)):=⟨by simp,fun b' hb' hne=>hal.2 b' hb',fun h=>by omega,fun id o hid h=>by have:=(s2.rel.obj id o hid).lt;omega,⟨rfl,rfl,rfl⟩⟩
 have hiit:i ≠ it:=by omega
 have e3:=ext_init (it:=it) e2 s2.rel (fun j hj h=>by have:=hN' j hj;omega) hiit hat2 kp hr0
 have s3:=kp.st s2
 have hlkH:=hH []
 have s4:=hide_st (r:=r) s3 hlkH
 have hkk:(c2.wd (c2.w.alloc (.mapIter (some mb) clock #[] clock))).w=c2.w.alloc (.mapIter (some mb) clock #[] clock):=rfl
 have hat3:(c2.wd (c2.w.alloc (.mapIter (some mb) clock #[] clock))).at_ i=some (.maps es):=hat2
 have hnit:¬ (c2.wd (c2.w.alloc (.mapIter (some mb) clock #[] clock))).U it:=s3.mat.fresh
 have hex:=An3 (r:=r) s3.rel hat3 hnit
 obtain ⟨c4',hc4'⟩:∃ c4',c4'=(c2.wd (c2.w.alloc (.mapIter (some mb) clock #[] clock))).hide i it r:=⟨_,rfl⟩
 rw [← hc4'] at e3 s4 hex
 have hidx:∀ b',c2.hid b'→b' ≠ r:=fun b' h1 h2=>by have:=s2.rel.hidlt b' h1;omega
 have mulit:c4'.mu it=(r,0):=by rw [hc4'];show (if it=it then (r,0) else _)=_;rw [if_pos rfl]
 have hws:c4'.w=c2.w.alloc (.mapIter (some mb) clock #[] clock):=by rw [hc4'];rfl
 have hmbr:mb ≠ r:=fun h=>by have:=(Array.getElem?_eq_some_iff.1 hb0).1;omega
 have hmu4:(c4'.mu i).1=mb:=by rw [hc4',An2 hnit hU2];exact hmu2
 have ki0:KI P G B c0 c2.hid i it r mb es a0 clock ks n F H d11 c4' [] #[] ((a.put (some dm) (.map (some mb))).put (some d11) (.pointer (some ⟨r,0,none⟩))):=by
  have s5:=s4.undef (d:=dm) (v:=.map (some mb)) (AO0 ldm (hF' []).1)
  have s6:=s5.setv (d:=d11) (x:=.ptr it 0) (v:=.pointer (some ⟨r,0,none⟩)) (AC9.2 ⟨by rw [hc4'];exact .inr rfl,by rw [mulit]⟩)
  rw [BQ6] at s6
  refine ⟨s6,e3,fun b'=>?_,by rw [hc4'];exact .inl hU2,hmu4,mulit,⟨by rw [hws,World.alloc];simp;omega,fun id o hid h=>?_,fun h=>?_⟩,by rw [hws,← hb0];exact hal.2 mb (Array.getElem?_eq_some_iff.1 hb0).1,⟨clock,clock,by rw [hws,hr0];exact hal.1,hst0.1,Nat.le_refl _,Nat.le_refl _⟩,fun x _=>?_,fun j kv hj=>?_,List.nodup_nil,fun k hk=>by cases hk⟩
  ·rw [hc4',← hmu2];exact Iff.rfl
  ·rw [hc4'] at hid h
   have hid':upd c2.at_ [(i,none)] id=some o:=hid
   rw [upd1] at hid'
   split at hid'
   ·cases hid'
   ·rw [An2 hnit (s2.rel.used id o hid')] at h
    exact kp.nm id o hid' h
  ·rw [hc4'] at h
   rcases h with h|h
   ·exact hidx r h rfl
   ·exact hmbr (hmu2.symm.trans h.symm)
  ·simp
  ·obtain ⟨m',h5,h6,h7⟩:=hen0 j kv hj
   exact ⟨m',h5,(h6.extW kp.extW).extW hex,(h7.extW kp.extW).extW hex⟩
 -- the loop
 show (Code.block b _).wpIn _ nn P _ _ _
 refine wpIn_block ?_
 have hw4:c2.w.alloc (.mapIter (some mb) clock #[] clock)=c4'.w:=hws.symm
 rw [hw4]
 refine AX7 (ι:=Cx × List Int × Array Nat) (fun j a w=>j.1.w=w∧KI P G B c0 c2.hid i it r mb es a0 clock ks n F H d11 j.1 j.2.1 j.2.2 a) (fun j=>(leftOf a0 j.2.2).size) (c4',[],#[]) ⟨rfl,ki0⟩ ?_
 clear ki0 hws hmu4 mulit hex s4 e3 hc4' hkk hat3 hnit s3 hw4
 rintro ⟨c,vis,seen⟩ ar w ⟨rfl,ki⟩
 dsimp only at ki ⊢
 obtain ⟨since,k0,hr1,hr2,hr3,hr4⟩:=ki.hr
 have hta:ar.tmps.size=n:=by rw [ki.st.fr.1];simp [sd]
 have hev:ar.eval (.tmp d11) = .pointer (some ⟨r,0,none⟩):=by
  obtain ⟨u,hu,hx⟩:=ki.st.fr.2 d11 (.ptr it 0) (by rw [AP0,if_pos l11,w9,if_pos rfl])
  have hu':ar.tmps[d11]? = some u:=hu
  obtain ⟨_,hv⟩:=AC9.1 hx
  rw [ki.muit] at hv
  show ar.tmps.getD d11 undef=_
  rw [Array.getD_eq_getD_getElem?,hu',hv]
  rfl
 refine wpIn_seq (wpIn_region ?_)
 show wpOpsIn (fence c0 none) nn P #[o3,o4] _ [0,1] ar c.w
 rcases run_next_at (P:=P) c.w o3.type r mb since k0 seen a0 clock hr1 ki.hb hr2 hr3 with ⟨h0,hrun⟩ | ⟨x,hx,w1,hal,hrun⟩
 ·-- nothing is left
  refine AH4 (o:=o3) rfl g3 (AL3 (c:=cx) (v:=.tuple #[.bool false]) (w':=c.w) (fun k h=>by rw [p3] at h;cases h) (by simp [execOp,p3,hev,hrun,Result.andThen]) ?_)
  rw [q3]
  have ev2:(ar.put (some d12) (.tuple #[.bool false])).eval (.tmp d12) = .tuple #[.bool false]:=by rw [AO8 (by omega),if_pos rfl]
  refine AH4 (o:=o4) rfl g4 (AL3 (c:=cx) (v:=.bool false) (w':=c.w) (fun k h=>by rw [p4] at h;cases h) (by simp [execOp,p4,ev2,Instr.extract]) ?_)
  rw [q4]
  show (Code.seq _ _).wpIn _ nn P _ _ _
  refine wpIn_seq (wpIn_cond_false (by rw [AO8 (by rw [AU0];omega),if_pos rfl]) (wpIn_exit ?_))
  show Exit.inBlock b _ (.exit b) _ _
  simp only [Exit.inBlock,if_true]
  have hall:=all_seen a0 seen h0
  have hperm:vis.Perm ks:=(List.perm_ext_iff_of_nodup ki.vis.1 hnd).2 fun k=>⟨ki.vis.2 k,fun hk=>by
   obtain ⟨y,hy,hyk⟩:=ent_of hks ki.ents hk
   obtain ⟨k',hk',h2⟩:=(ki.sn y hy).1 (hall y hy)
   rw [hyk] at h2;cases h2;exact hk'⟩
  have hne12:d12 ≠ d11∧d13 ≠ d11:=by simp [Ad7] at hdis;omega
  have s5:=(ki.st.undef (d:=d12) (v:=.tuple #[.bool false]) (AO0 l12 (by rw [w9,if_neg (Ne.symm hne12.1)];exact (hF' vis).2.1))).undef (d:=d13) (v:=.bool false) (AO0 l13 (by rw [w9,if_neg (Ne.symm hne12.2)];exact (hF' vis).2.2.1))
  have hmb0:¬ c2.hid mb:=by rw [← hmu2];exact s2.rel.nohid i _ hat2
  have s6:=un_st (o:=.maps es) (hid0:=c2.hid) s5 ki.U ki.hh ki.mui hmb0 ⟨a0,clock,by rw [ki.mui];exact ki.hb,⟨hsz0,hst0⟩,ki.ents⟩
  exact ⟨c.un i (.maps es) c2.hid,_,_,rfl,hQ _ _ _ (hf vis hperm) _ .refl,s6,ki.ext⟩
 ·-- a key has come
  obtain ⟨hxm,hxs⟩:=mem_left hx
  obtain ⟨jx,k,hjk,hjx,hkey⟩:=BO4 hks hsz0 ki.ents hxm
  have hrl:r < c.w.heap.size:=(Array.getElem?_eq_some_iff.1 hr1).1
  have hw1:w1.heap=c.w.heap∧w1.os=c.w.os∧w1.tape=c.w.tape∧w1.output=c.w.output:=by rcases hal with rfl|rfl<;>exact ⟨rfl,rfl,rfl,rfl⟩
  obtain ⟨w',hw'⟩:∃ w',w'=setBlock w1 r (.mapIter (some mb) since (seen.push x.born) clock):=⟨_,rfl⟩
  rw [← hw'] at hrun
  have hwr:w'.heap[r]? = some (.mapIter (some mb) since (seen.push x.born) clock):=by
   rw [hw']
   show (w1.heap.setIfInBounds r _)[r]? = _
   rw [Array.getElem?_setIfInBounds,if_pos rfl,hw1.1,if_pos hrl]
  have hwo:∀ b',b' ≠ r→w'.heap[b']? = c.w.heap[b']?:=fun b' hb'=>by
   rw [hw']
   show (w1.heap.setIfInBounds r _)[b']? = _
   rw [Array.getElem?_setIfInBounds_ne (Ne.symm hb'),hw1.1]
  have hws':w'.heap.size=c.w.heap.size:=by rw [hw'];show (w1.heap.setIfInBounds r _).size=_;simp [hw1.1]
  have kp':Kept c r w':=⟨by omega,fun b' _ h=>hwo b' h,fun _=>⟨⟨_,_,_,_,hr1⟩,_,_,_,_,hwr⟩,ki.fr.nm,by rw [hw'];exact hw1.2⟩
  refine AH4 (o:=o3) rfl g3 (AL3 (c:=cx) (v:=.tuple #[.bool true,x.key,x.val]) (w':=w') (fun k h=>by rw [p3] at h;cases h) (by simp [execOp,p3,hev,hrun,Result.andThen]) ?_)
  rw [q3]
  have ev2:(ar.put (some d12) (.tuple #[.bool true,x.key,x.val])).eval (.tmp d12) = .tuple #[.bool true,x.key,x.val]:=by rw [AO8 (by omega),if_pos rfl]
  refine AH4 (o:=o4) rfl g4 (AL3 (c:=cx) (v:=.bool true) (w':=w') (fun k h=>by rw [p4] at h;cases h) (by simp [execOp,p4,ev2,Instr.extract]) ?_)
  rw [q4]
  show (Code.seq _ _).wpIn _ nn P _ _ _
  have hne:d12 ≠ d11∧d13 ≠ d11∧d14 ≠ d11∧d15 ≠ d11∧d15 ≠ d14∧d12 ≠ d14∧d13 ≠ d12∧d4 ≠ d15∧d4 ≠ d11:=by simp [Ad7] at hdis;omega
  refine wpIn_seq (wpIn_cond_true (by rw [AO8 (by rw [AU0];omega),if_pos rfl]) (wpIn_skip ?_))
  show (Code.block b2 _).wpIn _ nn P _ _ _
  refine wpIn_block (wpIn_seq (wpIn_region ?_))
  show wpOpsIn (fence c0 none) nn P #[o5,o6,o7] _ [0,1,2] _ w'
  have s7:=kp'.st ki.st
  have s8:=(s7.undef (d:=d12) (v:=.tuple #[.bool true,x.key,x.val]) (AO0 l12 (by rw [w9,if_neg (Ne.symm hne.1)];exact (hF' vis).2.1))).undef (d:=d13) (v:=.bool true) (AO0 l13 (by rw [w9,if_neg (Ne.symm hne.2.1)];exact (hF' vis).2.2.1))
  obtain ⟨a5,ha5⟩:∃ a5,a5=(ar.put (some d12) (.tuple #[.bool true,x.key,x.val])).put (some d13) (.bool true):=⟨_,rfl⟩
  have hev5:a5.eval (.tmp d11) = .pointer (some ⟨r,0,none⟩):=by rw [ha5,AO8 (by rw [AU0];omega),if_neg hne.2.1,AO8 (by omega),if_neg hne.1,hev]
  have ht5:a5.tmps.size=n:=by rw [ha5,AU0,AU0,hta]
  rw [← ha5] at s8 ⊢
  have hbm':w'.heap[mb]? = some (.map a0 clock):=(hwo mb hmbr).trans ki.hb
  have hent:=run_entry_at (P:=P) w' r mb since seen a0 clock x hwr hbm' hxm hst0.2
  refine AH4 (o:=o5) rfl g5 (AL3 (c:=cx) (v:=.tuple #[x.key,x.val]) (w':=w') (fun k h=>by rw [p5] at h;cases h) (by simp [execOp,p5,hev5,hent,Result.andThen]) ?_)
  rw [q5]
  have ev6:(a5.put (some d14) (.tuple #[x.key,x.val])).eval (.tmp d14) = .tuple #[x.key,x.val]:=by rw [AO8 (by omega),if_pos rfl]
  refine AH4 (o:=o6) rfl g6 (AL3 (c:=cx) (v:=x.key) (w':=w') (fun k h=>by rw [p6] at h;cases h) (by simp [execOp,p6,ev6,Instr.extract]) ?_)
  rw [q6]
  have ev7:((a5.put (some d14) (.tuple #[x.key,x.val])).put (some d15) x.key).eval (.tmp d15)=x.key:=by rw [AO8 (by rw [AU0];omega),if_pos rfl]
  refine AH4 (o:=o7) rfl g7 (AL3 (c:=cx) (v:=x.key) (w':=w') (fun k h=>by rw [p7] at h;cases h) (by simp [execOp,p7,ev7]) ?_)
  rw [q7]
  have s9:=((s8.undef (d:=d14) (v:=.tuple #[x.key,x.val]) (AO0 l14 (by rw [w9,if_neg (Ne.symm hne.2.2.1)];exact (hF' vis).2.2.2.1))).undef (d:=d15) (v:=x.key) (AO0 l15 (by rw [w9,if_neg (Ne.symm hne.2.2.2.1)];exact (hF' vis).2.2.2.2.1))).setv (d:=d4) (x:=.int .i64 k) (v:=x.key) (RR_int.2 hkey)
  rw [BQ6] at s9
  obtain ⟨a9,ha9⟩:∃ a9,a9=((a5.put (some d14) (.tuple #[x.key,x.val])).put (some d15) x.key).put (some d4) x.key:=⟨_,rfl⟩
  rw [← ha9] at s9 ⊢
  have hknew:k ∉ vis:=fun hk=>by
   have:=(ki.sn x hxm).2 ⟨k,hk,hkey⟩
   rw [hxs] at this;cases this
  have hvis':(vis++[k]).Nodup∧∀ y ∈ vis++[k],y ∈ ks:=⟨by
   rw [List.nodup_append]
   exact ⟨ki.vis.1,by simp,fun y hy z hz h=>by simp at hz;subst hz;exact hknew (h▸hy)⟩,fun y hy=>by
   rcases List.mem_append.1 hy with hy|hy
   ·exact ki.vis.2 y hy
   ·simp at hy;subst hy;exact List.mem_of_getElem? hjk⟩
  have hround:=hr vis k hvis'.1 hvis'.2
  show c4.wpIn (fence c0 none) nn P _ a9 w'
  have hwp:=AP8 G9 c4 ac4 hc4 none (it+1) _ _ _ (hround.out (fun e fr h=>∃ sf hx,keyK P (it+1) n ((d11,.ptr it 0)::F (vis++[k])) ⟨H (vis++[k]),it+1⟩ e sf hx∧Hq h hx∧fr=sd n sf) (fun e sf hx hk h q=>⟨sf,hx,hk,q,rfl⟩) _ .refl) B (c.wd w') (c.wd w') a9 nn s9 (Ext.refl _) rfl (fun l hl=>by cases hl) s9.glo fun j hj=>(s9.mat.U j).1 hj
  refine wpIn_mono hwp ?_
  rintro e a3 w3 ⟨c3,fr3,h3,rfl,⟨sf3,hx3,hk3,q3',rfl⟩,st3,e3'⟩
  cases e<;>try exact hk3.elim
  obtain ⟨ren',hkp',hwk⟩:=hk3.out
  obtain ⟨s10,e10⟩:=st3.ren (N:=it+1) e3' s9.glo (q3'.weak hwk.out) (AO3 hkp') (Nat.le_refl _) fun j hj=>(s9.mat.U j).1 hj
  show ∃ j,_∧_
  refine ⟨(c3.ren (rn ren') ⟨H (vis++[k]),it+1⟩,vis++[k],seen.push x.born),⟨rfl,?_⟩,left_shrinks a0 seen x hx⟩
  dsimp only
  generalize c3.ren (rn ren') ⟨H (vis++[k]),it+1⟩=c6 at s10 e10
  have hxr:=(kp'.extR ki.st.rel).andThen e10
  have hfr:=e10.froz r (kp'.froz ki.fr)
  have hidmb:(c.wd w').hid mb:=(ki.hh mb).2 (.inr rfl)
  refine ⟨s10,ext_un ki.ext ki.hh ki.U ki.mui (by have:=e2.size;omega) (fun b' hb'=>hidx b' ((e2.hid b').2 hb')) hxr,fun b'=>(e10.hid b').trans (ki.hh b'),e10.used i ki.U,by rw [e10.mu i ki.U];exact ki.mui,by rw [e10.mu it (s9.mat.U it |>.2 (Nat.lt_succ_self it))];exact ki.muit,hfr.1,(e10.hidh mb hidmb).trans hbm',⟨since,clock,hfr.2.trans hwr,hr2,hr4,hr4⟩,fun y hy=>?_,fun j kv hj=>?_,hvis'⟩
  ·rw [contains_push]
   constructor
   ·intro h
    rcases Bool.or_eq_true_iff.1 h with h|h
    ·obtain ⟨k',h1,h2⟩:=(ki.sn y hy).1 h
     exact ⟨k',List.mem_append_left _ h1,h2⟩
    ·have hb:=eq_of_beq h
     have : y=x:=ent_born hst0.2 hy hxm hb
     subst this
     exact ⟨k,by simp,hkey⟩
   ·rintro ⟨k',h1,h2⟩
    rcases List.mem_append.1 h1 with h1|h1
    ·rw [(ki.sn y hy).2 ⟨k',h1,h2⟩];rfl
    ·simp at h1;subst h1
     have : y=x:=ent_same hks hnd hsz0 ki.ents hy hxm (h2.trans hkey.symm)
     subst this
     simp
  ·obtain ⟨m',h5,h6,h7⟩:=ki.ents j kv hj
   exact ⟨m',h5,(h6.extW kp'.extW).ext e10,(h7.extW kp'.extW).ext e10⟩
theorem BW4 (G9:P.follows .mixedOrders=true) {N n:Nat} {c:Code} {ac:ACode} {K:Exit→SF→Hp→Prop} {sf:SF} {h:Hp} (hc:u6 P c=some ac) (hw:AD3 P G none N n ac K sf h):BP5 P G N n c K sf h :=
 ⟨fun Q hQ h1 q=>AP8 G9 c ac hc none N Q _ _ (hw.out Q hQ h1 q)⟩
theorem BG6 {N n:Nat} {x y:Code} {K:Exit→SF→Hp→Prop} {sf:SF} {h:Hp} (hw:BP5 P G N n x (thenK (BP5 P G N n y K) K) sf h):BP5 P G N n (.seq x y) K sf h:=by
 refine ⟨fun Q hQ h1 q=>?_⟩
 have hx:=hw.out (thenQ (fun fr h=>WP P G none N y Q fr h) Q) (fun e sf' hx hk h' q'=>by
  cases e<;>first|exact hk.out Q hQ h' q'|exact hQ _ _ _ hk _ q') h1 q
 intro B c0 cx a nn hs he hf hU hg0 hN
 refine wpIn_seq (wpIn_mono (hx B c0 cx a nn hs he hf hU hg0 hN) ?_)
 rintro e a' w' ⟨c',fr',h',rfl,hq,hs',he'⟩
 cases e<;>try exact ⟨c',fr',h',rfl,hq,hs',he'⟩
 exact hq B c0 c' a' nn hs' he' (AR8 he' hU) hU hg0 hN
structure KeysX (P:Program) (G:Gl) (N n m dm d11 d12 d13 d14 d15 d4:Nat) (ac4:ACode) (K:Exit→SF→Hp→Prop) (sf:SF) (h:Hp):Prop where
 out:∀ ck,KeysC P ck m dm d11 d12 d13 d14 d15 d4 ac4→BP5 P G N n ck K sf h
structure BodyS (P:Program) (f:Nat) (a0:ACode) (m dm d11 d12 d13 d14 d15 d4:Nat) (ac4 a1:ACode) (rs:List ARes) (n:Nat):Prop where
 ok:fnOk P f=true
 ex:∃ fn c0 ck c1,P.funcs[f]? = some fn∧fn.body=some (.seq c0 (.seq ck c1))∧u6 P c0=some a0∧KeysC P ck m dm d11 d12 d13 d14 d15 d4 ac4∧u6 P c1=some a1∧fn.results.toList.mapM (cres P)=some rs∧fn.ntmps=n
theorem BK5 {rd:Option Nat} {n g n' nx m dm d11 d12 d13 d14 d15 d4:Nat} {fs cs:List AV} {ps:List Nat} {as bd a0 ac4 a1:ACode} {rs:List ARes} {K:Exit→SF→Hp→Prop} {sf:SF} {l:List (Nat × AObj)} (G9:P.follows .mixedOrders=true) (hb:BodyS P g a0 m dm d11 d12 d13 d14 d15 d4 ac4 a1 rs n') (hn:Nat.ble (fs++[AV.yld nx]++cs).length n'=true) (hin:inLoop ⟨l,nx⟩ rd)
  (hw:∀ frl asl bdl,frl=sd n sf→asl=as→bdl=bd→BO2 0 (fs++[AV.yld nx]++cs) fun sf'=>AD3 P G none (nx+1) n' a0 (thenK (KeysX P G (nx+1) n' m dm d11 d12 d13 d14 d15 d4 ac4 (thenK (AD3 P G none (nx+1) n' a1 (endK n' false P rs (nx+1) fun _ h2=>RgX nx n sf K h2)) (endK n' false P rs (nx+1) fun _ h2=>RgX nx n sf K h2))) (endK n' false P rs (nx+1) fun _ h2=>RgX nx n sf K h2)) sf' ⟨(nx,.loop .ready none frl ps asl bdl)::l,nx+1⟩):RangeX P G rd n (.fn g fs cs) ps as bd K sf ⟨l,nx⟩:=by
 refine ⟨g,fs,cs,rfl,hb.ok,hin,fun Q hQ=>?_⟩
 intro c u vs hR hG hm hu hargs
 obtain ⟨vf,vc,rfl,h1,h2⟩:=AS6.1 hu
 obtain ⟨fn,c0,ck,c1,k1,k2,k3,k4,k5,k6,rfl⟩:=hb.ex
 refine ⟨_,_,AE1 hb.ok c.w,BW7 k1 k2 k6 ?_ hR hG hm (AA8 (AA8 h1 hargs) h2)⟩
 rw [Ak9 (Nat.le_of_ble_eq_true hn)]
 have hx:=AI9 (hw _ _ _ rfl rfl rfl)
 have hW:BP5 P G (nx+1) fn.ntmps (.seq c0 (.seq ck c1)) (endK fn.ntmps false P rs (nx+1) fun _ h2=>RgX nx n sf K h2) (BO3 0 (fs++[AV.yld nx]++cs)) ⟨(nx,.loop .ready none (sd n sf) ps as bd)::l,nx+1⟩:=by
  refine BG6 (BW4 G9 k3 ⟨fun Q hQ h1 q=>hx.out Q (fun e sf' h' hk=>hQ e sf' h' ?_) h1 q⟩)
  cases e<;>try exact hk
  refine BG6 ?_
  have hk1:=hk.out ck k4
  refine ⟨fun Q hQ h1 q=>hk1.out Q (fun e sf' h' hk=>hQ e sf' h' ?_) h1 q⟩
  cases e<;>try exact hk
  exact BW4 G9 k5 hk
 exact hW.out _ (fun e sf' hx hk h q=>AS0 (Ao6 (fun v h' hk=>hk.out Q hQ h' .refl) hk) q) _ .refl
end
end Go.Am
namespace Go.Pol
open Go.Am
section
variable {β:Type}
def mgI:List (Int × β)→Int→Option β
 | [],_=>none
 | e::r,k=>if k=e.1 then some e.2 else mgI r k
def mpI:List (Int × β)→Int→β→List (Int × β)
 | [],k,v=>[(k,v)]
 | e::r,k,v=>if k=e.1 then (k,v)::r else e::mpI r k v
def mdI:List (Int × β)→Int→List (Int × β)
 | [], _ => []
 | e::r,k=>if k=e.1 then r else e::mdI r k
@[irreducible] def encW (enc:β→AV) (L:List (Int × β)):List (AV × AV):=L.map fun e=>(.int .i64 e.1,enc e.2)
def ndI (L:List (Int × β)):Prop:=(L.map (·.1)).Nodup
theorem Y1 {enc:β→AV}:encW enc []=[]:=by unfold encW;rfl
theorem Aa9 {enc:β→AV} {e:Int × β} {L:List (Int × β)}:encW enc (e::L)=(.int .i64 e.1,enc e.2)::encW enc L:=by unfold encW;rfl
theorem enc_len {enc:β→AV} {L:List (Int × β)}:(encW enc L).length=L.length:=by unfold encW;simp
theorem Ay0 {enc:β→AV} {L:List (Int × β)}:(encW enc L).map (·.1)=(L.map (·.1)).map (AV.int .i64):=by unfold encW;simp [Function.comp_def]
theorem E5 {enc:β→AV} (h:∀ b,Plain (enc b)) {L:List (Int × β)}:∀ e ∈ encW enc L,Plain e.1∧Plain e.2:=fun e he=>by
 unfold encW at he
 obtain ⟨x,_,rfl⟩:=List.mem_map.1 he
 exact ⟨A8,h _⟩
theorem mf_i (enc:β→AV) (k:Int):∀ L:List (Int × β),∃ o,AO1 false [0] [.int .i64 k] (encW enc L)=some o∧(∀ z,Aw1 z (encW enc L) o=match mgI L k with|some v=>enc v|none=>z)∧o.isSome=(mgI L k).isSome∧(∀ v,mputV (encW enc L) o (.int .i64 k) (enc v)=encW enc (mpI L k v))∧mcutV (encW enc L) o=encW enc (mdI L k)
 | []=>⟨none,by rw [Y1];rfl,fun z=>rfl,rfl,fun v=>by rw [Y1];unfold mpI;rw [Aa9,Y1];rfl,by rw [Y1];unfold mdI;rw [Y1];rfl⟩
 | e::L=>by
  rw [Aa9]
  by_cases h:k=e.1
  ·refine ⟨some 0,?_,fun z=>?_,?_,fun v=>?_,?_⟩
   ·simp [AO1,BU7,eqL,eq1,h]
   ·simp [Aw1,mgI,h]
   ·simp [mgI,h]
   ·simp only [mpI,if_pos h,Aa9];rfl
   ·simp only [mdI,if_pos h];rfl
  ·obtain ⟨o,h1,h2,h3,h4,h5⟩:=mf_i enc k L
   refine ⟨o.map (· + 1),?_,fun z=>?_,?_,fun v=>?_,?_⟩
   ·have hb:(k == e.1)=false:=by simp [h]
    simp [AO1,BU7,eqL,eq1,hb,h1]
   ·have:=h2 z
    cases o<;>simp [Aw1,mgI,h] at this ⊢<;>exact this
   ·simp only [mgI,if_neg h];rw [← h3];cases o<;>rfl
   ·have:=h4 v
    simp only [mpI,if_neg h,Aa9]
    cases o<;>simp [mputV] at this ⊢<;>exact this
   ·simp only [mdI,if_neg h,Aa9]
    cases o<;>simp [mcutV] at h5 ⊢<;>exact h5
section
variable {enc:β→AV} {L L':List (Int × β)} {k':Int} {v:β} {l:List (Nat × AObj)} {i:Nat} {y z:AV} {K:AV→Up→List Nat→Prop}
theorem AC5 (hg:mgI L k'=some v) (h1:lk l i=some (.maps (encW enc L))) (hk:K (.tup [enc v,.bool true]) [] [i]):Ah1 l true false [0] z (.mapr i) (.int .i64 k') K:=by
 obtain ⟨o,a1,a2,a3,-⟩:=mf_i enc k' L
 refine ⟨_,_,by rw [AU7,Ae1 h1 rfl rfl a1];rfl,?_⟩
 have:=a2 z
 rw [hg] at this a3
 simp only [if_true,this,a3,Option.isSome_some];exact hk
theorem AH5 (hg:mgI L k'=none) (h1:lk l i=some (.maps (encW enc L))) (hk:K (.tup [z,.bool false]) [] [i]):Ah1 l true false [0] z (.mapr i) (.int .i64 k') K:=by
 obtain ⟨o,a1,a2,a3,-⟩:=mf_i enc k' L
 refine ⟨_,_,by rw [AU7,Ae1 h1 rfl rfl a1];rfl,?_⟩
 have:=a2 z
 rw [hg] at this a3
 simp only [if_true,this,a3,Option.isSome_none];exact hk
theorem AC4 (hg:mgI L k'=some v) (h1:lk l i=some (.maps (encW enc L))) (hk:K (enc v) [] [i]):Ah1 l false false [0] z (.mapr i) (.int .i64 k') K:=by
 obtain ⟨o,a1,a2,-⟩:=mf_i enc k' L
 refine ⟨_,_,by rw [AU7,Ae1 h1 rfl rfl a1];rfl,?_⟩
 have:=a2 z
 rw [hg] at this
 simp only [Bool.false_eq_true,if_false,this];exact hk
theorem Am2 (hg:mgI L k'=none) (h1:lk l i=some (.maps (encW enc L))) (hk:K z [] [i]):Ah1 l false false [0] z (.mapr i) (.int .i64 k') K:=by
 obtain ⟨o,a1,a2,-⟩:=mf_i enc k' L
 refine ⟨_,_,by rw [AU7,Ae1 h1 rfl rfl a1];rfl,?_⟩
 have:=a2 z
 rw [hg] at this
 simp only [Bool.false_eq_true,if_false,this];exact hk
theorem AM8 (h1:lk l i=some (.maps (encW enc L))) (v:β) (hv:y=enc v) (hk:K .undef [(i,some (.maps (encW enc (mpI L k' v))))] [i]):MsetX l false [0] (.mapr i) (.int .i64 k') y K:=by
 subst hv
 obtain ⟨o,a1,-,-,a4,-⟩:=mf_i enc k' L
 exact mset_of a1 (a4 v) h1 rfl rfl hk
theorem mdel_i (h1:lk l i=some (.maps (encW enc L))) (hk:K (.tup []) [(i,some (.maps (encW enc (mdI L k'))))] [i]):MdelX l false [0] (.mapr i) (.int .i64 k') K:=by
 obtain ⟨o,a1,-,-,-,a5⟩:=mf_i enc k' L
 exact mdel_of a1 a5 h1 rfl rfl hk
theorem BT3 (h1:lk l i=some (.maps (encW enc L))) (hk:K (.int .i64 (L.length:Nat)) [] [i]):MlenX l (.mapr i) K:=mlen_of h1 enc_len hk
end
theorem AH6 {k k':Int} {v:β}:∀ L:List (Int × β),mgI (mpI L k v) k'=if k'=k then some v else mgI L k'
 | []=>by simp only [mpI,mgI]
 | e::L=>by
  simp only [mpI]
  by_cases h:k=e.1
  ·subst h
   rw [if_pos rfl]
   simp only [mgI]
   by_cases h2:k'=e.1
   ·rw [if_pos h2,if_pos h2]
   ·rw [if_neg h2,if_neg h2,if_neg h2]
  ·rw [if_neg h]
   simp only [mgI]
   by_cases h2:k'=e.1
   ·rw [if_pos h2,if_pos h2,if_neg (fun e'=>h (e'.symm.trans h2))]
   ·rw [if_neg h2,if_neg h2,AH6 L]
theorem As7 {k:Int} {v:β}:∀ {L:List (Int × β)},mgI L k=some v→(k,v) ∈ L
 | [],h=>by cases h
 | e::L,h=>by
  simp only [mgI] at h
  split at h
  ·rename_i hk;cases h;rw [hk];exact List.mem_cons_self ..
  ·exact List.mem_cons_of_mem _ (As7 h)
theorem AG6 {k:Int}:∀ {L:List (Int × β)},mgI L k=none ↔ k ∉ L.map (·.1)
 | []=>by simp [mgI]
 | e::L=>by
  simp only [mgI,List.map_cons,List.mem_cons,not_or]
  by_cases h:k=e.1
  ·simp [h]
  ·rw [if_neg h,AG6];simp [h]
theorem BT5 {k:Int} {v:β}:∀ {L:List (Int × β)},ndI L→(k,v) ∈ L→mgI L k=some v
 | e::L,hn,h=>by
  have hn':=List.nodup_cons.1 hn
  simp only [mgI]
  rcases List.mem_cons.1 h with h|h
  ·rw [← h,if_pos rfl]
  ·rw [if_neg (fun e':k=e.1=>hn'.1 (List.mem_map.2 ⟨_,h,e'⟩))]
   exact BT5 hn'.2 h
theorem Am3 {k:Int} {L:List (Int × β)}:k ∈ L.map (·.1) ↔ ∃ v,mgI L k=some v:=by
 constructor
 ·intro h
  cases hg:mgI L k with
  | none=>exact absurd h (AG6.1 hg)
  | some v=>exact ⟨v,rfl⟩
 ·rintro ⟨v,h⟩;exact List.mem_map.2 ⟨_,As7 h,rfl⟩
theorem mp_keys {k:Int} {v:β}:∀ (L:List (Int × β)) (j:Int),j ∈ (mpI L k v).map (·.1) ↔ j=k∨j ∈ L.map (·.1):=fun L j=>by
 rw [Am3,Am3,AH6]
 by_cases h:j=k
 ·rw [if_pos h];simp [h]
 ·rw [if_neg h];simp [h]
theorem Am0 {k:Int} {v:β}:∀ {L:List (Int × β)},ndI L→ndI (mpI L k v)
 | [],_=>by simp [ndI,mpI]
 | e::L,hn=>by
  have hn':=List.nodup_cons.1 hn
  simp only [mpI]
  split
  ·rename_i h
   exact List.nodup_cons.2 ⟨by rw [h];exact hn'.1,hn'.2⟩
  ·rename_i h
   refine List.nodup_cons.2 ⟨fun hm=>?_,Am0 hn'.2⟩
   rcases (mp_keys L e.1).1 hm with h2|h2
   ·exact h h2.symm
   ·exact hn'.1 h2
theorem md_sub {k:Int}:∀ L:List (Int × β),(mdI L k).Sublist L
 | []=>List.Sublist.refl _
 | e::L=>by
  simp only [mdI]
  split
  ·exact List.sublist_cons_self ..
  ·exact (md_sub L).cons_cons _
theorem BL5 {k:Int} {L:List (Int × β)} (h:ndI L):ndI (mdI L k):=((md_sub L).map _).nodup h
theorem AL7 {k k':Int}:∀ {L:List (Int × β)},ndI L→mgI (mdI L k) k'=if k'=k then none else mgI L k'
 | [],_=>by simp [mdI,mgI]
 | e::L,hn=>by
  have hn':=List.nodup_cons.1 hn
  simp only [mdI]
  by_cases h:k=e.1
  ·rw [if_pos h]
   by_cases h2:k'=k
   ·rw [if_pos h2,h2,h];exact AG6.2 hn'.1
   ·rw [if_neg h2];simp only [mgI];rw [if_neg (fun e'=>h2 (e'.trans h.symm))]
  ·rw [if_neg h]
   simp only [mgI]
   by_cases h2:k'=e.1
   ·rw [if_pos h2,if_pos h2,if_neg (fun e'=>h (e'.symm.trans h2))]
   ·rw [if_neg h2,if_neg h2,AL7 hn'.2]
theorem sort_is {a b:List Int} (h:a.Perm b) (hb:b.Pairwise (· < ·)):a.mergeSort (fun x y=>decide (x≤y))=b:=by
 refine List.Perm.eq_of_pairwise (le:=fun x y=>x≤y) (fun x y _ _ h1 h2=>Int.le_antisymm h1 h2) ?_ (hb.imp fun h=>Int.le_of_lt h) ((List.mergeSort_perm _ _).trans h)
 have:=List.pairwise_mergeSort (le:=fun x y=>decide (x≤y)) (fun x y z h1 h2=>by simp at h1 h2 ⊢;omega) (fun x y=>by simp;omega) a
 exact this.imp fun h=>by simpa using h
end
end Go.Pol
namespace Go.Am
section
variable {P:Program} {G:Gl}
def Aq2 (l:List (Nat × AObj)):Up:=l.map fun q=>(q.1,some q.2)
theorem upd_ups {at_:At} {j:Nat}:∀ {l:List (Nat × AObj)},upd at_ (Aq2 l) j=match lk l j with|some o=>some o|none=>at_ j
 | []=>rfl
 | (i,o)::l=>by
  simp only [Aq2,List.map_cons,upd,lk]
  by_cases e:i=j
  ·subst e;simp
  ·rw [if_neg (fun h=>e h.symm),if_neg (fun h=>e h.symm)];exact upd_ups
inductive GivenA (p:Nat→Nat→Prop) (at_:At):List (Nat × AObj)→Prop where
 | nil:GivenA p at_ []
 | cons {i j:Nat} {cs ds:List AV} {l:List (Nat × AObj)} (hp:p i j) (hi:at_ i=some (.cells cs)) (hc:RnL p cs ds) (t:GivenA p at_ l):GivenA p at_ ((j,.cells ds)::l)
 | maps {i j:Nat} {es:List (AV × AV)} {l:List (Nat × AObj)} (hp:p i j) (hi:at_ i=some (.maps es)) (hc:MapP es) (t:GivenA p at_ l):GivenA p at_ ((j,.maps es)::l)
theorem GivenA.spec {p:Nat→Nat→Prop} {at_:At}:∀ {l:List (Nat × AObj)} {j:Nat} {o:AObj},GivenA p at_ l→lk l j=some o→∃ i cs,p i j∧at_ i=some cs∧RnO p cs o
 | _,j,o,.nil,hl=>by cases hl
 | _,j,o,.cons hp hi hc t,hl=>by
  simp only [lk] at hl
  split at hl
  ·rename_i e;subst e;cases hl;exact ⟨_,_,hp,hi,.cells hc⟩
  ·exact t.spec hl
 | _,j,o,.maps hp hi hc t,hl=>by
  simp only [lk] at hl
  split at hl
  ·rename_i e;subst e;cases hl;exact ⟨_,_,hp,hi,.maps hc⟩
  ·exact t.spec hl
def j4 (ns:List Nat) (i j:Nat):Prop:=ns[i]? = some j
theorem At6 {ns:List Nat}:∀ i j j',j4 ns i j→j4 ns i j'→j=j':=fun i j j' h h'=>by
 unfold j4 at h h';rw [h] at h';exact Option.some.inj h'
theorem fnU_loc {f:Nat} {args args0:List AV} {l0 lr l1:List (Nat × AObj)} {r r':AV} {at_:At} {id:Nat} (ns:List Nat) (hc:Ab5 P G f args0 l0 ns.length fun x h1=>x=r∧h1=⟨lr,ns.length⟩) (hGp:Ab4 G) (hd:Ad7 ns=true) (hl0:GivenA (enter ns) at_ l0) (hid1:id ∉ l1.map (·.1)) (hall:∀ n ∈ ns,∃ o,lk l1 n=some o)
  (hin:∀ (j n:Nat),ns[j]? = some n→∃ o,lk l0 j=some o) (ha:RnL (enter ns) args args0) (hr:RnV (j4 ns) r r') (hS:RnS (j4 ns) lr l1):FnU P G f args ns at_ r' (Aq2 l1) id:=by
 refine ⟨hc.1,fun c vs hR hG hid hat hargs=>?_⟩
 let c0:Cx:={ U:=fun i=>i < ns.length,at_:=lk l0,mu:=fun i=>c.mu (ns.getD i 0),w:=c.w,hid:=fun b=>c.hid b∨∃ id o,c.at_ id=some o∧id ∉ ns∧(c.mu id).1=b }
 have getD_:∀ {j n},ns[j]? = some n→ns.getD j 0=n:=fun {j n} e=>by simp [List.getD_eq_getElem?_getD,e]
 have hlt':∀ {j n},ns[j]? = some n→j < ns.length:=fun {j n} e=>(List.getElem?_eq_some_iff.1 e).1
 have spec0:∀ j o,lk l0 j=some o→∃ i cs,ns[j]? = some i∧c.at_ i=some cs∧RnO (enter ns) cs o:=fun j o ho=>by
  obtain ⟨i,cs,k1,k2,k4⟩:=hl0.spec ho
  exact ⟨i,cs,k1,(hat i (List.mem_of_getElem? k1)).trans k2,k4⟩
 have sub0:Sub (enter ns) c c0:=by
  refine ⟨fun i j (hij:ns[j]? = some i) _=>⟨hlt' hij,by show c.mu (ns.getD j 0)=_;rw [getD_ hij]⟩,rfl,fun b hb=>⟨hb.1,fun j o ho=>?_,fun hh=>hh.elim hb.3 fun ⟨i,o,ho,_,e⟩=>hb.2 i o ho e⟩⟩
  obtain ⟨i,cs,k1,k2,_⟩:=spec0 j o ho
  show (c.mu (ns.getD j 0)).1 ≠ b
  rw [getD_ k1];exact hb.2 i _ k2
 have hR0:Rel P c0:=by
  refine ⟨fun j o ho=>?_,fun j j' o o' ho ho' e=>?_,fun j o ho=>?_,⟨ns.length,fun i hi=>hi⟩,fun j o ho hh=>?_,fun b hb=>hb.elim (hR.hidlt b) fun ⟨i,o,ho,_,e⟩=>e▸(hR.obj i o ho).lt⟩
  ·obtain ⟨i,cs,k1,_⟩:=spec0 j o ho;exact hlt' k1
  ·obtain ⟨i,cs,k1,k2,_⟩:=spec0 j o ho
   obtain ⟨i',cs',k1',k2',_⟩:=spec0 j' o' ho'
   have e':(c.mu (ns.getD j 0)).1=(c.mu (ns.getD j' 0)).1:=e
   rw [getD_ k1,getD_ k1'] at e'
   have:=hR.inj i i' _ _ k2 k2' e'
   subst this
   exact Av9 hd k1 k1'
  ·obtain ⟨i,cs,k1,k2,k4⟩:=spec0 j o ho
   show Aq8 P c0 (c.mu (ns.getD j 0)) _
   rw [getD_ k1]
   exact k4.obj sub0 (hR.obj i _ k2)
  ·obtain ⟨i,cs,k1,k2,_⟩:=spec0 j o ho
   have hh':c.hid (c.mu (ns.getD j 0)).1∨∃ id o,c.at_ id=some o∧id ∉ ns∧(c.mu id).1=(c.mu (ns.getD j 0)).1:=hh
   rw [getD_ k1] at hh'
   rcases hh' with hh' | ⟨id,o',ho',hn,e⟩
   ·exact hR.nohid i _ k2 hh'
   ·exact hn (hR.inj id i _ _ ho' k2 e▸List.mem_of_getElem? k1)
 have hG0:AV2 G c0:=fun n cs hn=>G5 (AT4 (hGp n cs hn)) c c0 _ sub0 (hG n cs hn)
 have hm0:Mat c0 ⟨l0,ns.length⟩:=⟨rfl,fun i=>Iff.rfl⟩
 have ha0:AI7 c0 args0 vs:=⟨by rw [hargs.1,ha.spec.1],ha.rcs sub0 hargs.2⟩
 refine (hc.2 c0 _ hR0 hG0 hm0 ha0).mono ?_
 rintro e w' ⟨v,rfl,x,h1,c2,rfl,⟨rfl,rfl⟩,hrv,hR2,hm2,he2⟩
 have hat2:∀ i o,lk lr i=some o→c2.at_ i=some o:=fun i o hi=>by rw [hm2.at_];exact hi
 have hcU:∀ {j n},ns[j]? = some n→c.U n:=fun {j n} e=>by
  obtain ⟨o,ho⟩:=hin j n e
  obtain ⟨i,cs,k1,k2,_⟩:=spec0 j o ho
  rw [e] at k1;cases k1
  exact hR.used _ _ k2
 let c':Cx:={ c with at_:=upd c.at_ (Aq2 l1),w:=c2.w }
 have hmuB:∀ i j,j4 ns i j→c2.U i→c'.U j∧c'.mu j=c2.mu i:=fun i j hb hi=>by
  have e:ns[i]? = some j:=hb
  refine ⟨hcU e,?_⟩
  rw [he2.mu i (hlt' e)]
  show c.mu j=c.mu (ns.getD i 0)
  rw [getD_ e]
 have spec1:∀ j o,c'.at_ j=some o→(j ∉ ns∧c.at_ j=some o)∨∃ i cs,j4 ns i j∧c2.at_ i=some cs∧RnO (j4 ns) cs o:=fun j o ho=>by
  have ho':upd c.at_ (Aq2 l1) j=some o:=ho
  rw [upd_ups] at ho'
  cases hl:lk l1 j with
  | some o' =>
   rw [hl] at ho';cases ho'
   obtain ⟨i,cs,k1,k2,k4⟩:=hS.spec At6 hl
   exact .inr ⟨i,cs,k1,hat2 _ _ k2,k4⟩
  | none =>
   rw [hl] at ho'
   refine .inl ⟨fun hj=>?_,ho'⟩
   obtain ⟨o',h'⟩:=hall j hj
   rw [hl] at h';cases h'
 have hidO:∀ j o,j ∉ ns→c.at_ j=some o→c2.hid (c.mu j).1:=fun j o hj ho=>(he2.hid _).2 (.inr ⟨j,o,ho,hj,rfl⟩)
 have hidC:∀ b,c.hid b→c2.hid b:=fun b hb=>(he2.hid b).2 (.inl hb)
 have hfroz:∀ b,c2.Froz b→c'.Froz b:=fun b hb=>by
  refine ⟨hb.1,fun j o ho=>?_,fun hh=>hb.3 (hidC b hh)⟩
  rcases spec1 j o ho with ⟨k1,k2⟩ | ⟨i,cs,k1,k2,_⟩
  ·exact fun e=>hb.3 (e▸hidO j o k1 k2)
  ·rw [(hmuB i j k1 (hR2.used i _ k2)).2];exact hb.2 i _ k2
 have sub1:Sub (j4 ns) c2 c':=⟨hmuB,rfl,hfroz⟩
 have he:Ext c c':=by
  refine ⟨fun i hi=>hi,fun i hi=>rfl,he2.csz,fun b hb=>?_,he2.size,fun _=>Iff.rfl,fun b hb=>he2.hidh b (.inl hb),he2.env⟩
  have k:=he2.froz b (sub0.froz b hb)
  exact ⟨hfroz b k.1,k.2⟩
 refine ⟨v,c',rfl,rfl,hr c2 c' v sub1 hrv,?_,he,rfl,fun i=>?_⟩
 ·refine ⟨fun j o ho=>?_,fun j j' o o' ho ho' e=>?_,fun j o ho=>?_,hR.many,fun j o ho hh=>?_,fun b hb=>Nat.lt_of_lt_of_le (hR.hidlt b hb) he2.size⟩
  ·rcases spec1 j o ho with ⟨k1,k2⟩ | ⟨i,cs,k1,k2,_⟩
   ·exact hR.used j o k2
   ·exact (hmuB i j k1 (hR2.used i _ k2)).1
  ·rcases spec1 j o ho with ⟨k1,k2⟩ | ⟨i,cs,k1,k2,_⟩
   ·rcases spec1 j' o' ho' with ⟨k1',k2'⟩ | ⟨i',cs',k1',k2',_⟩
    ·exact hR.inj j j' _ _ k2 k2' e
    ·rw [(hmuB i' j' k1' (hR2.used i' _ k2')).2] at e
     exact absurd (e▸hidO j o k1 k2) (hR2.nohid i' _ k2')
   ·rcases spec1 j' o' ho' with ⟨k1',k2'⟩ | ⟨i',cs',k1',k2',_⟩
    ·rw [(hmuB i j k1 (hR2.used i _ k2)).2] at e
     exact absurd (e▸hidO j' o' k1' k2') (hR2.nohid i _ k2)
    ·rw [(hmuB i j k1 (hR2.used i _ k2)).2,(hmuB i' j' k1' (hR2.used i' _ k2')).2] at e
     have:=hR2.inj i i' _ _ k2 k2' e
     subst this
     exact At6 i j j' k1 k1'
  ·rcases spec1 j o ho with ⟨k1,k2⟩ | ⟨i,cs,k1,k2,k4⟩
   ·exact (hR.obj j o k2).ext he (he2.hidh _ (.inr ⟨j,o,k2,k1,rfl⟩))
   ·rw [(hmuB i j k1 (hR2.used i _ k2)).2]
    exact k4.obj sub1 (hR2.obj i _ k2)
  ·rcases spec1 j o ho with ⟨k1,k2⟩ | ⟨i,cs,k1,k2,_⟩
   ·exact hR.nohid j o k2 hh
   ·rw [(hmuB i j k1 (hR2.used i _ k2)).2] at hh;exact hR2.nohid i _ k2 (hidC _ hh)
 ·have : AB5 (Aq2 l1) id=[]:=by
   unfold AB5
   rw [if_neg]
   simp only [Aq2,List.any_map,List.any_eq_true,Function.comp_apply,beq_iff_eq,not_exists,not_and]
   exact fun q hq e=>hid1 (List.mem_map.2 ⟨q,hq,e⟩)
  rw [this];simp;rfl
theorem Ay2 {f:Nat} {args args0:List AV} {l0 lr l1:List (Nat × AObj)} {r r':AV} {h:Hp} {K:AV→Up→List Nat→Prop} (ns:List Nat) (hc:Ab5 P G f args0 l0 ns.length fun x h1=>x=r∧h1=⟨lr,ns.length⟩) (hGp:Ab4 G) (hd:Ad7 ns=true) (hl0:GivenA (enter ns) (lk h.l) l0) (hid1:h.next ∉ l1.map (·.1)) (hall:∀ n ∈ ns,∃ o,lk l1 n=some o)
  (hin:∀ (j n:Nat),ns[j]? = some n→∃ o,lk l0 j=some o) (ha:RnL (enter ns) args args0) (hr:RnV (j4 ns) r r') (hS:RnS (j4 ns) lr l1) (hk:K r' (Aq2 l1) ns):AP2 P G f args h K:=⟨r',Aq2 l1,ns,fnU_loc ns hc hGp hd hl0 hid1 hall hin ha hr hS,hk⟩
end
end Go.Am
