/-
 Loops,told of by a family of states. No program in sight.
 Slices that an activation makes and that grow. No program in sight.
 Functions with memory of their own callers: told of over a store of their own,used in any store. No program in sight.
 Regions that draw their order and change something,step by step. No program in sight.
 What is only read may be taken for a value: named blocks become values,for a while or for good. No program in sight.
 A call that leaves what it is given as it was,and makes memory of its own: its result becomes a value. No program in sight.
 The abstract machine as a program that can be run: what it comes to,the model's code comes to. No program in sight.
 The abstract machine's runs are sound. No program in sight.
 Tables of functions;closed calls. No program in sight.
 From a pure contract to a row: what a call reads,as abstract values;that it leaves everything as it was. No program in sight.
 Loops told of by what turns in the frame: the other live slots stay,the dead ones are forgotten. No program in sight.
 Calls with what is only read,told of by relations: named blocks as values for the time of a call. No program in sight.
 Slices that grow,without parting: nil or not. No program in sight.
 Calls that are walked into;ranges over functions that are walked into. No program in sight.
-/
import Derived.Test.YtbhgfoikbkaohaaGreatAmFive
import Derived.ProofKit
import Derived.OpenVars
set_option linter.unusedSimpArgs false
set_option linter.unusedVariables false
namespace Go.Am
def rn:List (Nat × Nat)→Nat→Nat
 | [],i=>i
 | (a,b)::r,i=>if i=a then b else rn r i
def AU8 (N:Nat) (l:List (Nat × Nat)):Bool:=l.all fun p=>decide (N≤p.1)
theorem AO3 {N:Nat}:∀ {l:List (Nat × Nat)},AU8 N l=true→Keeps N (rn l)
 | [],_,i,_=>rfl
 | (a,b)::r,h,i,hi=>by
  simp only [AU8,List.all_cons,Bool.and_eq_true,decide_eq_true_eq] at h
  simp only [rn]
  rw [if_neg (by have:=h.1;omega)]
  exact AO3 (l:=r) h.2 i hi
def Ad7:List Nat→Bool
 | []=>true
 | x::r=>!(r.contains x) && Ad7 r
theorem BU0:∀ {l:List (Nat × AObj)} {i:Nat} {o:AObj},lk l i=some o→∃ p ∈ l,p.1=i
 | (j,o')::r,i,o,h=>by
  simp only [lk] at h
  split at h
  ·rename_i e;exact ⟨_,List.mem_cons_self ..,e.symm⟩
  ·obtain ⟨p,hp,e⟩:=BU0 h;exact ⟨p,List.mem_cons_of_mem _ hp,e⟩
theorem R7 {σ:Nat→Nat}:∀ {l:List (Nat × AObj)},Ad7 (l.map fun p=>σ p.1)=true→Az7 σ l
 | [],_,i,j,o,o',hi,_,_=>by cases hi
 | (a,x)::r,h,i,j,o,o',hi,hj,e=>by
  simp only [List.map_cons,Ad7,Bool.and_eq_true,Bool.not_eq_true',List.contains_eq_mem,decide_eq_false_iff_not] at h
  have key:∀ {k:Nat} {q:AObj},lk r k=some q→σ k ≠ σ a:=fun {k q} hk e=>h.1 (by
   obtain ⟨p,hp,e2⟩:=BU0 hk
   exact List.mem_map.2 ⟨p,hp,by rw [e2,e]⟩)
  simp only [lk] at hi hj
  split at hi
  ·rename_i e1
   split at hj
   ·rename_i e2;rw [e1,e2]
   ·exact absurd e.symm (e1▸key hj)
  ·split at hj
   ·rename_i e2;exact absurd e (e2▸key hi)
   ·exact R7 h.2 i j o o' hi hj e
def subB (σ:Nat→Nat) (l:List (Nat × AObj)) (l':List (Nat × AObj)):Bool:=l'.all fun p=>(lk l (σ p.1)).isSome
theorem AQ0 {σ:Nat→Nat} {h h':Hp} (hb:subB σ h.l h'.l=true):AL9 σ h h':=fun i o hi=>by
 obtain ⟨p,hp,rfl⟩:=BU0 hi
 simp only [subB,List.all_eq_true] at hb
 exact Option.isSome_iff_exists.1 (hb p hp)
theorem Ah7 {σ:Nat→Nat} {h:Hp} {n:Nat}:AL9 σ h ⟨[],n⟩:=fun _ _ h=>by cases h
section
variable {P:Program} {G:Gl}
theorem At8 {fv:AV} {avs:List AV} {h:Hp} {K K':AV→Hp→Prop} (hk:∀ v h',K v h'→K' v h') (hc:Ah6 P G fv avs h K):Ah6 P G fv avs h K':=by
 intro c u vs hR hG hm hu ha
 obtain ⟨next,w1,h1,h2⟩:=hc c u vs hR hG hm hu ha
 have he:∀ v w',Ends P c K v w'→Ends P c K' v w':=fun v w' ⟨r,h',c',e1,e2,e3⟩=>⟨r,h',c',e1,hk _ _ e2,e3⟩
 refine ⟨next,w1,h1,?_⟩
 cases next<;>simp only [UponA] at h2 ⊢<;>try exact h2
 all_goals first
  | exact he _ _ h2
  | exact Calls.mono h2 fun e w' ⟨v,e1,e2⟩=>⟨v,e1,he _ _ e2⟩
  | exact fun n=>RoundIn.mono (h2 n) fun e w' ⟨v,e1,e2⟩=>⟨v,e1,he _ _ e2⟩
theorem AM1 {o:AOp} {fr:List AV} {h:Hp} {K K':AV→Hp→Prop} (hk:∀ v h',K v h'→K' v h') (hs:Ac5 P G o fr h K):Ac5 P G o fr h K':=by
 cases o
 case call f xs=>obtain ⟨fv,avs,h1,h2,h3⟩:=hs;exact ⟨fv,avs,h1,h2,At8 hk h3⟩
 case eqn ng x=>obtain ⟨a,h1,h2⟩:=hs;exact ⟨a,h1,BF6 (fun b=>hk _ _) h2⟩
 all_goals
  obtain ⟨v,up,r,h1,h2⟩:=hs
  exact ⟨v,up,r,h1,hk _ _ h2⟩
theorem AY9 {Q Q':List AV→Hp→Prop} (hq:∀ fr h,Q fr h→Q' fr h):∀ (os:List L6) (fr:List AV) (h:Hp),BI1 P G os Q fr h→BI1 P G os Q' fr h
 | [],fr,h,hr=>hq fr h hr
 | o::os,fr,h,hr=>by
  simp only [BI1] at hr ⊢
  split at hr
  ·exact AM1 (fun v h'=>AY9 hq os _ _) hr
  ·obtain ⟨p,h1,h2,h3⟩:=hr
   exact ⟨p,h1,fun e=>AM1 (fun v h'=>AY9 hq os _ _) (h2 e),fun e=>AY9 hq os _ _ (h3 e)⟩
theorem An6 {o:L6} {fr:List AV} {A A' B B':Prop} (ha:A→A') (hb:B→B') (hg:AH1 o fr A B):AH1 o fr A' B':=by
 unfold AH1 at hg ⊢
 split at hg
 ·exact ha hg
 ·obtain ⟨p,h1,h2,h3⟩:=hg;exact ⟨p,h1,fun e=>ha (h2 e),fun e=>hb (h3 e)⟩
theorem AQ3 {anc:List (List Nat)} {n:Nat} {Q Q':List AV→Hp→Prop} (hq:∀ fr h,Q fr h→Q' fr h):∀ (os:List L6) (k b:Nat) (log:List Ent) (fr:List AV) (h:Hp),Ag1 P G anc n os k b log Q fr h→Ag1 P G anc n os k b log Q' fr h
 | [],k,b,log,fr,h,hr=>⟨hr.1,hq fr h hr.2⟩
 | o::os,k,b,log,fr,h,hr=>by
  simp only [Ag1] at hr ⊢
  split
  ·rename_i hp
   rw [if_pos hp] at hr
   exact ⟨hr.1,An6 (AM1 fun v h'=>AQ3 hq os _ _ _ _ _) (AQ3 hq os _ _ _ _ _) hr.2⟩
  ·rename_i hp
   rw [if_neg hp] at hr
   exact An6 (fun ⟨v,up,rd,h1,h2⟩=>⟨v,up,rd,h1,AQ3 hq os _ _ _ _ _ h2⟩) (AQ3 hq os _ _ _ _ _) hr
theorem wpc_mono {rd:Option Nat} {N:Nat}:∀ {c:ACode} {Q Q':Exit→List AV→Hp→Prop} {fr:List AV} {h:Hp},(∀ e fr h,Q e fr h→Q' e fr h)→wpc P G rd N c Q fr h→wpc P G rd N c Q' fr h:=by
 intro c
 induction c with
 | skip=>exact fun hq h=>hq _ _ _ h
 | reg ops=>exact fun hq h=>AY9 (fun fr h=>hq _ fr h) ops _ _ h
 | regD ops pre=>exact fun hq h=>⟨h.1,AQ3 (fun fr h=>hq _ fr h) ops _ _ _ _ _ h.2⟩
 | seq a b iha ihb =>
  intro Q Q' fr h hq hw
  refine iha (fun e fr h=>?_) hw
  cases e<;>first|exact fun h=>hq _ _ _ h|exact fun h=>ihb hq h
 | cond c a b iha ihb =>
  intro Q Q' fr h hq hw
  obtain ⟨t,h1,h2,h3⟩:=hw
  exact ⟨t,h1,fun e=>iha hq (h2 e),fun e=>ihb hq (h3 e)⟩
 | block id c ih =>
  intro Q Q' fr h hq hw
  refine ih (fun e fr h=>?_) hw
  cases e<;>simp only [BW9]<;>try exact fun h=>hq _ _ _ h
  split<;>exact fun h=>hq _ _ _ h
 | loop c ih =>
  intro Q Q' fr h hq hw
  obtain ⟨I,m,h1,h2⟩:=hw
  refine ⟨I,m,h1,fun fr1 h1 hI=>ih (fun e fr h=>?_) (h2 fr1 h1 hI)⟩
  cases e<;>first|exact fun h=>hq _ _ _ h|exact fun h=>h
 | rangeF f ps a b iha ihb =>
  intro Q Q' fr h hq hw
  obtain ⟨g,fs,cs,h1,h2,h3,h4⟩:=hw
  refine ⟨g,fs,cs,h1,h2,h3,At8 (fun v h' hr=>?_) h4⟩
  obtain ⟨st,pend,fr',ps',as,bd,k1,k2,k3⟩:=hr
  refine ⟨st,pend,fr',ps',as,bd,k1,k2,?_⟩
  revert k3
  split<;>first|exact fun h=>hq _ _ _ h|exact fun h=>h
 | exit id=>exact fun hq h=>hq _ _ _ h
 | ret=>exact fun hq h=>hq _ _ _ h
end
section
variable {P:Program} {G:Gl} {ι:Type}
def lpE (P:Program) (F:ι→List AV) (H:ι→Hp) (ok:ι→Prop) (m:ι→Nat) (N:Nat) (i:ι) (fr:List AV) (h:Hp):Prop:=∃ j l,ok j∧m j < m i∧Keeps N (rn l)∧Weak P (rn l) fr h (F j) (H j)
def lpQ (P:Program) (F:ι→List AV) (H:ι→Hp) (ok:ι→Prop) (m:ι→Nat) (N:Nat) (i:ι) (Q:Exit→List AV→Hp→Prop):Exit→List AV→Hp→Prop
 | .normal=>lpE P F H ok m N i
 | e=>Q e
theorem loop_ix {rd:Option Nat} {N:Nat} {c:ACode} {Q:Exit→List AV→Hp→Prop} {fr:List AV} {h:Hp} (F:ι→List AV) (H:ι→Hp) (ok:ι→Prop) (m:ι→Nat) (i0:ι) (l:List (Nat × Nat)) (hk:AU8 N l=true) (hN:∀ i,N≤(H i).next) (h0:ok i0) (hw:Weak P (rn l) fr h (F i0) (H i0))
  (hr:∀ i,ok i→wpc P G rd N c (lpQ P F H ok m N i Q) (F i) (H i)):wpc P G rd N (.loop c) Q fr h:=by
 classical
 -- the measure of a state: the least one of an index that tells of it
 have hl:∀ fr1 h1,(∃ i,ok i∧fr1=F i∧h1=H i)→∃ k,(∃ i,(ok i∧fr1=F i∧h1=H i)∧m i=k)∧∀ j,(∃ i,(ok i∧fr1=F i∧h1=H i)∧m i=j)→k≤j:=fun fr1 h1 ⟨i,hi⟩=>least ⟨m i,i,hi,rfl⟩
 let mu:List AV→Hp→Nat:=fun fr1 h1=>if hh:∃ i,ok i∧fr1=F i∧h1=H i then Classical.choose (hl fr1 h1 hh) else 0
 have hmu:∀ fr1 h1 (hh:∃ i,ok i∧fr1=F i∧h1=H i),(∃ i,(ok i∧fr1=F i∧h1=H i)∧m i=mu fr1 h1)∧∀ i,(ok i∧fr1=F i∧h1=H i)→mu fr1 h1≤m i:=fun fr1 h1 hh=>by
  have:=Classical.choose_spec (hl fr1 h1 hh)
  simp only [mu,dif_pos hh]
  exact ⟨this.1,fun i hi=>this.2 _ ⟨i,hi,rfl⟩⟩
 refine ⟨fun fr1 h1=>∃ i,ok i∧fr1=F i∧h1=H i,mu,⟨rn l,F i0,H i0,hw,AO3 hk,hN i0,i0,h0,rfl,rfl⟩,fun fr1 h1 hI=>?_⟩
 obtain ⟨⟨i,⟨hok,rfl,rfl⟩,hmi⟩,_⟩:=hmu fr1 h1 hI
 have:=hr i hok
 rw [show lpQ P F H ok m N i Q=lpQ P F H ok m N i Q from rfl] at this
 refine wpc_mono ?_ this
 intro e fr2 h2 hq
 cases e<;>try exact hq
 obtain ⟨j,l',hj,hlt,hk',hw'⟩:=hq
 exact ⟨rn l',F j,H j,hw',hk',hN j,⟨j,hj,rfl,rfl⟩,by have:=(hmu (F j) (H j) ⟨j,hj,rfl,rfl⟩).2 j ⟨hj,rfl,rfl⟩;omega⟩
end
end Go.Am
namespace Go.Am
def flat {α:Type} (f:α→List AV) (l:List α):List AV:=(l.map f).flatten
theorem flat_app {α:Type} {f:α→List AV} {l l':List α}:flat f l++flat f l'=flat f (l++l'):=by simp [flat]
theorem Aa6 {α:Type} {f:α→List AV} {sz:Nat} (hf:∀ x,(f x).length=sz):∀ l:List α,(flat f l).length=l.length * sz
 | []=>by simp [flat]
 | c::l=>by
  have:=Aa6 hf l
  simp only [flat,List.map_cons,List.flatten_cons,List.length_append,hf,List.length_cons,Nat.succ_mul] at this ⊢
  omega
theorem V4 {α:Type} {f:α→List AV} {l:List α} (hp:∀ c,∀ x ∈ f c,Plain x):∀ x ∈ flat f l,Plain x:=fun x hx=>by
 obtain ⟨e,he,hxe⟩:=List.mem_flatten.1 hx
 obtain ⟨c,_,rfl⟩:=List.mem_map.1 he
 exact hp c x hxe
def AZ7 (i sz n:Nat):AV:=if n=0 then .nils else .sl i 0 n n sz
def AK8 {α:Type} (i:Nat) (f:α→List AV) (l:List α):List (Nat × AObj):=if l.length=0 then [] else [(i,.cells (flat f l))]
theorem own_z {i sz:Nat}:AZ7 i sz 0 = .nils:=rfl
theorem Al7 {i sz n:Nat} (h:n ≠ 0):AZ7 i sz n = .sl i 0 n n sz:=if_neg h
theorem AQ9 {α:Type} {i:Nat} {f:α→List AV} {l:List α} (h:l.length=0):AK8 i f l=[]:=if_pos h
theorem AJ9 {α:Type} {i:Nat} {f:α→List AV} {l:List α} (h:l.length ≠ 0):AK8 i f l=[(i,.cells (flat f l))]:=if_neg h
section
variable {P:Program} {G:Gl} {fr:List AV} {h:Hp}
theorem AX8 {σ:Nat→Nat} {h h':Hp} (hs:AL9 σ h h'):∀ {cs:List AV},(∀ x ∈ cs,Plain x)→WkL P σ h h' cs cs
 | [],_=>trivial
 | x::cs,hp=>⟨X0 hs (hp x (List.mem_cons_self ..)),AX8 hs fun y hy=>hp y (List.mem_cons_of_mem _ hy)⟩
theorem J2 {σ:Nat→Nat} {h h':Hp} {i:Nat} {cs cs':List AV} {r:List (Nat × AObj)} (hs:AL9 σ h h') (h1:i < h'.next) (h2:lk h.l (σ i)=some (.cells cs)) (e:cs=cs') (hp:∀ x ∈ cs,Plain x) (h4:WkO P σ h h' r):WkO P σ h h' ((i,.cells cs')::r) :=
 e▸U6 h1 h2 (AX8 hs hp) h4
end
end Go.Am
namespace Go.Am
structure Sub (p:Nat→Nat→Prop) (c c':Cx):Prop where
 nm:∀ i j,p i j→c.U i→c'.U j∧c'.mu j=c.mu i
 w:c'.w=c.w
 froz:∀ b,c.Froz b→c'.Froz b
def RnV (p:Nat→Nat→Prop) (x y:AV):Prop:=∀ (c c':Cx) (v:Value),Sub p c c'→RR c x v→RR c' y v
def RnL (p:Nat→Nat→Prop):List AV→List AV→Prop
 | [],[]=>True
 | x::xs,y::ys=>RnV p x y∧RnL p xs ys
 | _,_=>False
section
variable {p:Nat→Nat→Prop}
theorem G5 {x:AV} (hp:Plain x):RnV p x x:=fun c c' v hs hr=>hp c c' v (fun b hb=>⟨hs.froz b hb,fun o u hu=>by rw [hs.w];exact hu⟩) hr
theorem Z9 {i j o:Nat} (h:p i j):RnV p (.ptr i o) (.ptr j o):=fun c c' v hs hr=>by
 obtain ⟨h1,rfl⟩:=AC9.1 hr
 obtain ⟨h2,h3⟩:=hs.nm i j h h1
 exact AC9.2 ⟨h2,by rw [h3]⟩
theorem rn_map {i j:Nat} (h:p i j):RnV p (.mapr i) (.mapr j):=fun c c' v hs hr=>by
 obtain ⟨h1,rfl⟩:=AK6.1 hr
 obtain ⟨h2,h3⟩:=hs.nm i j h h1
 exact AK6.2 ⟨h2,by rw [h3]⟩
theorem rn_sl {i j off len cp sz:Nat} (h:p i j):RnV p (.sl i off len cp sz) (.sl j off len cp sz):=fun c c' v hs hr=>by
 obtain ⟨h1,h2,cap,h3,h4,h5,h6,h7⟩:=AK9.1 hr
 obtain ⟨k1,k2⟩:=hs.nm i j h h1
 exact AK9.2 ⟨k1,by rw [k2,hs.w];exact h2,cap,by rw [k2];exact h3,h4,h5,h6,by rw [k2,hs.w];exact h7⟩
theorem RnL.spec:∀ {xs ys:List AV},RnL p xs ys→xs.length=ys.length∧∀ (j:Nat) y,ys[j]? = some y→∃ x,xs[j]? = some x∧RnV p x y
 | [],[],_=>⟨rfl,fun j y hy=>by simp at hy⟩
 | x::xs,y::ys,hw=>by
  obtain ⟨h1,h2⟩:=hw.2.spec
  refine ⟨by simp [h1],fun j z hz=>?_⟩
  cases j with
  | zero=>simp at hz;subst hz;exact ⟨x,rfl,hw.1⟩
  | succ j=>obtain ⟨u,hu,hr⟩:=h2 j z (by simpa using hz);exact ⟨u,by simpa using hu,hr⟩
 | [],_::_,hw=>hw.elim
 | _::_,[],hw=>hw.elim
theorem D8:∀ {xs:List AV},(∀ x ∈ xs,Plain x)→RnL p xs xs
 | [],_=>trivial
 | x::xs,h=>⟨G5 (h x (List.mem_cons_self ..)),D8 fun y hy=>h y (List.mem_cons_of_mem _ hy)⟩
theorem RnL.rcs {c c':Cx} {xs ys:List AV} {look:Nat→Option Value} (h:RnL p xs ys) (hs:Sub p c c') (hr:RCs (RR c) xs look):RCs (RR c') ys look:=fun j y hy=>by
 obtain ⟨x,hx,hxy⟩:=h.spec.2 j y hy
 obtain ⟨u,hu,hxu⟩:=hr j x hx
 exact ⟨u,hu,hxy c c' u hs hxu⟩
theorem RnL.rc1 {c c':Cx} {xs ys:List AV} {look:Nat→Option Value} (h:RnL p xs ys) (hs:Sub p c c') (hr:RC1 (RR c) xs look):RC1 (RR c') ys look:=fun j y hy=>by
 obtain ⟨x,hx,hxy⟩:=h.spec.2 j y hy
 obtain ⟨u,hu,hxu,h1⟩:=hr j x hx
 exact ⟨u,hu,hxy c c' u hs hxu,h1⟩
theorem rn_agg {xs ys:List AV} (hw:RnL p xs ys):RnV p (.agg xs) (.agg ys):=fun c c' v hs hr=>by
 obtain ⟨vs,rfl,h1,h2⟩:=AB4.1 hr
 exact AB4.2 ⟨vs,rfl,by rw [h1,hw.spec.1],hw.rc1 hs h2⟩
theorem BQ9 {xs ys:List AV} (hw:RnL p xs ys):RnV p (.tup xs) (.tup ys):=fun c c' v hs hr=>by
 obtain ⟨vs,rfl,h1,h2⟩:=AH3.1 hr
 exact AH3.2 ⟨vs,rfl,by rw [h1,hw.spec.1],hw.rcs hs h2⟩
end
def enter (ns:List Nat) (i j:Nat):Prop:=ns[j]? = some i
def back (ns:List Nat) (nx:Nat) (i j:Nat):Prop:=match ns[i]? with
 | some n=>j=n
 | none=>j=nx+(i - ns.length)
def MapP (es:List (AV × AV)):Prop:=∀ e ∈ es,Plain e.1∧Plain e.2
inductive RnO (p:Nat→Nat→Prop):AObj→AObj→Prop where
 | cells {cs ds:List AV} (h:RnL p cs ds):RnO p (.cells cs) (.cells ds)
 | maps {es:List (AV × AV)} (h:MapP es):RnO p (.maps es) (.maps es)
theorem RnO.obj {P:Program} {p:Nat→Nat→Prop} {o o':AObj} {c c':Cx} {q:Nat × Nat} (h:RnO p o o') (hs:Sub p c c') (hr:Aq8 P c q o):Aq8 P c' q o':=by
 cases h with
 | cells h=>obtain ⟨a,T,q1,q2⟩:=hr;exact ⟨a,T,by rw [hs.w];exact q1,h.rc1 hs q2⟩
 | maps h =>
  obtain ⟨a,k,q1,q2,q3⟩:=hr
  refine ⟨a,k,by rw [hs.w];exact q1,q2,fun j kv hj=>?_⟩
  obtain ⟨m,h1,h2,h3⟩:=q3 j kv hj
  obtain ⟨p1,p2⟩:=h kv (List.mem_of_getElem? hj)
  exact ⟨m,h1,G5 (p:=p) p1 c c' _ hs h2,G5 (p:=p) p2 c c' _ hs h3⟩
inductive RnS (p:Nat→Nat→Prop):List (Nat × AObj)→List (Nat × AObj)→Prop where
 | nil:RnS p [] []
 | cons {i j:Nat} {cs ds:List AV} {l l':List (Nat × AObj)} (h:p i j) (hc:RnL p cs ds) (t:RnS p l l'):RnS p ((i,.cells cs)::l) ((j,.cells ds)::l')
 | maps {i j:Nat} {es:List (AV × AV)} {l l':List (Nat × AObj)} (h:p i j) (hc:MapP es) (t:RnS p l l'):RnS p ((i,.maps es)::l) ((j,.maps es)::l')
def Ab5 (P:Program) (G:Gl) (f:Nat) (args:List AV) (l0:List (Nat × AObj)) (k:Nat) (K:AV→Hp→Prop):Prop :=
 fnOk P f=true∧∀ (c:Cx) (vs:Array Value),Rel P c→AV2 G c→Mat c ⟨l0,k⟩→AI7 c args vs→Calls P f vs c.w fun e w'=>∃ v,e = .returned v∧Ends P c K v w'
inductive Given (p:Nat→Nat→Prop) (h:Hp):List (Nat × AObj)→Prop where
 | nil:Given p h []
 | cons {i j:Nat} {cs ds:List AV} {l:List (Nat × AObj)} (hp:p i j) (hi:lk h.l i=some (.cells cs)) (hc:RnL p cs ds) (t:Given p h l):Given p h ((j,.cells ds)::l)
 | maps {i j:Nat} {es:List (AV × AV)} {l:List (Nat × AObj)} (hp:p i j) (hi:lk h.l i=some (.maps es)) (hc:MapP es) (t:Given p h l):Given p h ((j,.maps es)::l)
section
variable {P:Program} {G:Gl}
theorem loc_of {f n:Nat} {ac:ACode} {rs:List ARes} {args:List AV} {l0:List (Nat × AObj)} {k:Nat} {K:AV→Hp→Prop} (G9:P.follows .mixedOrders=true) (hb:Body P f ac rs n)
  (hw:wpc P G none k ac (finQ P rs k K) (args++List.replicate (n - args.length) .undef) ⟨l0,k⟩):Ab5 P G f args l0 k K :=
 ⟨hb.ok,fun _ _ hR hG hm ha=>Af2 (h:=⟨l0,k⟩) G9 hb hw hR hG hm ha⟩
theorem Given.spec {p:Nat→Nat→Prop} {h:Hp}:∀ {l:List (Nat × AObj)} {j:Nat} {o:AObj},Given p h l→lk l j=some o→∃ i cs,p i j∧lk h.l i=some cs∧RnO p cs o
 | _,j,o,.nil,hl=>by cases hl
 | _,j,o,.cons hp hi hc t,hl=>by
  simp only [lk] at hl
  split at hl
  ·rename_i e;subst e;cases hl;exact ⟨_,_,hp,hi,.cells hc⟩
  ·exact t.spec hl
 | _,j,o,.maps hp hi hc t,hl=>by
  simp only [lk] at hl
  split at hl
  ·rename_i e;subst e;cases hl;exact ⟨_,_,hp,hi,.maps hc⟩
  ·exact t.spec hl
theorem RnS.spec {p:Nat→Nat→Prop} (hfun:∀ i j j',p i j→p i j'→j=j'):∀ {l l':List (Nat × AObj)} {j:Nat} {o:AObj},RnS p l l'→lk l' j=some o→∃ i cs,p i j∧lk l i=some cs∧RnO p cs o
 | _,_,j,o,.nil,hl=>by cases hl
 | _,_,j,o,.cons (i:=i) (j:=j') hp hc t,hl=>by
  simp only [lk] at hl
  split at hl
  ·rename_i e;subst e;cases hl;exact ⟨i,_,hp,by simp [lk],.cells hc⟩
  ·rename_i e
   obtain ⟨i2,cs,h1,h2,h4⟩:=RnS.spec hfun t hl
   refine ⟨i2,cs,h1,?_,h4⟩
   simp only [lk]
   rw [if_neg (show ¬ i2=i from fun e2=>e (hfun i j j' (by rw [← e2];exact h1) hp))]
   exact h2
 | _,_,j,o,.maps (i:=i) (j:=j') hp hc t,hl=>by
  simp only [lk] at hl
  split at hl
  ·rename_i e;subst e;cases hl;exact ⟨i,_,hp,by simp [lk],.maps hc⟩
  ·rename_i e
   obtain ⟨i2,cs,h1,h2,h4⟩:=RnS.spec hfun t hl
   refine ⟨i2,cs,h1,?_,h4⟩
   simp only [lk]
   rw [if_neg (show ¬ i2=i from fun e2=>e (hfun i j j' (by rw [← e2];exact h1) hp))]
   exact h2
theorem Ag6:∀ {l l':List (Nat × AObj)} {j:Nat} {o:AObj},lk (l++l') j=some o→lk l j=some o∨lk l' j=some o
 | [],_,_,_,h=>.inr h
 | (i,x)::l,l',j,o,h=>by
  simp only [List.cons_append,lk] at h ⊢
  split at h
  ·rename_i e;rw [if_pos e];exact .inl h
  ·rename_i e;rw [if_neg e];exact Ag6 h
theorem Aa1 {ns:List Nat}:∀ {l:List (Nat × AObj)} {j:Nat} {o:AObj},lk (l.filter fun q=>!ns.contains q.1) j=some o→j ∉ ns∧lk l j=some o
 | [],_,_,h=>by cases h
 | (i,x)::l,j,o,h=>by
  simp only [List.filter_cons] at h
  split at h
  ·rename_i hi
   simp only [lk] at h ⊢
   split at h
   ·rename_i e
    rw [if_pos e]
    exact ⟨by subst e;simpa using hi,h⟩
   ·rename_i e;rw [if_neg e];exact Aa1 h
  ·rename_i hi
   obtain ⟨h1,h2⟩:=Aa1 h
   refine ⟨h1,?_⟩
   simp only [lk]
   rw [if_neg fun e=>h1 (by subst e;simpa using hi)]
   exact h2
theorem Av9:∀ {ns:List Nat} {i j n:Nat},Ad7 ns=true→ns[i]? = some n→ns[j]? = some n→i=j
 | [],i,j,n,_,hi,_=>by simp at hi
 | x::r,i,j,n,h,hi,hj=>by
  simp only [Ad7,Bool.and_eq_true,Bool.not_eq_true',List.contains_eq_mem,decide_eq_false_iff_not] at h
  cases i with
  | zero =>
   cases j with
   | zero=>rfl
   | succ j =>
    simp at hi hj;subst hi
    exact absurd (List.mem_of_getElem? hj) h.1
  | succ i =>
   cases j with
   | zero =>
    simp at hi hj;subst hj
    exact absurd (List.mem_of_getElem? hi) h.1
   | succ j=>exact congrArg (· + 1) (Av9 (n:=n) h.2 (by simpa using hi) (by simpa using hj))
theorem Az1 {ns:List Nat} {nx:Nat}:∀ i j j',back ns nx i j→back ns nx i j'→j=j':=fun i j j' h h'=>by
 unfold back at h h'
 cases e:ns[i]? with
 | some n=>rw [e] at h h';exact h.trans h'.symm
 | none=>rw [e] at h h';exact h.trans h'.symm
theorem callV_loc {f:Nat} {fs cs args args0:List AV} {l0:List (Nat × AObj)} {K0 K:AV→Hp→Prop} {h:Hp} (ns:List Nat) (hc:Ab5 P G f args0 l0 ns.length K0) (hGp:Ab4 G) (hd:Ad7 ns=true) (hl0:Given (enter ns) h l0) (ha:RnL (enter ns) (fs++args++cs) args0) (hlt:∀ n ∈ ns,n < h.next)
  (hk:∀ r h1,K0 r h1→∃ r' l1,RnV (back ns h.next) r r'∧RnS (back ns h.next) h1.l l1∧K r' ⟨(h.l.filter fun q=>!ns.contains q.1)++l1,h.next+(h1.next - ns.length)⟩):Ah6 P G (.fn f fs cs) args h K:=by
 intro c u vs hR hG hm hu hargs
 obtain ⟨vf,vc,rfl,g1,g2⟩:=AS6.1 hu
 refine ⟨_,_,AE1 hc.1 c.w,?_⟩
 have hat:∀ i o,lk h.l i=some o→c.at_ i=some o:=fun i o hi=>by rw [hm.at_];exact hi
 let c0:Cx:={ U:=fun i=>i < ns.length,at_:=lk l0,mu:=fun i=>c.mu (ns.getD i 0),w:=c.w,hid:=fun b=>c.hid b∨∃ id o,c.at_ id=some o∧id ∉ ns∧(c.mu id).1=b }
 have getD_:∀ {j n},ns[j]? = some n→ns.getD j 0=n:=fun {j n} e=>by simp [List.getD_eq_getElem?_getD,e]
 have hlt':∀ {j n},ns[j]? = some n→j < ns.length:=fun {j n} e=>(List.getElem?_eq_some_iff.1 e).1
 have spec0:∀ j o,lk l0 j=some o→∃ i cs,ns[j]? = some i∧c.at_ i=some cs∧RnO (enter ns) cs o:=fun j o ho=>by
  obtain ⟨i,cs,k1,k2,k4⟩:=hl0.spec ho
  exact ⟨i,cs,k1,hat _ _ k2,k4⟩
 have sub0:Sub (enter ns) c c0:=by
  refine ⟨fun i j (hij:ns[j]? = some i) _=>⟨hlt' hij,by show c.mu (ns.getD j 0)=_;rw [getD_ hij]⟩,rfl,fun b hb=>⟨hb.1,fun j o ho=>?_,fun hh=>hh.elim hb.3 fun ⟨i,o,ho,_,e⟩=>hb.2 i o ho e⟩⟩
  obtain ⟨i,cs,k1,k2,_⟩:=spec0 j o ho
  show (c.mu (ns.getD j 0)).1 ≠ b
  rw [getD_ k1];exact hb.2 i _ k2
 have hR0:Rel P c0:=by
  refine ⟨fun j o ho=>?_,fun j j' o o' ho ho' e=>?_,fun j o ho=>?_,⟨ns.length,fun i hi=>hi⟩,fun j o ho hh=>?_,fun b hb=>hb.elim (hR.hidlt b) fun ⟨i,o,ho,_,e⟩=>e▸(hR.obj i o ho).lt⟩
  ·obtain ⟨i,cs,k1,_⟩:=spec0 j o ho;exact hlt' k1
  ·obtain ⟨i,cs,k1,k2,_⟩:=spec0 j o ho
   obtain ⟨i',cs',k1',k2',_⟩:=spec0 j' o' ho'
   have e':(c.mu (ns.getD j 0)).1=(c.mu (ns.getD j' 0)).1:=e
   rw [getD_ k1,getD_ k1'] at e'
   have:=hR.inj i i' _ _ k2 k2' e'
   subst this
   exact Av9 hd k1 k1'
  ·obtain ⟨i,cs,k1,k2,k4⟩:=spec0 j o ho
   show Aq8 P c0 (c.mu (ns.getD j 0)) _
   rw [getD_ k1]
   exact k4.obj sub0 (hR.obj i _ k2)
  ·obtain ⟨i,cs,k1,k2,_⟩:=spec0 j o ho
   have hh':c.hid (c.mu (ns.getD j 0)).1∨∃ id o,c.at_ id=some o∧id ∉ ns∧(c.mu id).1=(c.mu (ns.getD j 0)).1:=hh
   rw [getD_ k1] at hh'
   rcases hh' with hh' | ⟨id,o',ho',hn,e⟩
   ·exact hR.nohid i _ k2 hh'
   ·exact hn (hR.inj id i _ _ ho' k2 e▸List.mem_of_getElem? k1)
 have hG0:AV2 G c0:=fun n cs hn=>G5 (AT4 (hGp n cs hn)) c c0 _ sub0 (hG n cs hn)
 have hm0:Mat c0 ⟨l0,ns.length⟩:=⟨rfl,fun i=>Iff.rfl⟩
 have ha0:AI7 c0 args0 (vf++vs++vc):=by
  have k:=AA8 (AA8 g1 hargs) g2
  exact ⟨by rw [k.1,ha.spec.1],ha.rcs sub0 k.2⟩
 refine (hc.2 c0 _ hR0 hG0 hm0 ha0).mono ?_
 rintro e w' ⟨v,rfl,r,h1,c2,rfl,hK0,hrv,hR2,hm2,he2⟩
 obtain ⟨r',l1,hr',hS,hK⟩:=hk r h1 hK0
 have hat2:∀ i o,lk h1.l i=some o→c2.at_ i=some o:=fun i o hi=>by rw [hm2.at_];exact hi
 have hk1:∀ i,i < ns.length→i < h1.next:=fun i hi=>(hm2.U i).1 (he2.used i hi)
 let c':Cx:={ U:=fun i=>i < h.next+(h1.next - ns.length),at_:=lk ((h.l.filter fun q=>!ns.contains q.1)++l1),mu:=fun j=>if j < h.next then c.mu j else c2.mu (ns.length+(j - h.next)),w:=c2.w,hid:=c.hid }
 have hmuO:∀ j,j < h.next→c'.mu j=c.mu j:=fun j hj=>if_pos hj
 have hmuB:∀ i j,back ns h.next i j→c2.U i→c'.U j∧c'.mu j=c2.mu i:=fun i j hb hi=>by
  have hi1:=(hm2.U i).1 hi
  unfold back at hb
  split at hb
  ·rename_i n e
   subst hb
   have hjn:=hlt j (List.mem_of_getElem? e)
   refine ⟨show j < _ by omega,?_⟩
   rw [hmuO j hjn,he2.mu i (hlt' e)]
   show c.mu j=c.mu (ns.getD i 0)
   rw [getD_ e]
  ·rename_i e
   have hge:ns.length≤i:=List.getElem?_eq_none_iff.1 e
   subst hb
   refine ⟨show h.next+(i - ns.length) < h.next+(h1.next - ns.length) by omega,?_⟩
   show (if h.next+(i - ns.length) < h.next then _ else _)=_
   rw [if_neg (by omega)]
   congr 1;omega
 have spec1:∀ j o,c'.at_ j=some o→(j ∉ ns∧c.at_ j=some o∧j < h.next)∨∃ i cs,back ns h.next i j∧c2.at_ i=some cs∧RnO (back ns h.next) cs o:=fun j o ho=>by
  rcases Ag6 ho with k|k
  ·obtain ⟨k1,k2⟩:=Aa1 k
   exact .inl ⟨k1,hat _ _ k2,(hm.U j).1 (hR.used j o (hat _ _ k2))⟩
  ·obtain ⟨i,cs,k1,k2,k4⟩:=hS.spec Az1 k
   exact .inr ⟨i,cs,k1,hat2 _ _ k2,k4⟩
 have hidO:∀ j o,j ∉ ns→c.at_ j=some o→c2.hid (c.mu j).1:=fun j o hj ho=>(he2.hid _).2 (.inr ⟨j,o,ho,hj,rfl⟩)
 have hidC:∀ b,c.hid b→c2.hid b:=fun b hb=>(he2.hid b).2 (.inl hb)
 have hfroz:∀ b,c2.Froz b→c'.Froz b:=fun b hb=>by
  refine ⟨hb.1,fun j o ho=>?_,fun hh=>hb.3 (hidC b hh)⟩
  rcases spec1 j o ho with ⟨k1,k2,k3⟩ | ⟨i,cs,k1,k2,_⟩
  ·rw [hmuO j k3];exact fun e=>hb.3 (e▸hidO j o k1 k2)
  ·rw [(hmuB i j k1 (hR2.used i _ k2)).2];exact hb.2 i _ k2
 have sub1:Sub (back ns h.next) c2 c':=⟨hmuB,rfl,hfroz⟩
 have he:Ext c c':=by
  refine ⟨fun i hi=>?_,fun i hi=>hmuO i ((hm.U i).1 hi),he2.csz,fun b hb=>?_,he2.size,fun _=>Iff.rfl,fun b hb=>he2.hidh b (.inl hb),he2.env⟩
  ·have:=(hm.U i).1 hi
   show i < _;omega
  ·have k:=he2.froz b (sub0.froz b hb)
   exact ⟨hfroz b k.1,k.2⟩
 refine ⟨v,rfl,r',_,c',rfl,hK,hr' c2 c' v sub1 hrv,?_,⟨rfl,fun i=>Iff.rfl⟩,he⟩
 refine ⟨fun j o ho=>?_,fun j j' o o' ho ho' e=>?_,fun j o ho=>?_,⟨_,fun i hi=>hi⟩,fun j o ho hh=>?_,fun b hb=>Nat.lt_of_lt_of_le (hR.hidlt b hb) he2.size⟩
 ·rcases spec1 j o ho with ⟨k1,k2,k3⟩ | ⟨i,cs,k1,k2,_⟩
  ·show j < _;omega
  ·exact (hmuB i j k1 (hR2.used i _ k2)).1
 ·rcases spec1 j o ho with ⟨k1,k2,k3⟩ | ⟨i,cs,k1,k2,_⟩
  ·rcases spec1 j' o' ho' with ⟨k1',k2',k3'⟩ | ⟨i',cs',k1',k2',_⟩
   ·rw [hmuO j k3,hmuO j' k3'] at e;exact hR.inj j j' _ _ k2 k2' e
   ·rw [hmuO j k3,(hmuB i' j' k1' (hR2.used i' _ k2')).2] at e
    exact absurd (e▸hidO j o k1 k2) (hR2.nohid i' _ k2')
  ·rcases spec1 j' o' ho' with ⟨k1',k2',k3'⟩ | ⟨i',cs',k1',k2',_⟩
   ·rw [hmuO j' k3',(hmuB i j k1 (hR2.used i _ k2)).2] at e
    exact absurd (e▸hidO j' o' k1' k2') (hR2.nohid i _ k2)
   ·rw [(hmuB i j k1 (hR2.used i _ k2)).2,(hmuB i' j' k1' (hR2.used i' _ k2')).2] at e
    have:=hR2.inj i i' _ _ k2 k2' e
    subst this
    exact Az1 i j j' k1 k1'
 ·rcases spec1 j o ho with ⟨k1,k2,k3⟩ | ⟨i,cs,k1,k2,k4⟩
  ·rw [hmuO j k3];exact (hR.obj j o k2).ext he (he2.hidh _ (.inr ⟨j,o,k2,k1,rfl⟩))
  ·rw [(hmuB i j k1 (hR2.used i _ k2)).2]
   exact k4.obj sub1 (hR2.obj i _ k2)
 ·rcases spec1 j o ho with ⟨k1,k2,k3⟩ | ⟨i,cs,k1,k2,_⟩
  ·rw [hmuO j k3] at hh;exact hR.nohid j o k2 hh
  ·rw [(hmuB i j k1 (hR2.used i _ k2)).2] at hh;exact hR2.nohid i _ k2 (hidC _ hh)
end
end Go.Am
namespace Go.Am
section
variable {P:Program} {G:Gl} {rd:Option Nat} {N:Nat} {anc:List (List Nat)} {n k b:Nat} {log:List Ent} {Q:List AV→Hp→Prop} {fr:List AV} {h:Hp}
theorem BG7 (hc:chk anc b log=true):chk anc b log=true:=hc
end
end Go.Am
namespace Go.Am
section
variable {P:Program} {G:Gl}
structure Frz (c c':Cx) (rd:List Nat) (at_:At):Prop where
 w:c'.w=c.w
 froz:∀ b,c.Froz b→c'.Froz b
 nm:∀ i ∈ rd,∀ o,c.at_ i=some o→c'.Froz (c.mu i).1
 at_:∀ i ∈ rd,c.at_ i=at_ i
end
end Go.Am
namespace Go.Am
section
variable {P:Program} {G:Gl}
theorem rn_fn {p:Nat→Nat→Prop} {f:Nat} {xs ys xs' ys':List AV} (h1:RnL p xs xs') (h2:RnL p ys ys'):RnV p (.fn f xs ys) (.fn f xs' ys'):=fun c c' v hs hr=>by
 obtain ⟨vf,vc,rfl,⟨k1,k2⟩,k3,k4⟩:=AS6.1 hr
 exact AS6.2 ⟨vf,vc,rfl,⟨by rw [k1,h1.spec.1],h1.rcs hs k2⟩,by rw [k3,h2.spec.1],h2.rcs hs k4⟩
end
end Go.Am
namespace Go.Am
end Go.Am
namespace Go.Am
section
variable {P:Program} {G:Gl}
theorem cx_ren_id {c:Cx} {h:Hp} (hm:Mat c h):c.ren id h=c:=by
 obtain ⟨U,at_,mu,w,hid⟩:=c
 have h1:U=fun i=>i < h.next:=funext fun i=>propext (hm.U i)
 have h2:at_=lk h.l:=hm.at_
 subst h1;subst h2
 rfl
theorem weak_refl {fr:List AV} {h:Hp}:Weak P id fr h fr h:=fun c tmps hR hm hF=>by
 rw [cx_ren_id hm]
 exact ⟨hR,hF,fun i o hi=>⟨o,hi⟩⟩
open Classical in
end
end Go.Am
namespace Go.Am
end Go.Am
namespace Go.Am
open Go.ChangeShapes Go.WideShapes Go.ChangeAt Go.RowKit
section
variable {P:Program} {G:Gl}
def AK5 (W:World):Cx:={ U:=fun _=>False,at_:=fun _=>none,mu:=fun _=>(0,0),w:=W,hid:=fun _=>False }
theorem BH2 {W:World} {b:Nat} (h:b < W.heap.size):(AK5 W).Froz b:=⟨h,fun _ _ h=>(by cases h),fun h=>h⟩
theorem calls_pure {f:Nat} {args:List AV} {r:AV} (hp:Af4 P G f args r) {W:World} {vs:Array Value} (hG:AV2 G (AK5 W)) (ha:AI7 (AK5 W) args vs):Calls P f vs W fun e w'=>∃ v c',e = .returned v∧c'.w=w'∧RR c' r v∧Below W.heap.size W w':=by
 have hR:Rel P (AK5 W):=⟨fun _ _ h=>(by cases h),fun _ _ _ _ h=>(by cases h),fun _ _ h=>(by cases h),⟨0,fun _ h=>h.elim⟩,fun _ _ h=>(by cases h),fun _ h=>h.elim⟩
 refine ((hp (fun _=>none) 0).2 (AK5 W) vs hR hG (fun h=>h) (fun i hi=>by cases hi) ha).mono ?_
 rintro e w' ⟨v,c',rfl,rfl,h1,_,h2,_⟩
 exact ⟨v,c',rfl,rfl,h1,h2.env.1,h2.env.2.1,h2.env.2.2,h2.size,fun k hk=>(h2.froz k (BH2 hk)).2⟩
theorem calls_true {f:Nat} {args:List AV} (hp:Af4 P G f args (.bool true)) {W:World} {vs:Array Value} (hG:AV2 G (AK5 W)) (ha:AI7 (AK5 W) args vs):Calls P f vs W fun e w'=>e = .returned (.bool true)∧Below W.heap.size W w' :=
 (calls_pure hp hG ha).mono fun e w' ⟨v,c',h1,_,h2,h3⟩=>⟨by rw [h1,RR_bool.1 h2],h3⟩
variable {H:Type} {enc:TypeId × Value→H}
theorem post_below {f:Func} {s:ChangeSpec} {apart fresh handsOn again:Bool} {W W':World} {args:Array Value} {v:Value} {ds gs:List (DataW H)} {before pa pv:List MemPlace}
  (hW:DataW.Whole enc P f.params.toList s.vars apart W args.toList ds gs before)
  (hres:∀ (b:Nat) (sp:Nat→Bool) (hd:Bool),DataW.TrodAll enc P W' b sp hd f.resultTypes.toList (v.resultList f.resultTypes.size) (s.fn H (ds++gs)).results [])
  (hargs:∀ sp:Nat→Bool,(∀ p ∈ before,sp p.block=true)→DataW.TrodAll enc P W' 0 sp true f.params.toList args.toList (s.fn H (ds++gs)).args pa)
  (hvars:∀ sp:Nat→Bool,(∀ p ∈ before,sp p.block=true)→DataW.TrodVars enc P W' sp s.vars (s.fn H (ds++gs)).vars pv)
  (hps:before=pa++pv) (hb:Below W.heap.size W W')
  (hok:∀ (j:Nat) (t:TypeId) (r:Value),f.resultTypes[j]? = some t→(v.resultList f.resultTypes.size)[j]? = some r→Value.okWide P W' .any 0 t r) :
  s.post enc P f apart fresh handsOn again W args v W':=by
 have hold:∀ p ∈ before,(fun b=>decide (b < W.heap.size)) p.block=true:=fun p hp=>by simpa using hW.lt p hp
 have hlt:∀ p ∈ before,p.block < W.heap.size:=hW.lt
 refine ⟨ds,gs,before,[],pa,pv,hW,hres _ _ _,hargs _ hold,hvars _ hold,hb.frame _,fun _=>?_⟩
 obtain ⟨_,_,_,_,_,hz,hn⟩:=hW
 refine ⟨hok,_,_,([]++pa)++pv,⟨[]++pa,pv,trodAll_append (hargs _ (fun _ _=>rfl)) (hres _ _ _),hvars _ (fun _ _=>rfl),rfl,?_,?_⟩,?_⟩
 ·intro b off hp
  have hm:MemPlace.cell b off ∈ before:=by rw [hps];simpa using hp
  rw [hb.frozen (p:=⟨b,off,none⟩) (hlt _ hm)]
  exact hz b off hm
 ·intro ha
  have:=hn ha
  rw [hps] at this
  simpa using this
 ·intro p hp _
  rw [hps]
  simpa using hp
end
end Go.Am
namespace Go.Am
section
variable {P:Program} {G:Gl} {ι:Type}
end
theorem plain_all2 {x:AV} {xs:List AV} (h:Plain x) (h':∀ y ∈ xs,Plain y):∀ y ∈ x::xs,Plain y:=fun y hy=>by
 rcases List.mem_cons.1 hy with rfl|hy
 ·exact h
 ·exact h' y hy
theorem plain_all0:∀ y ∈ ([]:List AV),Plain y:=fun y hy=>by cases hy
theorem BD6 {α:Type} {f:α→AV} (hf:∀ a,Plain (f a)) {l:List α}:∀ y ∈ l.map f,Plain y:=fun y hy=>by
 obtain ⟨a,_,rfl⟩:=List.mem_map.1 hy
 exact hf a
end Go.Am
namespace Go.Am
section
variable {P:Program} {G:Gl}
def FrzTo (P:Program) (at_:At) (rd:List Nat) (x y:AV):Prop:=∀ c c',Frz c c' rd at_→Rel P c→∀ v,RR c x v→RR c' y v
def FrzL (P:Program) (at_:At) (rd:List Nat):List AV→List AV→Prop
 | [],[]=>True
 | x::xs,y::ys=>FrzTo P at_ rd x y∧FrzL P at_ rd xs ys
 | _,_=>False
theorem FrzL.spec {at_:At} {rd:List Nat}:∀ {xs ys:List AV},FrzL P at_ rd xs ys→xs.length=ys.length∧∀ (j:Nat) y,ys[j]? = some y→∃ x,xs[j]? = some x∧FrzTo P at_ rd x y
 | [],[],_=>⟨rfl,fun j y hy=>by simp at hy⟩
 | x::xs,y::ys,hw=>by
  obtain ⟨h1,h2⟩:=hw.2.spec
  refine ⟨by simp [h1],fun j z hz=>?_⟩
  cases j with
  | zero=>simp at hz;subst hz;exact ⟨x,rfl,hw.1⟩
  | succ j=>obtain ⟨u,hu,hr⟩:=h2 j z (by simpa using hz);exact ⟨u,by simpa using hu,hr⟩
 | [],_::_,hw=>hw.elim
 | _::_,[],hw=>hw.elim
theorem FrzL.rcs {at_:At} {rd:List Nat} {c c':Cx} {xs ys:List AV} {look:Nat→Option Value} (h:FrzL P at_ rd xs ys) (hf:Frz c c' rd at_) (hR:Rel P c) (hr:RCs (RR c) xs look):RCs (RR c') ys look:=fun j y hy=>by
 obtain ⟨x,hx,hxy⟩:=h.spec.2 j y hy
 obtain ⟨u,hu,hxu⟩:=hr j x hx
 exact ⟨u,hu,hxy c c' hf hR u hxu⟩
theorem FrzL.rc1 {at_:At} {rd:List Nat} {c c':Cx} {xs ys:List AV} {look:Nat→Option Value} (h:FrzL P at_ rd xs ys) (hf:Frz c c' rd at_) (hR:Rel P c) (hr:RC1 (RR c) xs look):RC1 (RR c') ys look:=fun j y hy=>by
 obtain ⟨x,hx,hxy⟩:=h.spec.2 j y hy
 obtain ⟨u,hu,hxu,h1⟩:=hr j x hx
 exact ⟨u,hu,hxy c c' hf hR u hxu,h1⟩
end
end Go.Am
namespace Go.Am
section
variable {α:Type} {f:α→List AV} {l:List α} {i j:Nat} {o:AObj} {r:List (Nat × AObj)}
theorem V9 (h:j ≠ i):lk (AK8 i f l++r) j=lk r j:=by
 by_cases hz:l.length=0
 ·rw [AQ9 hz];rfl
 ·rw [AJ9 hz];simp [lk,h]
theorem V6 (hz:l.length ≠ 0):lk (AK8 i f l++r) i=some (.cells (flat f l)):=by rw [AJ9 hz];simp [lk]
theorem M5 (hz:l.length ≠ 0):lk (AK8 i f l) i=some (.cells (flat f l)):=by rw [AJ9 hz];simp [lk]
theorem len_own {sz n:Nat}:lenV (AZ7 i sz n)=some (.int .i64 n):=by
 by_cases hz:n=0
 ·subst hz;rfl
 ·rw [Al7 hz];rfl
end
section
variable {P:Program} {G:Gl} {fr:List AV} {h:Hp} {α:Type} {f:α→List AV} {l l2:List α}
theorem BA8 {σ:Nat→Nat} {h h':Hp} {i j sz n:Nat} (e:σ i=j) (hi:i < h'.next):WkV P σ h h' (AZ7 j sz n) (AZ7 i sz n):=by
 by_cases hz:n=0
 ·subst hz;rw [own_z,own_z];exact fun c v hR hm hr=>RR_nils.2 (RR_nils.1 hr)
 ·rw [Al7 hz,Al7 hz];exact BI7 e hi rfl (Nat.le_refl _) (Nat.le_refl _)
end
end Go.Am
namespace Go.Am
section
variable {P:Program} {G:Gl}
end
end Go.Am
