/-
 Plain words of views: sorted lists,and what is put in,taken out,and counted.
 The table of views: its memory,and contracts over it.
 Numbers in their ranges;where a view is.
 Looks at a table: find,Find,Count,where.
 Views that are put in and taken out: what the table is then.
 put: a view into its place.
 Views that are taken out,or changed: what the table is then.
-/
import Derived.Test.YtphggldkligldaaGreatShB
import Derived.Test.YtphggldkligldaaGreatQan
set_option linter.unusedSimpArgs false
set_option linter.unusedVariables false
namespace Go.Pol
open Go.Am
abbrev Vw:=Nat × Nat × Nat × Bool
def dV:Vw:=(0,0,0,false)
def vwC (v:Vw):List AV:=[.int .i64 (v.1:Nat),.int .i64 (v.2.1:Nat),.int .i64 (v.2.2.1:Nat),.bool v.2.2.2]
def bef (u v:Vw):Prop:=u.1 < v.1∨(u.1=v.1∧u.2.1 < v.2.1)
instance (u v:Vw):Decidable (bef u v):=by unfold bef;infer_instance
theorem BC8 {u v w:Vw} (h:bef u v) (h':bef v w):bef u w:=by unfold bef at *;omega
def Ab6 (v:Vw):List Vw→List Vw
 | []=>[v]
 | u::r=>if bef u v then u::Ab6 v r else v::u::r
def ofA (a:Nat) (L:List Vw):List Vw:=L.filter fun v=>decide (v.1=a)
def cntF (L:List Vw) (f:Nat):Nat:=(L.filter fun v=>decide (v.2.2.1=f)).length
def atV (p:Nat × Nat) (v:Vw):Prop:=v.1=p.1∧v.2.1=p.2
instance (p:Nat × Nat) (v:Vw):Decidable (atV p v):=by unfold atV;infer_instance
abbrev srt (L:List Vw):Prop:=L.Pairwise bef
theorem BI2 {v:Vw}:∀ {X Y:List Vw},(∀ u ∈ X,bef u v)→(∀ u Y',Y=u::Y'→¬ bef u v)→Ab6 v (X++Y)=X++v::Y
 | [],[],_,_=>rfl
 | [],u::Y,_,h=>by simp only [List.nil_append,Ab6];rw [if_neg (h u Y rfl)]
 | x::X,Y,h,h'=>by simp only [List.cons_append,Ab6];rw [if_pos (h x (List.mem_cons_self ..)),BI2 (fun u hu=>h u (List.mem_cons_of_mem _ hu)) h']
theorem u6 (v:Vw):∀ L:List Vw,∃ X Y,L=X++Y∧Ab6 v L=X++v::Y∧(∀ u ∈ X,bef u v)∧∀ u Y',Y=u::Y'→¬ bef u v
 | []=>⟨[],[],rfl,rfl,fun u h=>(by cases h),fun u Y' h=>(by cases h)⟩
 | u::L=>by
  by_cases h:bef u v
  ·obtain ⟨X,Y,h1,h2,h3,h4⟩:=u6 v L
   refine ⟨u::X,Y,by rw [h1];rfl,by simp only [Ab6];rw [if_pos h,h2];rfl,fun w hw=>?_,h4⟩
   rcases List.mem_cons.1 hw with rfl|hw
   ·exact h
   ·exact h3 w hw
  ·exact ⟨[],u::L,rfl,by simp only [Ab6];rw [if_neg h];rfl,fun w hw=>(by cases hw),fun w Y' e=>by cases e;exact h⟩
theorem AA4 {u v:Vw} {L:List Vw}:u ∈ Ab6 v L ↔ u=v∨u ∈ L:=by
 obtain ⟨X,Y,h1,h2,_⟩:=u6 v L
 rw [h2,h1];simp only [List.mem_append,List.mem_cons]
 constructor
 ·rintro (h|h|h)<;>simp [h]
 ·rintro (h|h|h)<;>simp [h]
theorem Ag7 {v:Vw} {L:List Vw}:(Ab6 v L).length=L.length+1:=by
 obtain ⟨X,Y,h1,h2,_⟩:=u6 v L
 rw [h2,h1];simp only [List.length_append,List.length_cons];omega
theorem l9 (X Y:List Vw) (f:Nat):cntF (X++Y) f=cntF X f+cntF Y f:=by simp [cntF]
theorem Z9 (v:Vw) (Y:List Vw) (f:Nat):cntF (v::Y) f=(if v.2.2.1=f then 1 else 0)+cntF Y f:=by
 unfold cntF;rw [List.filter_cons];split<;>rename_i h<;>simp at h<;>simp [h]<;>omega
theorem cnt_ins {v:Vw} {L:List Vw} (f:Nat):cntF (Ab6 v L) f=cntF L f+if v.2.2.1=f then 1 else 0:=by
 obtain ⟨X,Y,h1,h2,_⟩:=u6 v L
 rw [h2,h1,l9,l9,Z9];omega
theorem Ap3 {X Y:List Vw} {v:Vw} (h:srt (X++Y)) (hY:∀ u Y',Y=u::Y'→¬ bef u v):∀ u ∈ Y,¬ bef u v:=by
 cases Y with
 | nil=>intro u hu;cases hu
 | cons y Y =>
  intro u hu hb
  have hy:=hY y Y rfl
  rcases List.mem_cons.1 hu with rfl|hu
  ·exact hy hb
  ·exact hy (BC8 ((List.pairwise_cons.1 (List.pairwise_append.1 h).2.1).1 u hu) hb)
theorem ofA_ins {v:Vw} {L:List Vw} (h:srt L):ofA v.1 (Ab6 v L)=Ab6 v (ofA v.1 L):=by
 obtain ⟨X,Y,h1,h2,h3,h4⟩:=u6 v L
 subst h1
 have h5:=Ap3 h h4
 rw [h2]
 unfold ofA
 rw [List.filter_append,List.filter_cons,if_pos (by simp),List.filter_append]
 refine (BI2 (fun u hu=>h3 u (List.mem_filter.1 hu).1) fun u Y' e=>h5 u ?_).symm
 have : u ∈ Y.filter fun w=>decide (w.1=v.1):=by rw [e];exact List.mem_cons_self ..
 exact (List.mem_filter.1 this).1
theorem Am0 {v:Vw} {L:List Vw} {a:Nat} (h:a ≠ v.1):ofA a (Ab6 v L)=ofA a L:=by
 obtain ⟨X,Y,h1,h2,_⟩:=u6 v L
 rw [h2,h1];unfold ofA
 rw [List.filter_append,List.filter_cons,if_neg (by simp;omega),List.filter_append]
theorem Af8 {v:Vw} {L:List Vw} (h:srt L) (hn:∀ u ∈ L,¬ atV (v.1,v.2.1) u):srt (Ab6 v L):=by
 obtain ⟨X,Y,h1,h2,h3,h4⟩:=u6 v L
 subst h1
 have h5:=Ap3 h h4
 have h6:=List.pairwise_append.1 h
 rw [h2]
 refine List.pairwise_append.2 ⟨h6.1,List.pairwise_cons.2 ⟨fun u hu=>?_,h6.2.1⟩,fun u hu w hw=>?_⟩
 ·have h7:=h5 u hu
  have h8:=hn u (List.mem_append_right _ hu)
  unfold bef at *;unfold atV at h8;omega
 ·rcases List.mem_cons.1 hw with rfl|hw
  ·exact h3 u hu
  ·exact h6.2.2 u hu w hw
theorem J8 {a:Nat} {v:Vw} {L:List Vw}:v ∈ ofA a L ↔ v ∈ L∧v.1=a:=by unfold ofA;simp
theorem Ap2 {L:List Vw} (h:srt L) {u v:Vw} (hu:u ∈ L) (hv:v ∈ L) (h1:u.1=v.1) (h2:u.2.1=v.2.1):u=v:=by
 induction L with
 | nil=>cases hu
 | cons x L ih =>
  have hp:=List.pairwise_cons.1 h
  rcases List.mem_cons.1 hu with e|hu'<;>rcases List.mem_cons.1 hv with e'|hv'
  ·rw [e,e']
  ·subst e;have:=hp.1 v hv';unfold bef at this;omega
  ·subst e';have:=hp.1 u hu';unfold bef at this;omega
  ·exact ih hp.2 hu' hv'
abbrev En:=(Nat × Nat) × Nat
def AG8 (e:En):AV × AV:=(.agg [.int .i64 (e.1.1:Nat),.int .i64 (e.1.2:Nat)],.int .i64 (e.2:Nat))
theorem H9 {E:List En}:∀ e ∈ E.map AG8,Plain e.1∧Plain e.2:=fun e he=>by
 obtain ⟨x,_,rfl⟩:=List.mem_map.1 he
 refine ⟨K8 fun y hy=>?_,A8⟩
 simp only [List.mem_cons,List.not_mem_nil,or_false] at hy
 rcases hy with rfl|rfl<;>exact A8
theorem BH1 (a k:Nat):∀ E:List En,AG7 true [0,0] [.int .i64 (a:Nat),.int .i64 (k:Nat)] (E.map AG8)=some (E.findIdx? fun e=>decide (e.1=(a,k)))
 | []=>rfl
 | e::E=>by
  obtain ⟨⟨b,l⟩,s⟩:=e
  have ih:=BH1 a k E
  rw [List.map_cons,List.findIdx?_cons]
  simp only [AG7,AG8,BH9,List.all_cons,List.all_nil,AV.isInt,Bool.and_self,and_self,if_true,eqL,eq1,Option.bind_some,Option.map_some]
  by_cases h:b=a∧l=k
  ·obtain ⟨rfl,rfl⟩:=h
   simp
  ·have h1:(((a:Nat):Int) == ((b:Nat):Int) && (((k:Nat):Int) == ((l:Nat):Int) && true))=false:=by
    by_cases hb:b=a
    ·subst hb
     have hl:¬ (k:Int)=l:=fun e=>h ⟨rfl,by omega⟩
     simp [hl]
    ·have hb':¬ (a:Int)=b:=fun e=>hb (by omega)
     simp [hb']
   rw [h1]
   have h2:decide ((b,l)=(a,k))=false:=by simp;omega
   rw [h2]
   simp only [Bool.false_eq_true,if_false]
   rw [ih]
   rfl
theorem mf_no {E:List En} {a k:Nat} (h:∀ s,((a,k),s) ∉ E):AG7 true [0,0] [.int .i64 (a:Nat),.int .i64 (k:Nat)] (E.map AG8)=some none:=by
 rw [BH1]
 congr 1
 rw [List.findIdx?_eq_none_iff]
 intro e he
 simp only [decide_eq_false_iff_not]
 intro e1
 obtain ⟨p,s⟩:=e
 dsimp only at e1
 subst e1
 exact h s he
theorem Ag3 {E:List En} (hn:(E.map (·.1)).Nodup) {p:Nat × Nat} {s s':Nat} (h:(p,s) ∈ E) (h':(p,s') ∈ E):s=s':=by
 induction E with
 | nil=>cases h
 | cons e E ih =>
  rw [List.map_cons,List.nodup_cons] at hn
  rcases List.mem_cons.1 h with e1|h1<;>rcases List.mem_cons.1 h' with e2|h2
  ·rw [← e1] at e2;exact (Prod.mk.inj e2).2.symm
  ·rw [← e1] at hn;exact absurd (List.mem_map.2 ⟨_,h2,rfl⟩) hn.1
  ·rw [← e2] at hn;exact absurd (List.mem_map.2 ⟨_,h1,rfl⟩) hn.1
  ·exact ih hn.2 h1 h2
theorem mf_yes {E:List En} (hn:(E.map (·.1)).Nodup) {a k s:Nat} (h:((a,k),s) ∈ E):∃ j,AG7 true [0,0] [.int .i64 (a:Nat),.int .i64 (k:Nat)] (E.map AG8)=some (some j)∧(E.map AG8)[j]? = some (AG8 ((a,k),s))∧E[j]? = some ((a,k),s):=by
 rw [BH1]
 cases hf:E.findIdx? fun e=>decide (e.1=(a,k)) with
 | none =>
  rw [List.findIdx?_eq_none_iff] at hf
  have:=hf _ h
  simp at this
 | some j =>
  rw [List.findIdx?_eq_some_iff_getElem] at hf
  obtain ⟨hj,h1,_⟩:=hf
  have h2:E[j] ∈ E:=List.getElem_mem hj
  simp only [decide_eq_true_eq] at h1
  have h3:E[j]=((a,k),s):=by
   have e2:E[j]=((a,k),E[j].2):=by rw [← h1]
   rw [e2] at h2
   rw [e2,Ag3 hn h2 h]
  have h4:E[j]? = some ((a,k),s):=by rw [List.getElem?_eq_getElem hj,h3]
  exact ⟨j,rfl,by rw [List.getElem?_map,h4];rfl,h4⟩
theorem put_E {E:List En} {a k s:Nat}:mputV (E.map AG8) none (.agg [.int .i64 (a:Nat),.int .i64 (k:Nat)]) (.int .i64 (s:Nat))=(E++[((a,k),s)]).map AG8:=by simp [mputV,AG8]
theorem Ay9 {α β:Type} (f:α→β):∀ (l:List α) (j:Nat),(l.map f).eraseIdx j=(l.eraseIdx j).map f
 | [],_=>rfl
 | _::_,0=>rfl
 | x::l,j+1=>by simp [Ay9 f l j]
theorem cut_E {E:List En} {j:Nat}:mcutV (E.map AG8) (some j)=(E.eraseIdx j).map AG8:=by simp only [mcutV,Ay9]
theorem mem_erase {E:List En} (hn:(E.map (·.1)).Nodup) {j:Nat} {x:En} (hj:E[j]? = some x) {e:En}:e ∈ E.eraseIdx j ↔ e ∈ E∧e.1 ≠ x.1:=by
 obtain ⟨hlt,rfl⟩:=List.getElem?_eq_some_iff.1 hj
 constructor
 ·intro h
  obtain ⟨i,hi,h1⟩:=List.mem_eraseIdx_iff_getElem?.1 h
  refine ⟨List.mem_of_getElem? h1,fun he=>hi ?_⟩
  obtain ⟨hi',e1⟩:=List.getElem?_eq_some_iff.1 h1
  have h2:(E.map (·.1))[i]'(by simpa using hi')=(E.map (·.1))[j]'(by simpa using hlt):=by simp only [List.getElem_map];rw [e1,he]
  exact (List.getElem_inj hn).1 h2
 ·rintro ⟨h,hne⟩
  obtain ⟨i,hi⟩:=List.getElem?_of_mem h
  refine List.mem_eraseIdx_iff_getElem?.2 ⟨i,fun e1=>hne ?_,hi⟩
  subst e1
  rw [List.getElem?_eq_getElem hlt] at hi
  exact (Option.some.inj hi).symm▸rfl
end Go.Pol
namespace Go.Pol
open Go.Am
def Av4 (C:Nat→Nat) (i v:Nat):Nat→Nat:=fun j=>if j=i then v else C j
def tabC (p m:Nat) (C:Nat→Nat):List AV:=.ptr p 0 :: .mapr m::memA 1024 fun f=>.int .i64 (C f:Nat)
theorem tab_len {p m:Nat} {C:Nat→Nat}:(tabC p m C).length=1026:=by simp [tabC,R5]
theorem tab_get {p m:Nat} {C:Nat→Nat} {f:Nat} (h:f < 1024):(tabC p m C)[2+f]? = some (.int .i64 (C f:Nat)):=by
 rw [show 2+f=f+1+1 by omega]
 simp only [tabC,List.getElem?_cons_succ]
 exact Q5 h
theorem tab_set {p m:Nat} {C:Nat→Nat} {f:Nat} {v:Int} {w:Nat} (hv:v=(w:Int)):(tabC p m C).set (2+f) (.int .i64 v)=tabC p m (Av4 C f w):=by
 rw [show 2+f=f+1+1 by omega]
 simp only [tabC,List.set_cons_succ]
 subst hv
 rw [AP4]
 congr 2
 refine U7 fun j _=>?_
 unfold Av4
 split<;>rfl
theorem P9 {C:Nat→Nat}:∀ x ∈ memA 1024 (fun f=>AV.int .i64 (C f:Nat)),Plain x:=AB4 fun _ _=>A8
end Go.Pol
namespace Go.Proofs.YtphggldkligldaaGreat.Sh
open Go Go.Am Go.Pol
def num (x:Nat):PV:=⟨.int .i64 (x:Nat),A8⟩
def bo (b:Bool):PV:=⟨.bool b,A9⟩
structure TS where
 n:Nat
 m:Nat
 V:Nat→PV
 W:Nat→PV
 V3:Nat→PV
 V4:Nat→PV
 Q:Nat→List Nat
 S:PS
 U:Nat→Vw
 E:List En
 C:Nat→Nat
structure TOk (L:List Vw) (t:TS):Prop where
 hn:t.n=2000
 hm:t.m=64
 pool:BK7 t.n t.m t.V t.W t.V3 t.V4 t.Q t.S
 val:∀ a s,s ∈ t.Q a→t.V s=num (t.U s).1∧t.W s=num (t.U s).2.1∧t.V3 s=num (t.U s).2.2.1∧t.V4 s=bo (t.U s).2.2.2
 lst:∀ a,(t.Q a).map t.U=ofA a L
 keys:(t.E.map (·.1)).Nodup
 ent:∀ p s,(p,s) ∈ t.E ↔ s ∈ t.Q p.1∧(t.U s).2.1=p.2
 elen:t.E.length=L.length
 cnt:∀ f,t.C f=cntF L f
 ok:∀ v ∈ L,v.1 < 64∧v.2.1 < 1024∧v.2.2.1 < 1024
 srt:srt L
 len:L.length≤2000
def tabS (t:TS):List (Nat × AObj):=[(0,.cells (tabC 1 4 t.C)),(1,.cells [.sl 2 0 t.n t.n 7,.sl 3 0 t.m t.m 3,.int .i64 (t.S.fr:Nat)]),(2,.cells (C9 t.n t.V t.W t.V3 t.V4 t.S.L t.S.N t.S.P)),(3,.cells (J5 t.m t.S.A t.S.B t.S.C)),(4,.maps (t.E.map AG8))]
theorem P6 {p:Nat→Nat→Prop} {n:Nat} {V W V3 V4:Nat→PV} {L N P:Nat→Int}:RnL p (C9 n V W V3 V4 L N P) (C9 n V W V3 V4 L N P):=C8 F5
theorem V8 {p:Nat→Nat→Prop} {m:Nat} {A B C:Nat→Int}:RnL p (J5 m A B C) (J5 m A B C):=C8 F8
theorem AH7 {σ:Nat→Nat} {h h':Hp} {i p m p' m':Nat} {C:Nat→Nat} {r:List (Nat × AObj)} (hs:AI3 σ h h') (h1:i < h'.next) (h2:lk h.l (σ i)=some (.cells (tabC p m C))) (e1:σ p'=p) (hp:p' < h'.next) (e2:σ m'=m) (hm:m' < h'.next) (h4:WkO Tryz.prog σ h h' r):WkO Tryz.prog σ h h' ((i,.cells (tabC p' m' C))::r):=by
 have mp:∀ {l:List AV},(∀ x ∈ l,Plain x)→WkL Tryz.prog σ h h' l l:=fun {l}=>by
  induction l with
  | nil=>exact fun _=>trivial
  | cons x l ih=>exact fun hp=>⟨K5 hs (hp x (List.mem_cons_self ..)),ih fun y hy=>hp y (List.mem_cons_of_mem _ hy)⟩
 exact J3 h1 h2 (D5 (X9 e1 hp) (D5 (wk_map e2 hm) (mp P9))) h4
structure X7 (f:Nat) (avs:List AV) (t:TS) (r:AV) (t':TS):Prop where
 out:AQ1 Tryz.prog G0 f (.ptr 0 0::avs) (tabS t) 5 fun x h1=>x=r∧h1=⟨tabS t',5⟩
 pa:∀ x ∈ avs,Plain x
 pr:Plain r
theorem M4 {top:Bool} {h:Hp} {N0:Nat} {x r:AV} {t:TS} (hr:x=r) (hp:Plain r) (h0:lk h.l 0=some (.cells (tabC 1 4 t.C))) (h1:lk h.l 1=some (.cells [.sl 2 0 t.n t.n 7,.sl 3 0 t.m t.m 3,.int .i64 (t.S.fr:Nat)])) (h2:lk h.l 2=some (.cells (C9 t.n t.V t.W t.V3 t.V4 t.S.L t.S.N t.S.P))) (h3:lk h.l 3=some (.cells (J5 t.m t.S.A t.S.B t.S.C))) (h4:lk h.l 4=some (.maps (t.E.map AG8))) (hN0:N0≤5:=by decide) :
  AR3 top Tryz.prog N0 h x (fun r' h'=>r'=r∧h'=⟨tabS t,5⟩):=by
 subst hr
 have hs:AI3 (rn []) h ⟨tabS t,5⟩:=fun i o hi=>by
  simp only [tabS,lk] at hi
  show ∃ o',lk h.l i=some o'
  split at hi
  ·rename_i e;subst e;exact ⟨_,h0⟩
  ·split at hi
   ·rename_i e;subst e;exact ⟨_,h1⟩
   ·split at hi
    ·rename_i e;subst e;exact ⟨_,h2⟩
    ·split at hi
     ·rename_i e;subst e;exact ⟨_,h3⟩
     ·split at hi
      ·rename_i e;subst e;exact ⟨_,h4⟩
      ·cases hi
 have mp:∀ {l:List AV},(∀ x ∈ l,Plain x)→WkL Tryz.prog (rn []) h ⟨tabS t,5⟩ l l:=fun {l}=>by
  induction l with
  | nil=>exact fun _=>trivial
  | cons x l ih=>exact fun hp=>⟨K5 hs (hp x (List.mem_cons_self ..)),ih fun y hy=>hp y (List.mem_cons_of_mem _ hy)⟩
 refine j6 [] rfl hN0 (L6 rfl) (K5 hs hp) ?_ ⟨rfl,rfl⟩
 exact J3 (show 0 < 5 by decide) h0 (D5 (X9 (i:=1) rfl (show 1 < 5 by decide)) (D5 (wk_map (i:=4) rfl (show 4 < 5 by decide)) (mp P9)))
  (J3 (show 1 < 5 by decide) h1 (D5 (j4 rfl (show 2 < 5 by decide) rfl (Nat.le_refl _) (Nat.le_refl _)) (D5 (j4 rfl (show 3 < 5 by decide) rfl (Nat.le_refl _) (Nat.le_refl _)) (D5 (L8 rfl) J4)))
  (E8 hs (show 2 < 5 by decide) h2 rfl F5 (E8 hs (show 3 < 5 by decide) h3 rfl F8 (x9 hs (show 4 < 5 by decide) h4 rfl H9 J6))))
theorem Z0 {f:Nat} {avs:List AV} {t t':TS} {a b c d e nx:Nat} {l:List (Nat × AObj)} {r:AV} {K:AV→Hp→Prop} (hc:X7 f avs t r t')
  (h0:lk l a=some (.cells (tabC b e t.C))) (h1:lk l b=some (.cells [.sl c 0 t.n t.n 7,.sl d 0 t.m t.m 3,.int .i64 (t.S.fr:Nat)])) (h2:lk l c=some (.cells (C9 t.n t.V t.W t.V3 t.V4 t.S.L t.S.N t.S.P))) (h3:lk l d=some (.cells (J5 t.m t.S.A t.S.B t.S.C))) (h4:lk l e=some (.maps (t.E.map AG8)))
  (hlt:a < nx∧b < nx∧c < nx∧d < nx∧e < nx) (hd:AY6 [a,b,c,d,e]=true)
  (hk:AG1 [a,b,c,d,e] l fun l2=>K r ⟨[(a,.cells (tabC b e t'.C)),(b,.cells [.sl c 0 t'.n t'.n 7,.sl d 0 t'.m t'.m 3,.int .i64 (t'.S.fr:Nat)]),(c,.cells (C9 t'.n t'.V t'.W t'.V3 t'.V4 t'.S.L t'.S.N t'.S.P)),(d,.cells (J5 t'.m t'.S.A t'.S.B t'.S.C)),(e,.maps (t'.E.map AG8))]++l2,nx⟩):AB8 Tryz.prog G0 (.fn f [] []) (.ptr a 0::avs) ⟨l,nx⟩ K:=by
 have q3:∀ {p:Nat→Nat→Prop} {i j i' j':Nat} {C:Nat→Nat},p i i'→p j j'→RnL p (tabC i j C) (tabC i' j' C):=fun {p i j i' j' C} h h'=>⟨H8 h,rn_map h',C8 P9⟩
 have e0:enter [a,b,c,d,e] a 0:=rfl
 have e1:enter [a,b,c,d,e] b 1:=rfl
 have e2:enter [a,b,c,d,e] c 2:=rfl
 have e3:enter [a,b,c,d,e] d 3:=rfl
 have e4:enter [a,b,c,d,e] e 4:=rfl
 have k0:back [a,b,c,d,e] nx 0 a:=rfl
 have k1:back [a,b,c,d,e] nx 1 b:=rfl
 have k2:back [a,b,c,d,e] nx 2 c:=rfl
 have k3:back [a,b,c,d,e] nx 3 d:=rfl
 have k4:back [a,b,c,d,e] nx 4 e:=rfl
 refine AA9 (l1:=[(a,.cells (tabC b e t'.C)),(b,.cells [.sl c 0 t'.n t'.n 7,.sl d 0 t'.m t'.m 3,.int .i64 (t'.S.fr:Nat)]),(c,.cells (C9 t'.n t'.V t'.W t'.V3 t'.V4 t'.S.L t'.S.N t'.S.P)),(d,.cells (J5 t'.m t'.S.A t'.S.B t'.S.C)),(e,.maps (t'.E.map AG8))]) [a,b,c,d,e] hc.out I7 hd
  (.cons e0 h0 (q3 e1 e4) (.cons e1 h1 ⟨J7 e2,J7 e3,D6 A8,trivial⟩ (.cons e2 h2 P6 (.cons e3 h3 V8 (.maps e4 h4 H9 .nil)))))
  ?_ (by intro x hx;simp only [List.mem_cons,List.not_mem_nil,or_false] at hx;omega) (D6 hc.pr)
  (.cons k0 (q3 k1 k4) (.cons k1 ⟨J7 k2,J7 k3,D6 A8,trivial⟩ (.cons k2 P6 (.cons k3 V8 (.maps k4 H9 .nil))))) hk
 simp only [List.nil_append,List.append_nil]
 exact ⟨H8 e0,C8 hc.pa⟩
theorem BJ5 {f:Nat} {avs:List AV} {t t':TS} {a b c d e:Nat} {h:Hp} {r:AV} {K:AV→Up→List Nat→Prop} (hc:X7 f avs t r t')
  (h0:lk h.l a=some (.cells (tabC b e t.C))) (h1:lk h.l b=some (.cells [.sl c 0 t.n t.n 7,.sl d 0 t.m t.m 3,.int .i64 (t.S.fr:Nat)])) (h2:lk h.l c=some (.cells (C9 t.n t.V t.W t.V3 t.V4 t.S.L t.S.N t.S.P))) (h3:lk h.l d=some (.cells (J5 t.m t.S.A t.S.B t.S.C))) (h4:lk h.l e=some (.maps (t.E.map AG8)))
  (hd:AY6 [a,b,c,d,e]=true) (hnx':[a,b,c,d,e].contains h.next=false)
  (hk:K r [(a,some (.cells (tabC b e t'.C))),(b,some (.cells [.sl c 0 t'.n t'.n 7,.sl d 0 t'.m t'.m 3,.int .i64 (t'.S.fr:Nat)])),(c,some (.cells (C9 t'.n t'.V t'.W t'.V3 t'.V4 t'.S.L t'.S.N t'.S.P))),(d,some (.cells (J5 t'.m t'.S.A t'.S.B t'.S.C))),(e,some (.maps (t'.E.map AG8)))] [a,b,c,d,e]):AR4 Tryz.prog G0 f (.ptr a 0::avs) h K:=by
 have hnx:h.next ∉ [a,b,c,d,e]:=fun hm=>by rw [List.contains_eq_mem,decide_eq_false_iff_not] at hnx';exact hnx' hm
 have q3:∀ {p:Nat→Nat→Prop} {i j i' j':Nat} {C:Nat→Nat},p i i'→p j j'→RnL p (tabC i j C) (tabC i' j' C):=fun {p i j i' j' C} h h'=>⟨H8 h,rn_map h',C8 P9⟩
 have e0:enter [a,b,c,d,e] a 0:=rfl
 have e1:enter [a,b,c,d,e] b 1:=rfl
 have e2:enter [a,b,c,d,e] c 2:=rfl
 have e3:enter [a,b,c,d,e] d 3:=rfl
 have e4:enter [a,b,c,d,e] e 4:=rfl
 have k0:U2 [a,b,c,d,e] 0 a:=rfl
 have k1:U2 [a,b,c,d,e] 1 b:=rfl
 have k2:U2 [a,b,c,d,e] 2 c:=rfl
 have k3:U2 [a,b,c,d,e] 3 d:=rfl
 have k4:U2 [a,b,c,d,e] 4 e:=rfl
 refine At3 (l1:=[(a,.cells (tabC b e t'.C)),(b,.cells [.sl c 0 t'.n t'.n 7,.sl d 0 t'.m t'.m 3,.int .i64 (t'.S.fr:Nat)]),(c,.cells (C9 t'.n t'.V t'.W t'.V3 t'.V4 t'.S.L t'.S.N t'.S.P)),(d,.cells (J5 t'.m t'.S.A t'.S.B t'.S.C)),(e,.maps (t'.E.map AG8))]) [a,b,c,d,e] hc.out I7 hd
  (.cons e0 h0 (q3 e1 e4) (.cons e1 h1 ⟨J7 e2,J7 e3,D6 A8,trivial⟩ (.cons e2 h2 P6 (.cons e3 h3 V8 (.maps e4 h4 H9 .nil)))))
  hnx ?_ ?_ ⟨H8 e0,C8 hc.pa⟩ (D6 hc.pr)
  (.cons k0 (q3 k1 k4) (.cons k1 ⟨J7 k2,J7 k3,D6 A8,trivial⟩ (.cons k2 P6 (.cons k3 V8 (.maps k4 H9 .nil))))) hk
 ·intro x hx
  simp only [lk]
  repeat' split
  all_goals first|exact ⟨_,rfl⟩|(exfalso;simp only [List.mem_cons,List.not_mem_nil,or_false] at hx;omega)
 ·intro j x hx
  have : j < 5:=(List.getElem?_eq_some_iff.1 hx).1
  simp only [tabS,lk]
  repeat' split
  all_goals first|exact ⟨_,rfl⟩|(exfalso;omega)
end Go.Proofs.YtphggldkligldaaGreat.Sh
namespace Go.Proofs.YtphggldkligldaaGreat.Sh
open Go Go.Am Go.Pol
theorem plx_Yc {p:Prop} (h:p:=by ((first|exact plw|fail);first|done|fail)):p:=h
theorem ppx_Yc {p:Prop} (h:p:=by ((first|with_reducible assumption|(with_reducible first|apply U8|apply F5|apply F8|apply P9|apply P5 _ _|fail)|exact ppw|fail);first|done|fail)):p:=h
open Go.Proofs.YtphggldkligldaaGreat.Sh renaming plx_Yc → plx
open Go.Proofs.YtphggldkligldaaGreat.Sh renaming ppx_Yc → ppx
theorem wx_Yc {p q:Prop} (hq:q) (h:X5 q→p:=by (intro hQz;((repeat' ((try (conv=>whnf));first|refine sxA ?_|refine G5 (by with_reducible assumption) ?_|refine sxF ?_|refine sxH ?_|((with_reducible first|apply N9 hQz|apply O1 hQz)<;>(try intro hsp hQz))|exact hQz.out))<;>(try (conv=>whnf))))):p:=h ⟨hq⟩
def inR (m x:Int):Prop:=0≤x∧x < m
instance (m x:Int):Decidable (inR m x):=by unfold inR;infer_instance
def intC (x:Int):AV:=.int .i64 x
theorem U8 {l:List Int}:∀ x ∈ l.map intC,Plain x:=fun x hx=>by
 obtain ⟨y,_,rfl⟩:=List.mem_map.1 hx;exact A8
structure LocV (f:Nat) (cs:List AV) (n:Nat) (r:AV):Prop where
 out:AQ1 Tryz.prog G0 f [.sl 0 0 n n 1] [(0,.cells cs)] 1 fun x h1=>x=r∧h1=⟨[(0,.cells cs)],1⟩
 pc:∀ x ∈ cs,Plain x
 pr:Plain r
theorem AS8 {f n:Nat} {cs:List AV} {a nx:Nat} {l:List (Nat × AObj)} {r:AV} {K:AV→Hp→Prop} (hc:LocV f cs n r) (hl0:lk l a=some (.cells cs)) (hlt:a < nx) (hk:AG1 [a] l fun l2=>K r ⟨[(a,.cells cs)]++l2,nx⟩):AB8 Tryz.prog G0 (.fn f [] []) [.sl a 0 n n 1] ⟨l,nx⟩ K:=by
 have e0:enter [a] a 0:=rfl
 have k0:back [a] nx 0 a:=rfl
 refine AA9 (l1:=[(a,.cells cs)]) [a] hc.out I7 rfl (.cons e0 hl0 (C8 hc.pc) .nil) ?_ (by intro x hx;simp only [List.mem_cons,List.not_mem_nil,or_false] at hx;omega) (D6 hc.pr) (.cons k0 (C8 hc.pc) .nil) hk
 simp only [List.nil_append,List.append_nil]
 exact ⟨J7 e0,trivial⟩
theorem BO1 {l:List Int} {i:Nat} (h:i < l.length):(l.map intC)[i]? = some (.int .i64 (nth 0 l i)):=by
 rw [List.getElem?_map,List.getElem?_eq_getElem h,P7 h];rfl
theorem k_pages (l:List Int) (hl:l.length≤10):LocV 120 (l.map intC) l.length (.int .i64 (if ∀ x ∈ l,inR 1024 x then 0 else 7)):=by
 refine LocV.mk (D9 E9 b120 rfl ?_) U8 A8
 unfold c120
 (refine wx_Yc ?_;repeat' (first|with_reducible refine And.intro ?_ ?_|intro hsp))
 (refine F6 [] (fun (i:Nat)=>[(5,.sl 0 0 l.length l.length 1),(6,.int .i64 (l.length:Nat)),(7,.int .i64 (i:Nat))]) (fun (i:Nat)=>⟨[(0,.cells (l.map intC))],1⟩) (fun (i:Nat)=>i≤l.length∧∀ x ∈ l.take i,inR 1024 x) (fun (i:Nat)=>l.length - i) (0) [] rfl (fun _=>by first|exact Nat.zero_le _|(dsimp only;omega)) ?_ (by ((try (conv=>whnf));exact Ak0)) ?_)
 ·exact ⟨Nat.zero_le _,fun x hx=>by simp at hx⟩
 rintro i ⟨hi,hin⟩
 by_cases hil:i < l.length
 ·have h0:=BO1 hil
  have hmem:nth 0 l i ∈ l:=AD4 hil
  have htk:l.take (i+1)=l.take i++[nth 0 l i]:=by rw [y9 (d:=0) hil]
  generalize nth 0 l i=y at h0 hmem htk
  by_cases hy:inR 1024 y
  ·have hy1:0≤y:=hy.1
   have hy2:y < 1024:=hy.2
   (refine wx_Yc ?_;repeat' (first|with_reducible refine And.intro ?_ ?_|intro hsp))
   exact F3 (i+1) [] ⟨hil,fun x hx=>by rw [htk] at hx;rcases List.mem_append.1 hx with h|h;exact hin x h;obtain rfl:=List.mem_singleton.1 h;exact hy⟩ (by first|omega|(dsimp only;omega)) rfl (by exact Ak0)
  ·have hy2:y < 0∨1024≤y:=by unfold inR at hy;omega
   (refine wx_Yc ?_;repeat' (first|with_reducible refine And.intro ?_ ?_|intro hsp))
   all_goals (rw [if_neg fun h=>hy (h y hmem)];exact AG9 rfl A8 rfl U8)
 ·rw [if_pos (by rw [show i=l.length by omega,List.take_length] at hin;exact hin)]
  (refine wx_Yc ?_;repeat' (first|with_reducible refine And.intro ?_ ?_|intro hsp))
  exact AG9 rfl A8 rfl U8
theorem AV3 (x:Int):LocV 120 [.int .i64 x] 1 (.int .i64 (if inR 1024 x then 0 else 7)):=by
 have h:=k_pages [x] (by simp)
 rw [show (if ∀ y ∈ [x],inR 1024 y then (0:Int) else 7)=if inR 1024 x then 0 else 7 by congr 1;simp] at h
 exact h
theorem k_pages2 (x y:Int):LocV 120 [.int .i64 x,.int .i64 y] 2 (.int .i64 (if inR 1024 x∧inR 1024 y then 0 else 7)):=by
 have h:=k_pages [x,y] (by simp)
 rw [show (if ∀ z ∈ [x,y],inR 1024 z then (0:Int) else 7)=if inR 1024 x∧inR 1024 y then 0 else 7 by congr 1;simp] at h
 exact h
theorem BP1 (l:List Int) (hl:l.length≤10):LocV 143 (l.map intC) l.length (.int .i64 (if ∀ x ∈ l,inR 64 x then 0 else 7)):=by
 refine LocV.mk (D9 E9 b143 rfl ?_) U8 A8
 unfold c143
 (refine wx_Yc ?_;repeat' (first|with_reducible refine And.intro ?_ ?_|intro hsp))
 (refine F6 [] (fun (i:Nat)=>[(5,.sl 0 0 l.length l.length 1),(6,.int .i64 (l.length:Nat)),(7,.int .i64 (i:Nat))]) (fun (i:Nat)=>⟨[(0,.cells (l.map intC))],1⟩) (fun (i:Nat)=>i≤l.length∧∀ x ∈ l.take i,inR 64 x) (fun (i:Nat)=>l.length - i) (0) [] rfl (fun _=>by first|exact Nat.zero_le _|(dsimp only;omega)) ?_ (by ((try (conv=>whnf));exact Ak0)) ?_)
 ·exact ⟨Nat.zero_le _,fun x hx=>by simp at hx⟩
 rintro i ⟨hi,hin⟩
 by_cases hil:i < l.length
 ·have h0:=BO1 hil
  have hmem:nth 0 l i ∈ l:=AD4 hil
  have htk:l.take (i+1)=l.take i++[nth 0 l i]:=by rw [y9 (d:=0) hil]
  generalize nth 0 l i=y at h0 hmem htk
  by_cases hy:inR 64 y
  ·have hy1:0≤y:=hy.1
   have hy2:y < 64:=hy.2
   (refine wx_Yc ?_;repeat' (first|with_reducible refine And.intro ?_ ?_|intro hsp))
   exact F3 (i+1) [] ⟨hil,fun x hx=>by rw [htk] at hx;rcases List.mem_append.1 hx with h|h;exact hin x h;obtain rfl:=List.mem_singleton.1 h;exact hy⟩ (by first|omega|(dsimp only;omega)) rfl (by exact Ak0)
  ·have hy2:y < 0∨64≤y:=by unfold inR at hy;omega
   (refine wx_Yc ?_;repeat' (first|with_reducible refine And.intro ?_ ?_|intro hsp))
   all_goals (rw [if_neg fun h=>hy (h y hmem)];exact AG9 rfl A8 rfl U8)
 ·rw [if_pos (by rw [show i=l.length by omega,List.take_length] at hin;exact hin)]
  (refine wx_Yc ?_;repeat' (first|with_reducible refine And.intro ?_ ?_|intro hsp))
  exact AG9 rfl A8 rfl U8
theorem AJ3 (x:Int):LocV 143 [.int .i64 x] 1 (.int .i64 (if inR 64 x then 0 else 7)):=by
 have h:=BP1 [x] (by simp)
 rw [show (if ∀ y ∈ [x],inR 64 y then (0:Int) else 7)=if inR 64 x then 0 else 7 by congr 1;simp] at h
 exact h
theorem Ag9 (x y:Int):LocV 143 [.int .i64 x,.int .i64 y] 2 (.int .i64 (if inR 64 x∧inR 64 y then 0 else 7)):=by
 have h:=BP1 [x,y] (by simp)
 rw [show (if ∀ z ∈ [x,y],inR 64 z then (0:Int) else 7)=if inR 64 x∧inR 64 y then 0 else 7 by congr 1;simp] at h
 exact h
end Go.Proofs.YtphggldkligldaaGreat.Sh
namespace Go.Proofs.YtphggldkligldaaGreat.Sh
open Go Go.Am Go.Pol
theorem wx_Yd {p q:Prop} (hq:q) (h:X5 q→p:=by (intro hQz;((repeat' ((try (conv=>whnf));first|refine sxA ?_|refine BO4 (by assumption) rfl rfl rfl ?_|refine Ay6 hm hj rfl rfl rfl rfl ?_|refine G5 (by with_reducible assumption) ?_|refine AC7 (by with_reducible assumption) ?_|refine sxF ?_|refine Z0 (by assumption) rfl rfl rfl rfl rfl (by decide) rfl ?_|refine V5 (by assumption) rfl rfl rfl (by decide) (by first|(simp [A8];done)|fail) Aq3 rfl ?_|(refine X4 E9 b119 rfl ?_;unfold c119)|refine AS8 (by assumption) rfl (by omega) ?_|refine sxH ?_|((with_reducible first|apply N9 hQz|apply O1 hQz)<;>(try intro hsp hQz))|exact hQz.out))<;>(try (conv=>whnf))))):p:=h ⟨hq⟩
theorem I4 {a b:Int}:∀ x ∈ [AV.int .i64 a,.int .i64 b],Plain x:=fun x hx=>by
 simp only [List.mem_cons,List.not_mem_nil,or_false] at hx
 rcases hx with rfl|rfl<;>exact A8
theorem F7 {a b:Int}:Plain (.tup [.int .i64 a,.int .i64 b]):=G7 I4
section
variable {L:List Vw} {t:TS}
theorem Av8 (a k:Int) (h:¬ (inR 64 a∧inR 1024 k)):X7 148 [.int .i64 a,.int .i64 k] t (.tup [.int .i64 0,.int .i64 7]) t:=by
 refine X7.mk (D9 E9 b148 rfl ?_) I4 F7
 unfold c148
 have ha:=AJ3 a
 have hk:=AV3 k
 by_cases h1:inR 64 a
 ·rw [if_pos h1] at ha
  rw [if_neg fun h2=>h ⟨h1,h2⟩] at hk
  (refine wx_Yd ?_;repeat' (first|with_reducible refine And.intro ?_ ?_|intro hsp))
  all_goals exact M4 rfl F7 rfl rfl rfl rfl rfl
 ·rw [if_neg h1] at ha
  (refine wx_Yd ?_;repeat' (first|with_reducible refine And.intro ?_ ?_|intro hsp))
  all_goals exact M4 rfl F7 rfl rfl rfl rfl rfl
theorem Ac3 {a:Nat} (h:a < 64):inR 64 (a:Nat):=⟨Int.natCast_nonneg _,by omega⟩
theorem Az4 {a:Nat} (h:a < 1024):inR 1024 (a:Nat):=⟨Int.natCast_nonneg _,by omega⟩
theorem Af3 {a k:Nat} (ha':a < 64) (hk':k < 1024) (h:∀ s,((a,k),s) ∉ t.E):X7 148 [.int .i64 (a:Nat),.int .i64 (k:Nat)] t (.tup [.int .i64 0,.int .i64 4]) t:=by
 refine X7.mk (D9 E9 b148 rfl ?_) I4 F7
 unfold c148
 have ha:=AJ3 (a:Nat)
 have hk:=AV3 (k:Nat)
 rw [if_pos (Ac3 ha')] at ha
 rw [if_pos (Az4 hk')] at hk
 have hm:=mf_no h
 (refine wx_Yd ?_;repeat' (first|with_reducible refine And.intro ?_ ?_|intro hsp))
 all_goals exact M4 rfl F7 rfl rfl rfl rfl rfl
theorem BL6 {a k s:Nat} (ha':a < 64) (hk':k < 1024) (hn:(t.E.map (·.1)).Nodup) (h:((a,k),s) ∈ t.E):X7 148 [.int .i64 (a:Nat),.int .i64 (k:Nat)] t (.tup [.int .i64 (s:Nat),.int .i64 0]) t:=by
 refine X7.mk (D9 E9 b148 rfl ?_) I4 F7
 unfold c148
 have ha:=AJ3 (a:Nat)
 have hk:=AV3 (k:Nat)
 rw [if_pos (Ac3 ha')] at ha
 rw [if_pos (Az4 hk')] at hk
 obtain ⟨j,hm,hj,_⟩:=mf_yes hn h
 (refine wx_Yd ?_;repeat' (first|with_reducible refine And.intro ?_ ?_|intro hsp))
 all_goals exact M4 rfl F7 rfl rfl rfl rfl rfl
theorem TOk.slot (h:TOk L t) {v:Vw} (hv:v ∈ L):∃ s,s ∈ t.Q v.1∧t.U s=v:=by
 have h1:v ∈ ofA v.1 L:=J8.2 ⟨hv,rfl⟩
 rw [← h.lst] at h1
 obtain ⟨s,h2,h3⟩:=List.mem_map.1 h1
 exact ⟨s,h2,h3⟩
theorem TOk.view (h:TOk L t) {a s:Nat} (hs:s ∈ t.Q a):t.U s ∈ L∧(t.U s).1=a:=by
 have h1:t.U s ∈ ofA a L:=by rw [← h.lst];exact List.mem_map.2 ⟨s,hs,rfl⟩
 exact J8.1 h1
theorem TOk.entry (h:TOk L t) {v:Vw} {s:Nat} (hs:s ∈ t.Q v.1) (hu:t.U s=v):((v.1,v.2.1),s) ∈ t.E:=(h.ent _ _).2 ⟨hs,by rw [hu]⟩
theorem TOk.noentry (h:TOk L t) {a k:Nat} (hn:∀ v ∈ L,¬ atV (a,k) v):∀ s,((a,k),s) ∉ t.E:=fun s hs=>by
 obtain ⟨h1,h2⟩:=(h.ent _ _).1 hs
 obtain ⟨h3,h4⟩:=h.view h1
 exact hn _ h3 ⟨h4,h2⟩
theorem TOk.atq (h:TOk L t) {a s:Nat} (hs:s ∈ t.Q a):∃ X Y,AtQ t.m t.Q s a X Y:=by
 obtain ⟨X,Y,he⟩:=List.append_of_mem hs
 refine ⟨X,Y,?_,he⟩
 by_cases ha:a < t.m
 ·exact ha
 ·rw [h.pool.inv.st.out a (by omega)] at hs;cases hs
theorem O7 {v:Vw}:Plain (.agg (vwC v)):=K8 fun x hx=>by
 simp only [vwC,List.mem_cons,List.not_mem_nil,or_false] at hx
 rcases hx with rfl|rfl|rfl|rfl<;>first|exact A8|exact A9
theorem Aq3 {v:Vw} {e:Int}:Plain (.tup [.agg (vwC v),.int .i64 e]):=G7 fun x hx=>by
 simp only [List.mem_cons,List.not_mem_nil,or_false] at hx
 rcases hx with rfl|rfl
 ·exact O7
 ·exact A8
theorem TOk.get (h:TOk L t) {a s:Nat} (hs:s ∈ t.Q a):AE1 149 [.int .i64 (s:Nat)] t.n t.m (X0 t.n t.m t.V t.W t.V3 t.V4 t.S) (.tup [.agg (vwC (t.U s)),.int .i64 0]) (X0 t.n t.m t.V t.W t.V3 t.V4 t.S):=by
 obtain ⟨X,Y,hx⟩:=h.atq hs
 have h1:=p_get h.pool.inv hx
 obtain ⟨e1,e2,e3,e4⟩:=h.val a s hs
 rw [e1,e2,e3,e4] at h1
 exact h1
theorem Ac9 {e:Int}:Plain (.tup [.agg [.int .i64 0,.int .i64 0,.int .i64 0,.bool false],.int .i64 e]):=G7 fun x hx=>by
 simp only [List.mem_cons,List.not_mem_nil,or_false] at hx
 rcases hx with rfl|rfl
 ·exact Aq1
 ·exact A8
theorem t_Find (h:TOk L t) {v:Vw} (hv:v ∈ L):X7 89 [.int .i64 (v.1:Nat),.int .i64 (v.2.1:Nat)] t (.tup [.agg (vwC v),.int .i64 0]) t:=by
 obtain ⟨s,hs,hu⟩:=h.slot hv
 have hok:=h.ok v hv
 have hf:=BL6 hok.1 hok.2.1 h.keys (h.entry hs hu)
 have hg:=h.get hs
 rw [hu] at hg
 refine X7.mk (D9 E9 b89 rfl ?_) I4 Aq3
 unfold c89
 unfold vwC at hg ⊢
 (refine wx_Yd ?_;repeat' (first|with_reducible refine And.intro ?_ ?_|intro hsp))
 all_goals exact M4 rfl Aq3 rfl rfl rfl rfl rfl
theorem Af4 (h:TOk L t) {a k:Nat} (ha:a < 64) (hk:k < 1024) (hn:∀ v ∈ L,¬ atV (a,k) v):X7 89 [.int .i64 (a:Nat),.int .i64 (k:Nat)] t (.tup [.agg [.int .i64 0,.int .i64 0,.int .i64 0,.bool false],.int .i64 4]) t:=by
 have hf:=Af3 ha hk (h.noentry hn)
 refine X7.mk (D9 E9 b89 rfl ?_) I4 Ac9
 unfold c89
 (refine wx_Yd ?_;repeat' (first|with_reducible refine And.intro ?_ ?_|intro hsp))
 all_goals exact M4 rfl Ac9 rfl rfl rfl rfl rfl
theorem t_Find_no (a k:Int) (hn:¬ (inR 64 a∧inR 1024 k)):X7 89 [.int .i64 a,.int .i64 k] t (.tup [.agg [.int .i64 0,.int .i64 0,.int .i64 0,.bool false],.int .i64 7]) t:=by
 have hf:=Av8 (t:=t) a k hn
 refine X7.mk (D9 E9 b89 rfl ?_) I4 Ac9
 unfold c89
 (refine wx_Yd ?_;repeat' (first|with_reducible refine And.intro ?_ ?_|intro hsp))
 all_goals exact M4 rfl Ac9 rfl rfl rfl rfl rfl
theorem AO8 {a:Int}:∀ x ∈ [AV.int .i64 a],Plain x:=fun x hx=>by obtain rfl:=List.mem_singleton.1 hx;exact A8
theorem t_Count {f:Nat} (hf:f < 1024):X7 49 [.int .i64 (f:Nat)] t (.tup [.int .i64 (t.C f:Nat),.int .i64 0]) t:=by
 have hk:=AV3 (f:Nat)
 rw [if_pos (Az4 hf)] at hk
 have hc:(tabC 1 4 t.C)[2+f]? = some (.int .i64 (t.C f:Nat)):=tab_get hf
 refine X7.mk (D9 E9 b49 rfl ?_) AO8 F7
 unfold c49
 (refine wx_Yd ?_;repeat' (first|with_reducible refine And.intro ?_ ?_|intro hsp))
 all_goals exact M4 rfl F7 rfl rfl rfl rfl rfl
theorem AF7 {a b:Int} {w:Bool}:∀ x ∈ [AV.int .i64 a,.int .i64 b,.bool w],Plain x:=fun x hx=>by
 simp only [List.mem_cons,List.not_mem_nil,or_false] at hx
 rcases hx with rfl|rfl|rfl<;>first|exact A8|exact A9
theorem t_where (h:TOk L t) {v:Vw} (hv:v ∈ L) {at_:Nat} (hat:at_ < 65536) (hk:v.2.1=at_ / 64) {w:Bool} (hw:w=true→v.2.2.2=true) :
  X7 121 [.int .i64 (v.1:Nat),.int .i64 (at_:Nat),.bool w] t (.tup [.int .i64 ((v.2.2.1 * 64+at_ % 64:Nat):Int),.int .i64 0]) t:=by
 have hq:=q64 (t:=at_) (by omega)
 have hr:=m64 (t:=at_)
 have hok:=h.ok v hv
 have hf:=t_Find h hv
 obtain ⟨a,k,f,b⟩:=v
 dsimp only at hk hok hw
 subst hk
 unfold vwC at hf
 dsimp only at hf ⊢
 refine X7.mk (D9 E9 b121 rfl ?_) AF7 F7
 unfold c121
 cases w<;>cases b
 all_goals try (exfalso;simp at hw;done)
 all_goals (refine wx_Yd ?_;repeat' (first|with_reducible refine And.intro ?_ ?_|intro hsp))
 all_goals exact M4 (by congr 3) F7 rfl rfl rfl rfl rfl
theorem BS4 (h:TOk L t) {v:Vw} (hv:v ∈ L) {at_:Nat} (hat:at_ < 65536) (hk:v.2.1=at_ / 64) (hw:v.2.2.2=false) :
  X7 121 [.int .i64 (v.1:Nat),.int .i64 (at_:Nat),.bool true] t (.tup [.int .i64 0,.int .i64 220]) t:=by
 have hq:=q64 (t:=at_) (by omega)
 have hr:=m64 (t:=at_)
 have hok:=h.ok v hv
 have hf:=t_Find h hv
 obtain ⟨a,k,f,b⟩:=v
 dsimp only at hk hok hw
 subst hk hw
 unfold vwC at hf
 dsimp only at hf ⊢
 refine X7.mk (D9 E9 b121 rfl ?_) AF7 F7
 unfold c121
 (refine wx_Yd ?_;repeat' (first|with_reducible refine And.intro ?_ ?_|intro hsp))
 all_goals exact M4 rfl F7 rfl rfl rfl rfl rfl
theorem Av7 (h:TOk L t) {a at_:Nat} (ha:a < 64) (hat:at_ < 65536) (hn:∀ v ∈ L,¬ atV (a,at_ / 64) v) (w:Bool) :
  X7 121 [.int .i64 (a:Nat),.int .i64 (at_:Nat),.bool w] t (.tup [.int .i64 0,.int .i64 220]) t:=by
 have hq:=q64 (t:=at_) (by omega)
 have hr:=m64 (t:=at_)
 have hf:=Af4 h ha (k:=at_ / 64) (by omega) hn
 refine X7.mk (D9 E9 b121 rfl ?_) AF7 F7
 unfold c121
 (refine wx_Yd ?_;repeat' (first|with_reducible refine And.intro ?_ ?_|intro hsp))
 all_goals exact M4 rfl F7 rfl rfl rfl rfl rfl
end
end Go.Proofs.YtphggldkligldaaGreat.Sh
namespace Go.Pol
open Go.Am
theorem mem_upd {Q:Nat→List Nat} {k i t:Nat} {l:List Nat} (h:t ∈ AG6 Q k l i):(i=k∧t ∈ l)∨(i ≠ k∧t ∈ Q i):=by
 unfold AG6 at h
 by_cases e:i=k
 ·rw [if_pos e] at h;exact .inl ⟨e,h⟩
 ·rw [if_neg e] at h;exact .inr ⟨e,h⟩
theorem Af2 {Q:Nat→List Nat} {k i:Nat} {l:List Nat} (h:i ≠ k):AG6 Q k l i=Q i:=by simp [AG6,h]
theorem at_k {l:List Nat} {k x:Nat} (hx:l[k]? = some x):l=l.take k++x::l.drop (k+1):=by
 obtain ⟨h,rfl⟩:=List.getElem?_eq_some_iff.1 hx
 rw [← List.drop_eq_getElem_cons h,List.take_append_drop]
theorem lst_take {l:List Nat} {k:Nat} (hk:k≤l.length):lst (l.take k)=if k=0 then (-1:Int) else ((nth 0 l (k - 1):Nat):Int):=by
 cases k with
 | zero=>rfl
 | succ k =>
  rw [if_neg (by omega),show k+1 - 1=k by omega,y9 (d:=0) (by omega),AK4]
theorem sub_len:∀ {l l':List Nat},l.Nodup→(∀ x ∈ l,x ∈ l')→l.length≤l'.length
 | [],_,_,_=>Nat.zero_le _
 | x::l,l',hn,hs=>by
  obtain ⟨A,B,rfl⟩:=List.append_of_mem (hs x (List.mem_cons_self ..))
  have hn':=List.nodup_cons.1 hn
  have h:=sub_len (l:=l) (l':=A++B) hn'.2 fun y hy=>by
   have h1:=hs y (List.mem_cons_of_mem _ hy)
   simp only [List.mem_append,List.mem_cons] at h1 ⊢
   rcases h1 with h1|rfl|h1
   ·exact .inl h1
   ·exact absurd hy hn'.1
   ·exact .inr h1
  simp only [List.length_append,List.length_cons] at h ⊢;omega
theorem free_or (n:Nat) (Q:Nat→List Nat):(∃ s,Ah7 n Q s)∨fullAt n Q:=by
 by_cases h:∃ s,s < n∧∀ i,s ∉ Q i
 ·have lo:∀ k,(∃ s,s < k∧s < n∧∀ i,s ∉ Q i)→∃ s,Ah7 n Q s:=fun k=>by
   induction k with
   | zero=>rintro ⟨s,h,_⟩;omega
   | succ k ih =>
    rintro ⟨s,h1,h2,h3⟩
    by_cases hx:∃ s,s < k∧s < n∧∀ i,s ∉ Q i
    ·exact ih hx
    ·have e:s=k:=Nat.le_antisymm (by omega) (Nat.le_of_not_lt fun hlt=>hx ⟨s,hlt,h2,h3⟩)
     subst e
     exact ⟨s,h2,h3,fun t ht=>Classical.byContradiction fun hn=>hx ⟨t,ht,by omega,fun i hi=>hn ⟨i,hi⟩⟩⟩
  obtain ⟨s,h1,h2⟩:=h
  exact .inl (lo n ⟨s,h1,h1,h2⟩)
 ·exact .inr fun t ht=>Classical.byContradiction fun hn=>h ⟨t,ht,fun i hi=>hn ⟨i,hi⟩⟩
end Go.Pol
namespace Go.Proofs.YtphggldkligldaaGreat.Sh
open Go Go.Am Go.Pol
def updU (U:Nat→Vw) (s:Nat) (v:Vw):Nat→Vw:=fun j=>if j=s then v else U j
theorem AL5 {U:Nat→Vw} {s:Nat} {v:Vw}:updU U s v s=v:=if_pos rfl
theorem AX1 {U:Nat→Vw} {s j:Nat} {v:Vw} (h:j ≠ s):updU U s v j=U j:=if_neg h
theorem AH3 {U:Nat→Vw} {s:Nat} {v:Vw} {l:List Nat} (h:s ∉ l):l.map (updU U s v)=l.map U:=List.map_congr_left fun j hj=>AX1 fun e=>h (e▸hj)
def TS.put (t:TS) (v:Vw) (s:Nat) (l:List Nat) (S:PS):TS :=
 { n:=t.n,m:=t.m,V:=I6 t.V s (num v.1),W:=I6 t.W s (num v.2.1),V3:=I6 t.V3 s (num v.2.2.1),V4:=I6 t.V4 s (bo v.2.2.2),Q:=AG6 t.Q v.1 l,S,U:=updU t.U s v,E:=t.E++[((v.1,v.2.1),s)],C:=Av4 t.C v.2.2.1 (t.C v.2.2.1+1) }
theorem TOk.put {L:List Vw} {t:TS} {v:Vw} {s:Nat} {X Y:List Nat} {S:PS} (h:TOk L t) (hv:v.1 < 64∧v.2.1 < 1024∧v.2.2.1 < 1024) (hn:∀ u ∈ L,¬ atV (v.1,v.2.1) u) (hl:L.length < 2000) (hs:∀ i,s ∉ t.Q i) (hQ:t.Q v.1=X++Y) (hX:∀ x ∈ X,bef (t.U x) v) (hY:∀ y ∈ Y,¬ bef (t.U y) v)
  (hp:BK7 t.n t.m (I6 t.V s (num v.1)) (I6 t.W s (num v.2.1)) (I6 t.V3 s (num v.2.2.1)) (I6 t.V4 s (bo v.2.2.2)) (AG6 t.Q v.1 (X++s::Y)) S):TOk (Ab6 v L) (t.put v s (X++s::Y) S):=by
 have hsX:s ∉ X:=fun hx=>hs v.1 (by rw [hQ];exact List.mem_append_left _ hx)
 have hsY:s ∉ Y:=fun hx=>hs v.1 (by rw [hQ];exact List.mem_append_right _ hx)
 have old:∀ {a j},j ∈ AG6 t.Q v.1 (X++s::Y) a→(a=v.1∧j=s)∨(j ≠ s∧j ∈ t.Q a):=fun {a j} hj=>by
  rcases mem_upd hj with ⟨rfl,h1⟩ | ⟨h1,h2⟩
  ·by_cases e:j=s
   ·exact .inl ⟨rfl,e⟩
   ·refine .inr ⟨e,?_⟩
    rw [hQ]
    simp only [List.mem_append,List.mem_cons] at h1 ⊢
    rcases h1 with h1|h1|h1
    ·exact .inl h1
    ·exact absurd h1 e
    ·exact .inr h1
  ·exact .inr ⟨fun e=>hs a (e▸h2),h2⟩
 have new:∀ {a j},j ∈ t.Q a→j ∈ AG6 t.Q v.1 (X++s::Y) a:=fun {a j} hj=>by
  by_cases e:a=v.1
  ·subst e;rw [AX2];rw [hQ] at hj
   simp only [List.mem_append,List.mem_cons] at hj ⊢
   rcases hj with hj|hj
   ·exact .inl hj
   ·exact .inr (.inr hj)
  ·rw [Af2 e];exact hj
 have hin:s ∈ AG6 t.Q v.1 (X++s::Y) v.1:=by rw [AX2];simp
 refine ⟨h.hn,h.hm,hp,fun a j hj=>?_,fun a=>?_,?_,fun p j=>?_,?_,fun f=>?_,fun u hu=>?_,Af8 h.srt hn,?_⟩
 ·rcases old hj with ⟨_,rfl⟩ | ⟨hne,h2⟩
  ·simp only [TS.put,AL5,AX0,and_self]
  ·simp only [TS.put,AX1 hne,q9 hne];exact h.val a j h2
 ·show (AG6 t.Q v.1 (X++s::Y) a).map (updU t.U s v)=_
  by_cases e:a=v.1
  ·subst e
   rw [AX2,ofA_ins h.srt,← h.lst,hQ,List.map_append,List.map_append,List.map_cons,AH3 hsX,AH3 hsY,AL5]
   refine (BI2 (fun u hu=>?_) fun u Y' e=>?_).symm
   ·obtain ⟨x,hx,rfl⟩:=List.mem_map.1 hu;exact hX x hx
   ·have : u ∈ Y.map t.U:=by rw [e];exact List.mem_cons_self ..
    obtain ⟨y,hy,rfl⟩:=List.mem_map.1 this;exact hY y hy
  ·rw [Af2 e,AH3 (hs a),h.lst,Am0 e]
 ·show ((t.E++[((v.1,v.2.1),s)]).map (·.1)).Nodup
  rw [List.map_append,List.nodup_append]
  refine ⟨h.keys,by simp,fun x hx y hy=>?_⟩
  obtain rfl:y=(v.1,v.2.1):=by simpa using hy
  obtain ⟨⟨p,j⟩,he,rfl⟩:=List.mem_map.1 hx
  rintro rfl
  exact h.noentry hn j he
 ·show (p,j) ∈ t.E++[((v.1,v.2.1),s)] ↔ j ∈ AG6 t.Q v.1 (X++s::Y) p.1∧(updU t.U s v j).2.1=p.2
  rw [List.mem_append,List.mem_singleton]
  constructor
  ·rintro (he|he)
   ·obtain ⟨h1,h2⟩:=(h.ent p j).1 he
    have hne:j ≠ s:=fun e=>hs p.1 (e▸h1)
    exact ⟨new h1,by rw [AX1 hne];exact h2⟩
   ·obtain ⟨rfl,rfl⟩:=Prod.mk.inj he
    exact ⟨hin,by rw [AL5]⟩
  ·rintro ⟨h1,h2⟩
   rcases old h1 with ⟨e,rfl⟩ | ⟨hne,h3⟩
   ·rw [AL5] at h2
    refine .inr ?_
    obtain ⟨p1,p2⟩:=p
    dsimp only at e h2
    rw [e,← h2]
   ·rw [AX1 hne] at h2
    exact .inl ((h.ent p j).2 ⟨h3,h2⟩)
 ·show (t.E++[((v.1,v.2.1),s)]).length=_
  rw [Ag7,List.length_append,h.elen];rfl
 ·show Av4 t.C v.2.2.1 (t.C v.2.2.1+1) f=_
  rw [cnt_ins]
  unfold Av4
  by_cases e:f=v.2.2.1
  ·rw [if_pos e,if_pos e.symm,h.cnt,e]
  ·rw [if_neg e,if_neg (Ne.symm e),h.cnt];rfl
 ·rcases AA4.1 hu with rfl|hu
  ·exact hv
  ·exact h.ok u hu
 ·rw [Ag7];omega
theorem TOk.free {L:List Vw} {t:TS} (h:TOk L t) (hl:L.length < 2000):∃ s,Ah7 t.n t.Q s:=by
 rcases free_or t.n t.Q with hf|hf
 ·exact hf
 ·exfalso
  have h1:(List.range t.n).length≤(t.E.map (·.2)).length:=sub_len List.nodup_range fun x hx=>by
   obtain ⟨i,hi⟩:=hf x (List.mem_range.1 hx)
   exact List.mem_map.2 ⟨((i,(t.U x).2.1),x),(h.ent _ _).2 ⟨hi,rfl⟩,rfl⟩
  rw [List.length_range,List.length_map,h.elen,h.hn] at h1
  omega
end Go.Proofs.YtphggldkligldaaGreat.Sh
namespace Go.Proofs.YtphggldkligldaaGreat.Sh
open Go Go.Am Go.Pol
theorem plx_Yf {p:Prop} (h:p:=by ((first|exact plw|(with_reducible first|apply O7|apply M8|fail)|fail);first|done|fail)):p:=h
theorem ppx_Yf {p:Prop} (h:p:=by ((first|with_reducible assumption|(with_reducible first|apply U8|apply F5|apply F8|apply P9|apply P5 _ _|apply Y0|fail)|exact ppw|fail);first|done|fail)):p:=h
open Go.Proofs.YtphggldkligldaaGreat.Sh renaming plx_Yf → plx
open Go.Proofs.YtphggldkligldaaGreat.Sh renaming ppx_Yf → ppx
theorem wx_Yfn {p q:Prop} (hq:q) (h:X5 q→p:=by (intro hQz;((repeat' ((try (conv=>whnf));first|refine sxA ?_|refine mset_of hmf hput rfl rfl rfl ?_|refine G5 (hC) ?_|refine D7 (by rw [tab_len];omega) hset ?_|refine sxN ?_|refine V5 (by assumption) rfl rfl rfl (by decide) (by first|with_reducible assumption|exact AD9|(simp [A8,A9];done)|fail) F7 rfl ?_|refine AK9 (by assumption) rfl rfl rfl (by with_reducible assumption) F7 rfl rfl ?_|refine V5 (by assumption) rfl rfl rfl (by decide) (by first|with_reducible assumption|exact AD9|(simp [A8,A9];done)|fail) (by first|exact F7|exact AF6|fail) rfl ?_|refine sxH ?_|((with_reducible first|apply N9 hQz|apply O1 hQz)<;>(try intro hsp hQz))|exact hQz.out))<;>(try (conv=>whnf))))):p:=h ⟨hq⟩
theorem Y0 {v:Vw}:∀ x ∈ vwC v,Plain x:=fun x hx=>by
 simp only [vwC,List.mem_cons,List.not_mem_nil,or_false] at hx
 rcases hx with rfl|rfl|rfl|rfl<;>first|exact A8|exact A9
theorem M8 {a b c:Int} {w:Bool}:Plain (.agg [.int .i64 a,.int .i64 b,.int .i64 c,.bool w]):=K8 fun x hx=>by
 simp only [List.mem_cons,List.not_mem_nil,or_false] at hx
 rcases hx with rfl|rfl|rfl|rfl<;>first|exact A8|exact A9
theorem AF6 {a b c e:Int} {w:Bool}:Plain (.tup [.agg [.int .i64 a,.int .i64 b,.int .i64 c,.bool w],.int .i64 e]):=G7 fun x hx=>by
 simp only [List.mem_cons,List.not_mem_nil,or_false] at hx
 rcases hx with rfl|rfl
 ·exact M8
 ·exact A8
theorem AD9 {i a b c:Int} {w:Bool}:∀ x ∈ [AV.int .i64 i,.agg [.int .i64 a,.int .i64 b,.int .i64 c,.bool w]],Plain x:=fun x hx=>by
 simp only [List.mem_cons,List.not_mem_nil,or_false] at hx
 rcases hx with rfl|rfl<;>first|exact A8|exact M8
theorem M0:Plain (.tup []):=G7 fun x hx=>by cases hx
theorem Al9 {l:List Nat} {k:Nat} {e:Int} (hk:k≤l.length):BV0 (lst (l.take k)) e = .tup [.int .i64 (if k=0 then 0 else ((nth 0 l (k - 1):Nat):Int)),.int .i64 (if k=0 then e else 0)]:=by
 unfold BV0
 rw [lst_take hk]
 by_cases h:k=0
 ·simp only [if_pos h,if_true]
 ·have h1:¬ ((nth 0 l (k - 1):Nat):Int) = -1:=by omega
  simp only [if_neg h,if_neg h1]
theorem t_put {L:List Vw} {t:TS} (h:TOk L t) {v:Vw} (hv:v.1 < 64∧v.2.1 < 1024∧v.2.2.1 < 1024) (hn:∀ u ∈ L,¬ atV (v.1,v.2.1) u) (hl:L.length < 2000) :
    ∃ t',TOk (Ab6 v L) t'∧t'.n=t.n∧(∀ a,a ≠ v.1→t'.Q a=t.Q a)∧X7 117 [.agg (vwC v)] t (.tup []) t':=by
  obtain ⟨s,hs⟩:=h.free hl
  have hm:v.1 < t.m:=by rw [h.hm];exact hv.1
  -- how many stand before it
  have key:∃ k,k≤(t.Q v.1).length∧(∀ x ∈ (t.Q v.1).take k,bef (t.U x) v)∧∀ y ∈ (t.Q v.1).drop k,¬ bef (t.U y) v:=by
    obtain ⟨X,Y,h1,h2,h3,h4⟩:=u6 v (ofA v.1 L)
    have h5:srt (ofA v.1 L):=h.srt.sublist List.filter_sublist
    have h6:=Ap3 (h1▸h5) h4
    rw [← h.lst] at h1
    refine ⟨X.length,?_,fun x hx=>?_,fun y hy=>?_⟩
    · have:=congrArg List.length h1;simp at this;omega
    · refine h3 _ ?_
      have : ((t.Q v.1).map t.U).take X.length=X:=by rw [h1,List.take_left]
      rw [← this,← List.map_take];exact List.mem_map.2 ⟨x,hx,rfl⟩
    · refine h6 _ ?_
      have : ((t.Q v.1).map t.U).drop X.length=Y:=by rw [h1,List.drop_left]
      rw [← this,← List.map_drop];exact List.mem_map.2 ⟨y,hy,rfl⟩
  obtain ⟨k0,hk0,hX,hY⟩:=key
  have hlen:=h.pool.inv.len v.1
  have hn2:t.n=2000:=h.hn
  have hC:(tabC 1 4 t.C)[2+v.2.2.1]? = some (.int .i64 (t.C v.2.2.1:Nat)):=tab_get hv.2.2
  have hC2:t.C v.2.2.1≤2000:=by rw [h.cnt];exact Nat.le_trans (List.length_filter_le ..) h.len
  have hset:(tabC 1 4 t.C).set (2+v.2.2.1) (.int .i64 ((t.C v.2.2.1:Nat)+1:Int))=tabC 1 4 (Av4 t.C v.2.2.1 (t.C v.2.2.1+1)):=tab_set (by omega)
  have hmf:=mf_no (h.noentry hn)
  have hput:=put_E (E:=t.E) (a:=v.1) (k:=v.2.1) (s:=s)
  have hend:=p_end h.pool.inv h.pool.n_pos hm false
  have hst:∃ S',BK7 t.n t.m (I6 t.V s (num v.1)) (I6 t.W s (num v.2.1)) (I6 t.V3 s (num v.2.2.1)) (I6 t.V4 s (bo v.2.2.2)) (AG6 t.Q v.1 ((t.Q v.1).take k0++s::(t.Q v.1).drop k0)) S' ∧
      (if k0 = 0 then AE1 164 [.int .i64 (v.1 : Nat), .agg (vwC v), .bool true] t.n t.m (X0 t.n t.m t.V t.W t.V3 t.V4 t.S) (.tup [.int .i64 (s : Nat), .int .i64 0]) (X0 t.n t.m (I6 t.V s (num v.1)) (I6 t.W s (num v.2.1)) (I6 t.V3 s (num v.2.2.1)) (I6 t.V4 s (bo v.2.2.2)) S')
       else AE1 163 [.int .i64 (nth 0 (t.Q v.1) (k0 - 1):Nat),.agg (vwC v)] t.n t.m (X0 t.n t.m t.V t.W t.V3 t.V4 t.S) (.tup [.int .i64 (s:Nat),.int .i64 0]) (X0 t.n t.m (I6 t.V s (num v.1)) (I6 t.W s (num v.2.1)) (I6 t.V3 s (num v.2.2.1)) (I6 t.V4 s (bo v.2.2.2)) S')):=by
    by_cases hk:k0=0
    · obtain ⟨S',h1,h2⟩:=p_push h.pool.inv h.pool.n_le hs hm (num v.1) (num v.2.1) (num v.2.2.1) (bo v.2.2.2) true
      refine ⟨S',⟨?_,h.pool.m_le,h.pool.n_le,h.pool.n_pos⟩,?_⟩
      · subst hk;simpa using h1
      · rw [if_pos hk];exact h2
    · have hx:(t.Q v.1)[k0 - 1]? = some (nth 0 (t.Q v.1) (k0 - 1)):=by rw [P7 (by omega),List.getElem?_eq_getElem]
      have he:=at_k hx
      rw [show k0 - 1+1=k0 by omega] at he
      obtain ⟨S',h1,h2⟩:=p_after h.pool.inv h.pool.n_le hs (x:=nth 0 (t.Q v.1) (k0 - 1)) (i:=v.1) ⟨hm,he⟩ (num v.1) (num v.2.1) (num v.2.2.1) (bo v.2.2.2)
      refine ⟨S',⟨?_,h.pool.m_le,h.pool.n_le,h.pool.n_pos⟩,?_⟩
      · have e2:(t.Q v.1).take k0=(t.Q v.1).take (k0 - 1)++[nth 0 (t.Q v.1) (k0 - 1)]:=by
          have:=y9 (d:=0) (l:=t.Q v.1) (k:=k0 - 1) (by omega)
          rw [show k0 - 1+1=k0 by omega] at this;exact this
        rw [e2,List.append_assoc];exact h1
      · rw [if_neg hk];exact h2
  obtain ⟨S',hgood,hloc⟩:=hst
  have hok:=h.put hv hn hl hs.2.1 (List.take_append_drop k0 (t.Q v.1)).symm hX hY hgood
  refine ⟨_,hok,rfl,fun a ha=>Af2 ha,X7.mk (D9 E9 b117 rfl ?_) (fun x hx=>by obtain rfl:=List.mem_singleton.1 hx;exact O7) M0⟩
  unfold c117
  obtain ⟨va,vk,vf,vw⟩:=v
  dsimp only at *
  unfold vwC
  dsimp only
  rw [show (if false=true then hd (t.Q va) else lst (t.Q va))=lst ((t.Q va).take (t.Q va).length) by rw [List.take_length];rfl,Al9 (Nat.le_refl _)] at hend
  have hpl:∀ x ∈ [AV.int .i64 (va:Nat),.agg (vwC (va,vk,vf,vw)),.bool true],Plain x:=fun x hx=>by
    simp only [List.mem_cons,List.not_mem_nil,or_false] at hx
    rcases hx with rfl|rfl|rfl<;>first|exact A8|exact A9|exact O7
  (refine wx_Yfn ?_;repeat' (first|with_reducible refine And.intro ?_ ?_|intro hsp))
  (refine F6 [0,3] (fun (p:Nat × Int)=>[(4,.int .i64 (if p.1=0 then 0 else ((nth 0 (t.Q va) (p.1 - 1):Nat):Int))),(5,.int .i64 (if p.1=0 then p.2 else 0))]) (fun (p:Nat × Int)=>⟨tabS t++[(5,.cells [.int .i64 (va:Nat),.int .i64 (vk:Nat),.int .i64 (vf:Nat),.bool vw])],6⟩) (fun (p:Nat × Int)=>(k0≤p.1∧p.1≤(t.Q va).length)∧(p.2=4∨p.2=9)) (fun (p:Nat × Int)=>p.1) (((t.Q va).length,4)) [] rfl (fun _=>by first|exact Nat.zero_le _|(dsimp only;omega)) ?_ (by ((try (conv=>whnf));exact wkxQ2)) ?_)
  · exact ⟨⟨hk0,Nat.le_refl _⟩,.inl rfl⟩
  rintro ⟨k,c⟩ ⟨⟨hk1,hk2⟩,hc⟩
  dsimp only at hk1 hk2 hc ⊢
  by_cases hz:k=0
  · subst hz
    obtain rfl:k0=0:=by omega
    rw [if_pos rfl] at hloc
    unfold vwC at hloc hpl
    dsimp only at hloc hpl
    rw [if_pos rfl,if_pos rfl]
    (refine wx_Yfn ?_;repeat' (first|with_reducible refine And.intro ?_ ?_|intro hsp))
    all_goals exact M4 rfl M0 rfl rfl rfl rfl rfl
  · rw [if_neg hz,if_neg hz]
    have hxk:(t.Q va)[k - 1]? = some (nth 0 (t.Q va) (k - 1)):=by rw [P7 (by omega),List.getElem?_eq_getElem]
    have hq:=at_k hxk
    have hmem:nth 0 (t.Q va) (k - 1) ∈ t.Q va:=AD4 (by omega)
    have hget:=h.get hmem
    have hview:=(h.view hmem).2
    have hstep:=p_step h.pool.inv (s:=nth 0 (t.Q va) (k - 1)) (i:=va) ⟨hm,hq⟩ true
    rw [if_pos rfl,Al9 (by omega)] at hstep
    have hb:(t.U (nth 0 (t.Q va) (k - 1))).2.1 < vk ↔ k=k0:=by
      constructor
      · intro hlt
        refine Classical.byContradiction fun hne=>?_
        refine hY (nth 0 (t.Q va) (k - 1)) ?_ ?_
        · rw [List.mem_iff_getElem?];exact ⟨k - 1 - k0,by rw [List.getElem?_drop,show k0+(k - 1 - k0)=k - 1 by omega];exact hxk⟩
        · unfold bef;right;exact ⟨hview,hlt⟩
      · intro e
        have h1:=hX (nth 0 (t.Q va) (k - 1)) (by rw [List.mem_iff_getElem?];exact ⟨k - 1,by rw [List.getElem?_take,if_pos (by omega)];exact hxk⟩)
        unfold bef at h1;dsimp only at h1;omega
    have hb2:=(h.ok _ (h.view hmem).1).2.1
    by_cases hk:k=k0
    · have h3:=hb.2 hk
      rw [← hk,if_neg hz] at hloc
      generalize hgx:nth 0 (t.Q va) (k - 1)=x at *
      generalize t.U x=u at *
      obtain ⟨ua,uk,uf,uw⟩:=u
      dsimp only at h3 hb2
      unfold vwC at hloc hpl hget
      dsimp only at hloc hpl hget
      (refine wx_Yfn ?_;repeat' (first|with_reducible refine And.intro ?_ ?_|intro hsp))
      all_goals exact M4 rfl M0 rfl rfl rfl rfl rfl
    · have h3:¬ (t.U (nth 0 (t.Q va) (k - 1))).2.1 < vk:=fun e=>hk (hb.1 e)
      generalize hgx:nth 0 (t.Q va) (k - 1)=x at *
      generalize t.U x=u at *
      obtain ⟨ua,uk,uf,uw⟩:=u
      dsimp only at h3 hb2
      unfold vwC at hget
      dsimp only at hget
      (refine wx_Yfn ?_;repeat' (first|with_reducible refine And.intro ?_ ?_|intro hsp))
      all_goals exact F3 (k - 1,9) [] ⟨⟨(by omega),(by omega)⟩,.inr rfl⟩ (by first|omega|(dsimp only;omega)) rfl (by exact wkxQ2)
end Go.Proofs.YtphggldkligldaaGreat.Sh
namespace Go.Pol
open Go.Am
theorem srt_mid {A B:List Vw} {v:Vw} (h:srt (A++v::B)):(∀ u ∈ A,bef u v)∧∀ u ∈ B,bef v u:=by
 have h1:=List.pairwise_append.1 h
 exact ⟨fun u hu=>h1.2.2 u hu v (List.mem_cons_self ..),fun u hu=>(List.pairwise_cons.1 h1.2.1).1 u hu⟩
theorem Aj3 (v:Vw):atV (v.1,v.2.1) v:=⟨rfl,rfl⟩
theorem Am2 {A B:List Vw} {v:Vw} (h:srt (A++v::B)):(∀ u ∈ A,¬ atV (v.1,v.2.1) u)∧∀ u ∈ B,¬ atV (v.1,v.2.1) u:=by
 obtain ⟨h1,h2⟩:=srt_mid h
 refine ⟨fun u hu ha=>?_,fun u hu ha=>?_⟩
 ·have:=h1 u hu;unfold bef at this;unfold atV at ha;omega
 ·have:=h2 u hu;unfold bef at this;unfold atV at ha;omega
theorem srt_chg {A B:List Vw} {v w:Vw} (h:srt (A++v::B)) (h1:w.1=v.1) (h2:w.2.1=v.2.1):srt (A++w::B):=by
 obtain ⟨h3,h4⟩:=srt_mid h
 have h5:=List.pairwise_append.1 h
 have h6:=List.pairwise_cons.1 h5.2.1
 refine List.pairwise_append.2 ⟨h5.1,List.pairwise_cons.2 ⟨fun u hu=>?_,h6.2⟩,fun u hu x hx=>?_⟩
 ·have:=h4 u hu;unfold bef at *;omega
 ·rcases List.mem_cons.1 hx with rfl|hx
  ·have:=h3 u hu;unfold bef at *;omega
  ·exact h5.2.2 u hu x (List.mem_cons_of_mem _ hx)
theorem AM7 (a:Nat) (X Y:List Vw):ofA a (X++Y)=ofA a X++ofA a Y:=List.filter_append ..
theorem AP2 (a:Nat) (v:Vw) (Y:List Vw):ofA a (v::Y)=if v.1=a then v::ofA a Y else ofA a Y:=by
 unfold ofA;rw [List.filter_cons];by_cases h:v.1=a<;>simp [h]
theorem Ap4:∀ {L L':List Vw},srt L→srt L'→(∀ v,v ∈ L ↔ v ∈ L')→L=L'
 | [],[],_,_,_=>rfl
 | [],v::L',_,_,h=>absurd ((h v).2 (List.mem_cons_self ..)) (by simp)
 | v::L,[],_,_,h=>absurd ((h v).1 (List.mem_cons_self ..)) (by simp)
 | v::L,w::L',h1,h2,h=>by
  have p1:=List.pairwise_cons.1 h1
  have p2:=List.pairwise_cons.1 h2
  have irr:∀ {u:Vw},¬ bef u u:=fun {u} hb=>by unfold bef at hb;omega
  have e:v=w:=by
   rcases List.mem_cons.1 ((h v).1 (List.mem_cons_self ..)) with e|e1
   ·exact e
   ·rcases List.mem_cons.1 ((h w).2 (List.mem_cons_self ..)) with e|e2
    ·exact e.symm
    ·exact absurd (BC8 (p1.1 w e2) (p2.1 v e1)) irr
  subst e
  rw [Ap4 p1.2 p2.2 fun u=>?_]
  constructor
  ·intro hu
   rcases List.mem_cons.1 ((h u).1 (List.mem_cons_of_mem _ hu)) with e|e
   ·subst e;exact absurd (p1.1 u hu) irr
   ·exact e
  ·intro hu
   rcases List.mem_cons.1 ((h u).2 (List.mem_cons_of_mem _ hu)) with e|e
   ·subst e;exact absurd (p2.1 u hu) irr
   ·exact e
end Go.Pol
namespace Go.Proofs.YtphggldkligldaaGreat.Sh
open Go Go.Am Go.Pol
theorem BH4 {U:Nat→Vw} {X Y:List Nat} {s:Nat} {X' Y':List Vw} {v:Vw} (h:(X++s::Y).map U=X'++v::Y') (hu:U s=v) (hx:∀ u ∈ X',u ≠ v) (hn:∀ x ∈ X,U x ≠ v):X.map U=X'∧Y.map U=Y':=by
 rw [List.map_append,List.map_cons,hu] at h
 induction X generalizing X' with
 | nil =>
  cases X' with
  | nil=>exact ⟨rfl,(List.cons.inj h).2⟩
  | cons a X'=>exact absurd (List.cons.inj h).1.symm (hx a (List.mem_cons_self ..))
 | cons x X ih =>
  cases X' with
  | nil=>exact absurd (List.cons.inj h).1 (hn x (List.mem_cons_self ..))
  | cons a X' =>
   have h1:=List.cons.inj h
   obtain ⟨h2,h3⟩:=ih (X':=X') h1.2 (fun u hu=>hx u (List.mem_cons_of_mem _ hu)) (fun u hu=>hn u (List.mem_cons_of_mem _ hu))
   exact ⟨by rw [List.map_cons,h1.1,h2],h3⟩
theorem TOk.around {L:List Vw} {t:TS} (h:TOk L t) {v:Vw} {s:Nat} (hs:s ∈ t.Q v.1) (hu:t.U s=v):∃ X Y A B,t.Q v.1=X++s::Y∧L=A++v::B∧X.map t.U=ofA v.1 A∧Y.map t.U=ofA v.1 B∧s ∉ X∧s ∉ Y:=by
 have hv:v ∈ L:=hu▸(h.view hs).1
 obtain ⟨A,B,hL⟩:=List.append_of_mem hv
 obtain ⟨X,Y,hQ⟩:=List.append_of_mem hs
 have hsr:=h.srt
 rw [hL] at hsr
 obtain ⟨n1,n2⟩:=Am2 hsr
 have hnd:=h.pool.inv.st.nd v.1
 rw [hQ] at hnd
 have hnd':=List.nodup_append.1 hnd
 have hsX:s ∉ X:=fun hx=>hnd'.2.2 s hx s (List.mem_cons_self ..) rfl
 have hsY:s ∉ Y:=(List.nodup_cons.1 hnd'.2.1).1
 have hl:=h.lst v.1
 rw [hQ,hL,AM7,AP2,if_pos rfl] at hl
 have hs2:Go.Pol.srt (ofA v.1 A++v::ofA v.1 B):=by
  have h1:Go.Pol.srt (ofA v.1 L):=h.srt.sublist List.filter_sublist
  rw [hL,AM7,AP2,if_pos rfl] at h1;exact h1
 have hnx:∀ x ∈ X,t.U x ≠ v:=fun x hx e=>by
  have h1:=(h.ent (v.1,v.2.1) x).2 ⟨by rw [hQ];exact List.mem_append_left _ hx,by rw [e]⟩
  have h2:=(h.ent (v.1,v.2.1) s).2 ⟨hs,by rw [hu]⟩
  exact hsX (Ag3 h.keys h1 h2▸hx)
 obtain ⟨m1,m2⟩:=BH4 hl hu (fun u hu e=>(Am2 hs2).1 u hu (by rw [e];exact Aj3 v)) hnx
 exact ⟨X,Y,A,B,hQ,hL,m1,m2,hsX,hsY⟩
def TS.cut (t:TS) (v:Vw) (s j:Nat) (l:List Nat) (S:PS):TS :=
 { n:=t.n,m:=t.m,V:=I6 t.V s z0,W:=I6 t.W s w0,V3:=I6 t.V3 s w0,V4:=I6 t.V4 s b0,Q:=AG6 t.Q v.1 l,S,U:=t.U,E:=t.E.eraseIdx j,C:=Av4 t.C v.2.2.1 (t.C v.2.2.1 - 1) }
theorem TOk.cut {L:List Vw} {t:TS} {v:Vw} {s j:Nat} {X Y:List Nat} {A B:List Vw} {S:PS} (h:TOk L t) (hu:t.U s=v) (hQ:t.Q v.1=X++s::Y) (hL:L=A++v::B) (hX:X.map t.U=ofA v.1 A) (hY:Y.map t.U=ofA v.1 B) (hsX:s ∉ X) (hsY:s ∉ Y) (hj:t.E[j]? = some ((v.1,v.2.1),s))
  (hp:BK7 t.n t.m (I6 t.V s z0) (I6 t.W s w0) (I6 t.V3 s w0) (I6 t.V4 s b0) (AG6 t.Q v.1 (X++Y)) S):TOk (A++B) (t.cut v s j (X++Y) S):=by
 have hs:s ∈ t.Q v.1:=by rw [hQ];simp
 have old:∀ {a i},i ∈ AG6 t.Q v.1 (X++Y) a→i ≠ s∧i ∈ t.Q a:=fun {a i} hi=>by
  rcases mem_upd hi with ⟨rfl,h1⟩ | ⟨h1,h2⟩
  ·refine ⟨fun e=>?_,?_⟩
   ·subst e;rcases List.mem_append.1 h1 with h2|h2
    ·exact hsX h2
    ·exact hsY h2
   ·rw [hQ];rcases List.mem_append.1 h1 with h2|h2<;>simp [h2]
  ·exact ⟨fun e=>h1 (h.pool.inv.st.one (e▸h2) hs),h2⟩
 have new:∀ {a i},i ∈ t.Q a→i ≠ s→i ∈ AG6 t.Q v.1 (X++Y) a:=fun {a i} hi hne=>by
  by_cases e:a=v.1
  ·subst e;rw [AX2];rw [hQ] at hi
   simp only [List.mem_append,List.mem_cons] at hi ⊢
   rcases hi with hi|hi|hi
   ·exact .inl hi
   ·exact absurd hi hne
   ·exact .inr hi
  ·rw [Af2 e];exact hi
 have hsr:=h.srt
 rw [hL] at hsr
 have hsub:(A++B).Sublist L:=by rw [hL];exact List.Sublist.append_left (List.sublist_cons_self ..) _
 refine ⟨h.hn,h.hm,hp,fun a i hi=>?_,fun a=>?_,?_,fun p i=>?_,?_,fun f=>?_,fun u hu=>h.ok u (hsub.subset hu),h.srt.sublist hsub,?_⟩
 ·obtain ⟨hne,h2⟩:=old hi
  simp only [TS.cut,q9 hne];exact h.val a i h2
 ·show (AG6 t.Q v.1 (X++Y) a).map t.U=_
  by_cases e:a=v.1
  ·subst e;rw [AX2,List.map_append,hX,hY,AM7]
  ·rw [Af2 e,h.lst,hL,AM7,AM7,AP2,if_neg (Ne.symm e)]
 ·exact h.keys.sublist ((List.eraseIdx_sublist t.E j).map _)
 ·show (p,i) ∈ t.E.eraseIdx j ↔ i ∈ AG6 t.Q v.1 (X++Y) p.1∧(t.U i).2.1=p.2
  rw [mem_erase h.keys hj]
  constructor
  ·rintro ⟨h1,h2⟩
   obtain ⟨h3,h4⟩:=(h.ent p i).1 h1
   refine ⟨new h3 fun e=>h2 ?_,h4⟩
   subst e
   have:=(h.view h3).2
   obtain ⟨p1,p2⟩:=p
   dsimp only at *
   rw [← hu,this,← h4]
  ·rintro ⟨h1,h2⟩
   obtain ⟨h3,h4⟩:=old h1
   refine ⟨(h.ent p i).2 ⟨h4,h2⟩,fun e=>h3 ?_⟩
   dsimp only at e
   have h5:=(h.ent p i).2 ⟨h4,h2⟩
   rw [e] at h5
   exact Ag3 h.keys h5 (List.mem_of_getElem? hj)
 ·show (t.E.eraseIdx j).length=_
  have hjl:=(List.getElem?_eq_some_iff.1 hj).1
  have:=h.elen
  rw [List.length_eraseIdx_of_lt hjl,this,hL];simp only [List.length_append,List.length_cons];omega
 ·show Av4 t.C v.2.2.1 (t.C v.2.2.1 - 1) f=_
  have hc:=h.cnt f
  have hc2:=h.cnt v.2.2.1
  rw [hL,l9,Z9] at hc hc2
  rw [if_pos rfl] at hc2
  rw [l9]
  unfold Av4
  by_cases e:f=v.2.2.1
  ·subst e;rw [if_pos rfl,hc2];omega
  ·rw [if_neg e,hc,if_neg (Ne.symm e)];omega
 ·have:=hsub.length_le;have:=h.len;omega
def TS.chg (t:TS) (s:Nat) (v:Vw) (C:Nat→Nat):TS :=
 { n:=t.n,m:=t.m,V:=I6 t.V s (num v.1),W:=I6 t.W s (num v.2.1),V3:=I6 t.V3 s (num v.2.2.1),V4:=I6 t.V4 s (bo v.2.2.2),Q:=t.Q,S:=t.S,U:=updU t.U s v,E:=t.E,C }
theorem TOk.chg {L:List Vw} {t:TS} {v w:Vw} {s:Nat} {X Y:List Nat} {A B:List Vw} {C:Nat→Nat} (h:TOk L t) (hu:t.U s=v) (hQ:t.Q v.1=X++s::Y) (hL:L=A++v::B) (hX:X.map t.U=ofA v.1 A) (hY:Y.map t.U=ofA v.1 B) (hsX:s ∉ X) (hsY:s ∉ Y) (h1:w.1=v.1) (h2:w.2.1=v.2.1) (h3:w.2.2.1 < 1024)
  (hC:∀ f,C f=cntF (A++w::B) f) (hp:BK7 t.n t.m (I6 t.V s (num w.1)) (I6 t.W s (num w.2.1)) (I6 t.V3 s (num w.2.2.1)) (I6 t.V4 s (bo w.2.2.2)) t.Q t.S):TOk (A++w::B) (t.chg s w C):=by
 have hs:s ∈ t.Q v.1:=by rw [hQ];simp
 have hv:v ∈ L:=by rw [hL];simp
 have hsr:=h.srt
 rw [hL] at hsr
 refine ⟨h.hn,h.hm,hp,fun a i hi=>?_,fun a=>?_,h.keys,fun p i=>?_,?_,hC,fun u hu=>?_,srt_chg hsr h1 h2,?_⟩
 ·by_cases e:i=s
  ·subst e;simp only [TS.chg,AL5,AX0,and_self]
  ·simp only [TS.chg,AX1 e,q9 e];exact h.val a i hi
 ·show (t.Q a).map (updU t.U s w)=_
  by_cases e:a=v.1
  ·subst e
   rw [hQ,List.map_append,List.map_cons,AH3 hsX,AH3 hsY,AL5,hX,hY,AM7,AP2,if_pos h1]
  ·rw [AH3 fun hi=>e (h.pool.inv.st.one hi hs),h.lst,hL,AM7,AM7,AP2,AP2,if_neg (Ne.symm e),if_neg (by rw [h1];exact Ne.symm e)]
 ·show (p,i) ∈ t.E ↔ i ∈ t.Q p.1∧(updU t.U s w i).2.1=p.2
  rw [h.ent]
  by_cases e:i=s
  ·subst e;rw [AL5,hu,h2]
  ·rw [AX1 e]
 ·rw [show (t.chg s w C).E.length=t.E.length from rfl,h.elen,hL];simp
 ·have hvk:=h.ok v hv
  rcases List.mem_append.1 hu with hm|hm
  ·exact h.ok u (by rw [hL];exact List.mem_append_left _ hm)
  ·rcases List.mem_cons.1 hm with rfl|hm
   ·rw [h1,h2];exact ⟨hvk.1,hvk.2.1,h3⟩
   ·exact h.ok u (by rw [hL];exact List.mem_append_right _ (List.mem_cons_of_mem _ hm))
 ·have:=h.len;rw [hL] at this;simpa using this
end Go.Proofs.YtphggldkligldaaGreat.Sh
