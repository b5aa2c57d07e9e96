/-
 A quicker walk,first part: what an operation gives,as a computation that stops where something is to be shown. No program in sight.
-/
import Derived.Test.YtbhgfoikbkaohaaGreatQaf
set_option linter.unusedSimpArgs false
set_option linter.unusedVariables false
namespace Go.Am
abbrev SF:=List (Nat × AV)
def AT0:SF→Nat→AV
 | [],_=>.undef
 | (i,v)::r,t=>bif Nat.beq i t then v else AT0 r t
def sd (n:Nat) (sf:SF):List AV:=(List.range n).map (AT0 sf)
theorem AP0 {n:Nat} {sf:SF} {t:Nat}:(sd n sf)[t]? = if t < n then some (AT0 sf t) else none:=by
 simp only [sd,List.getElem?_map]
 by_cases h:t < n
 ·rw [if_pos h,List.getElem?_range h];rfl
 ·rw [if_neg h,List.getElem?_eq_none (by simpa using h)];rfl
theorem w9 {d t:Nat} {v:AV} {sf:SF}:AT0 ((d,v)::sf) t=if d=t then v else AT0 sf t:=by
 simp only [AT0]
 by_cases h:d=t
 ·subst h;simp
 ·have : Nat.beq d t=false:=by cases e:Nat.beq d t with|false=>rfl|true=>exact absurd (Nat.eq_of_beq_eq_true e) h
  rw [this,if_neg h];rfl
theorem BQ6 {n d:Nat} {v:AV} {sf:SF}:(sd n sf).set d v=sd n ((d,v)::sf):=by
 apply List.ext_getElem?
 intro j
 rw [List.getElem?_set,AP0,AP0,w9]
 have hl:(sd n sf).length=n:=by simp [sd]
 rw [hl]
 by_cases h:d=j
 ·subst h;simp
 ·rw [if_neg h,if_neg h]
def BA2 (sf:SF) (d:Option Nat) (v:AV) (k:SF→Prop):Prop:=match d with
 | some d=>k ((d,v)::sf)
 | none=>k sf
theorem AZ3 {n:Nat} {sf:SF} {d:Option Nat} {v:AV} {k:SF→Prop} (h:BA2 sf d v k):∃ sf',AD4 (sd n sf) d v=sd n sf'∧k sf':=by
 cases d with
 | none=>exact ⟨sf,rfl,h⟩
 | some d=>exact ⟨_,BQ6,h⟩
structure BrX (p:Bool) (A B:Prop):Prop where
 out:(p=true→A)∧(p=false→B)
structure CkX (p A:Prop):Prop where
 ok:p
 out:A
def ckK (p:Bool) (A:Prop):Prop:=match p with
 | true=>A
 | false=>False
structure EqX {α:Type} (e:α) (K:α→Prop):Prop where
 out:∃ m,e=m∧K m
structure ElX (els:List (List AV)) (j sz:Nat) (K:List AV→Prop):Prop where
 out:∃ el,els[j]? = some el∧el.length=sz∧K el
structure Aq9 (p:Bool) (A:Prop):Prop where
 ok:p=true
 out:A
theorem AF6 {p:Bool} {A B:Prop} (h:BrX p A B):(p=true→A)∧(p=false→B):=h.out
theorem AF5 {p:Bool} {A:Prop} (h:ckK p A):p=true∧A:=by
 cases p
 ·exact h.elim
 ·exact ⟨rfl,h⟩
def Ad9:SF→Nat→(AV→Prop)→Prop
 | [],_,k=>k .undef
 | (i,v)::r,t,k=>bif Nat.beq i t then k v else Ad9 r t k
theorem AB3 {k:AV→Prop}:∀ {sf:SF} {t:Nat},Ad9 sf t k→k (AT0 sf t)
 | [],_,h=>h
 | (i,v)::r,t,h=>by
  simp only [Ad9] at h
  simp only [AT0]
  cases e:Nat.beq i t with
  | true=>rw [e] at h;exact h
  | false=>rw [e] at h;exact AB3 (sf:=r) h
section
variable {G:Gl} {n:Nat} {sf:SF}
def axK (G:Gl) (n:Nat) (sf:SF) (x:AX) (k:AV→Prop):Prop:=match x with
 | .t t=>bif Nat.blt t n then Ad9 sf t k else False
 | .k v=>k v
 | .g g=>match G g with
  | some cs=>k (.iptr cs)
  | none=>False
theorem Ap6 {a b:Nat} (h:Nat.blt a b=true):a < b:=Nat.le_of_ble_eq_true h
theorem D7 {x:AX} {k:AV→Prop} (h:axK G n sf x k):∃ v,ax G (sd n sf) x=some v∧k v:=by
 cases x with
 | t t =>
  simp only [axK] at h
  cases e:Nat.blt t n with
  | false=>rw [e] at h;exact h.elim
  | true =>
   rw [e] at h
   exact ⟨_,by show (sd n sf)[t]? = _;rw [AP0,if_pos (Ap6 e)],AB3 h⟩
 | k v=>exact ⟨v,rfl,h⟩
 | g g =>
  simp only [axK] at h
  split at h
  ·rename_i cs e;exact ⟨.iptr cs,by simp [ax,e],h⟩
  ·exact h.elim
def BB1 (G:Gl) (n:Nat) (sf:SF):List AX→(List AV→Prop)→Prop
 | [],k=>k []
 | x::r,k=>axK G n sf x fun v=>BB1 G n sf r fun l=>k (v::l)
theorem AD8:∀ {xs:List AX} {k:List AV→Prop},BB1 G n sf xs k→∃ l,AV9 (ax G (sd n sf)) xs=some l∧k l
 | [],k,h=>⟨[],rfl,h⟩
 | x::r,k,h=>by
  obtain ⟨v,hv,h2⟩:=D7 h
  obtain ⟨l,hl,h3⟩:=AD8 h2
  exact ⟨v::l,by simp [AV9,hv,hl],h3⟩
def BS1 (G:Gl) (n:Nat) (sf:SF):List (Nat × Nat × AX)→(List (Nat × Nat × AV)→Prop)→Prop
 | [],k=>k []
 | (o,s,x)::r,k=>axK G n sf x fun v=>BS1 G n sf r fun l=>k ((o,s,v)::l)
theorem AW6:∀ {xs:List (Nat × Nat × AX)} {k:List (Nat × Nat × AV)→Prop},BS1 G n sf xs k→∃ l,AU6 (ax G (sd n sf)) xs=some l∧k l
 | [],k,h=>⟨[],rfl,h⟩
 | (o,s,x)::r,k,h=>by
  obtain ⟨v,hv,h2⟩:=D7 h
  obtain ⟨l,hl,h3⟩:=AW6 h2
  exact ⟨_,by simp [AU6,hv,hl],h3⟩
end
def nthK:List AV→Nat→(AV→Prop)→Prop
 | [],_,_=>False
 | v::_,0,k=>k v
 | _::r,o+1,k=>nthK r o k
theorem AZ9 {k:AV→Prop}:∀ {cs:List AV} {o:Nat},nthK cs o k→∃ v,cs[o]? = some v∧k v
 | [],_,h=>h.elim
 | v::_,0,h=>⟨v,rfl,h⟩
 | _::r,o+1,h=>by obtain ⟨v,h1,h2⟩:=AZ9 (cs:=r) (o:=o) h;exact ⟨v,by simpa using h1,h2⟩
theorem C8 {k:AV→Prop}:∀ {cs:List AV} {o:Nat} {v:AV},cs[o]? = some v→k v→nthK cs o k
 | [],_,_,h,_=>by simp at h
 | v::_,0,_,h,hk=>by simp at h;subst h;exact hk
 | _::r,o+1,_,h,hk=>C8 (cs:=r) (o:=o) (by simpa using h) hk
def dropK:List AV→Nat→(List AV→Prop)→Prop
 | cs,0,k=>k cs
 | [],_+1,_=>False
 | _::r,o+1,k=>dropK r o k
theorem Af1 {k:List AV→Prop}:∀ {cs:List AV} {o:Nat},dropK cs o k→o≤cs.length∧k (cs.drop o)
 | [],0,h=>⟨Nat.zero_le _,h⟩
 | _::_,0,h=>⟨Nat.zero_le _,h⟩
 | [],_+1,h=>h.elim
 | _::r,o+1,h=>by obtain ⟨h1,h2⟩:=Af1 (cs:=r) (o:=o) h;exact ⟨by simp;omega,h2⟩
theorem R4 {k:List AV→Prop}:∀ {cs ds:List AV} {o:Nat},o≤cs.length→cs.drop o=ds→k ds→dropK cs o k
 | [],_,0,_,rfl,h=>h
 | _::_,_,0,_,rfl,h=>h
 | [],_,_+1,h,_,_=>by simp at h
 | _::r,_,o+1,h,rfl,hk=>R4 (cs:=r) (o:=o) (by simpa using h) rfl hk
def takeK:List AV→Nat→(List AV→Prop)→Prop
 | _,0,k=>k []
 | [],_+1,_=>False
 | x::r,m+1,k=>takeK r m fun l=>k (x::l)
theorem Ac2:∀ {cs:List AV} {m:Nat} {k:List AV→Prop},takeK cs m k→m≤cs.length∧k (cs.take m)
 | [],0,_,h=>⟨Nat.zero_le _,h⟩
 | _::_,0,_,h=>⟨Nat.zero_le _,h⟩
 | [],_+1,_,h=>h.elim
 | x::r,m+1,k,h=>by obtain ⟨h1,h2⟩:=Ac2 (cs:=r) (m:=m) h;exact ⟨by simp;omega,h2⟩
theorem J7:∀ {cs ds:List AV} {m:Nat} {k:List AV→Prop},m≤cs.length→cs.take m=ds→k ds→takeK cs m k
 | [],_,0,_,_,rfl,h=>h
 | _::_,_,0,_,_,rfl,h=>h
 | [],_,_+1,_,h,_,_=>by simp at h
 | x::r,_,m+1,k,h,rfl,hk=>J7 (cs:=r) (m:=m) (by simpa using h) rfl hk
def set1K:List AV→Nat→AV→(List AV→Prop)→Prop
 | [],_,_,_=>False
 | _::r,0,v,k=>k (v::r)
 | x::r,o+1,v,k=>set1K r o v fun r'=>k (x::r')
theorem Ar5 {v:AV}:∀ {cs:List AV} {o:Nat} {k:List AV→Prop},set1K cs o v k→o < cs.length∧k (cs.set o v)
 | [],_,_,h=>h.elim
 | _::_,0,_,h=>⟨by simp,h⟩
 | x::r,o+1,k,h=>by obtain ⟨h1,h2⟩:=Ar5 (cs:=r) (o:=o) h;exact ⟨by simpa using h1,h2⟩
theorem H8 {v:AV}:∀ {cs ds:List AV} {o:Nat} {k:List AV→Prop},o < cs.length→cs.set o v=ds→k ds→set1K cs o v k
 | [],_,_,_,h,_,_=>by simp at h
 | _::_,_,0,_,_,rfl,h=>h
 | x::r,_,o+1,k,h,rfl,hk=>H8 (cs:=r) (o:=o) (by simpa using h) rfl hk
def overK:List AV→Nat→List AV→(List AV→Prop)→Prop
 | cs,_,[],k=>k cs
 | cs,o,v::vs,k=>set1K cs o v fun cs'=>overK cs' (o+1) vs k
theorem Ad6 {k:List AV→Prop}:∀ {vs cs:List AV} {o:Nat},overK cs o vs k→(0 < vs.length→o+vs.length≤cs.length)∧k (over cs o vs)
 | [],cs,o,h=>⟨fun e=>by simp at e,h⟩
 | v::vs,cs,o,h=>by
  obtain ⟨h1,h2⟩:=Ar5 h
  obtain ⟨h3,h4⟩:=Ad6 (vs:=vs) h2
  refine ⟨fun _=>?_,h4⟩
  by_cases e:0 < vs.length
  ·have:=h3 e;simp at this ⊢;omega
  ·simp;omega
theorem U4 {k:List AV→Prop}:∀ {vs cs ds:List AV} {o:Nat},o+vs.length≤cs.length→over cs o vs=ds→k ds→overK cs o vs k
 | [],_,_,_,_,rfl,h=>h
 | v::vs,cs,_,o,h,rfl,hk=>H8 (by simp at h;omega) rfl (U4 (vs:=vs) (by simp at h ⊢;omega) rfl hk)
def flatLK (v:AV) (s:Nat) (k:List AV→Prop):Prop:=match v with
 | .agg cs=>CkX (cs.length=s) (k cs)
 | .undef=>False
 | .tup _=>False
 | v=>ckK (Nat.beq 1 s) (k [v])
theorem Ao0 {v:AV} {s:Nat} {k:List AV→Prop} (h:flatLK v s k):v.flat=true∧v.cells.length=s∧k v.cells:=by
 cases v<;>first|exact h.elim|exact ⟨rfl,(Nat.eq_of_beq_eq_true (AF5 h).1:1=s),(AF5 h).2⟩|exact ⟨rfl,h.ok,h.out⟩
def flatK (v:AV) (k:List AV→Prop):Prop:=match v with
 | .agg cs=>k cs
 | .undef=>False
 | .tup _=>False
 | v=>k [v]
theorem flatK_spec {v:AV} {k:List AV→Prop} (h:flatK v k):v.flat=true∧k v.cells:=by
 cases v<;>first|exact h.elim|exact ⟨rfl,h⟩
def AS4:List (Nat × AObj)→Nat→(List AV→Prop)→Prop
 | [],_,_=>False
 | (j,o)::r,i,k=>bif Nat.beq j i then (match o with
  | .cells cs=>k cs
  | _=>False) else AS4 r i k
theorem beq_eq {a b:Nat} (h:Nat.beq a b=true):a=b:=Nat.eq_of_beq_eq_true h
theorem Au0 {a b:Nat} (h:Nat.beq a b=false):a ≠ b:=fun e=>by subst e;simp at h
theorem AF2 {k:List AV→Prop}:∀ {l:List (Nat × AObj)} {i:Nat},AS4 l i k→∃ cs,lk l i=some (.cells cs)∧k cs
 | [],_,h=>h.elim
 | (j,o)::r,i,h=>by
  simp only [AS4] at h
  simp only [lk]
  cases e:Nat.beq j i with
  | true =>
   rw [e] at h
   rw [if_pos (beq_eq e).symm]
   cases o<;>first|exact ⟨_,rfl,h⟩|exact h.elim
  | false =>
   rw [e] at h
   rw [if_neg fun x=>Au0 e x.symm]
   exact AF2 (l:=r) h
theorem BG8 {k:List AV→Prop}:∀ {l:List (Nat × AObj)} {i:Nat} {cs:List AV},lk l i=some (.cells cs)→k cs→AS4 l i k
 | [],_,_,h,_=>by cases h
 | (j,o)::r,i,cs,h,hk=>by
  simp only [lk] at h
  simp only [AS4]
  cases e:Nat.beq j i with
  | true=>rw [if_pos (beq_eq e).symm] at h;cases h;exact hk
  | false=>rw [if_neg fun x=>Au0 e x.symm] at h;exact BG8 (l:=r) h hk
def kindOk:AV→AV→Bool
 | .int k _,.int k' _=>decide (k=k')
 | _,_=>true
theorem pick_val {t:Bool} {a b:AV} (h:kindOk a b=true):pickV (.bool t) a b=some (if t then a else b):=by
 cases a<;>cases b<;>cases t<;>simp_all [pickV,kindOk]
def pickK (c a b:AV) (k:AV→Prop):Prop:=match c with
 | .bool t=>ckK (kindOk a b) (BrX t (k a) (k b))
 | _=>False
theorem pickK_spec {c a b:AV} {k:AV→Prop} (h:pickK c a b k):∃ v,pickV c a b=some v∧k v:=by
 cases c<;>try exact h.elim
 rename_i t
 obtain ⟨h1,h2⟩:=AF5 h
 refine ⟨_,pick_val h1,?_⟩
 cases t
 ·exact (AF6 h2).2 rfl
 ·exact (AF6 h2).1 rfl
def fillK:List AV→List (Nat × Nat × AV)→(List AV→Prop)→Prop
 | z,[],k=>k z
 | z,(o,s,v)::r,k=>flatLK v s fun cs=>ckK (Nat.ble (o+s) z.length) (overK z o cs fun z'=>fillK z' r k)
theorem Ae9 {k:List AV→Prop}:∀ {l:List (Nat × Nat × AV)} {z:List AV},fillK z l k→∃ cs,Ax2 z l=some cs∧k cs
 | [],z,h=>⟨z,rfl,h⟩
 | (o,s,v)::r,z,h=>by
  obtain ⟨h1,h3,h4⟩:=Ao0 h
  obtain ⟨h5,h6⟩:=AF5 h4
  obtain ⟨_,h8⟩:=Ad6 h6
  obtain ⟨cs,h9,h10⟩:=Ae9 h8
  refine ⟨cs,?_,h10⟩
  rw [Ax2,if_pos ⟨h1,h3,Nat.le_of_ble_eq_true h5⟩]
  exact h9
def BK8 (ag:Bool) (off m:Nat) (cs:List AV) (k:AV→Prop):Prop:=match ag with
 | true=>dropK cs off fun ds=>takeK ds m fun es=>k (.agg es)
 | false=>nthK cs off k
theorem AT5 {ag:Bool} {off m:Nat} {cs:List AV} {k:AV→Prop} (h:BK8 ag off m cs k):∃ v,AU3 ag off m cs=some v∧k v:=by
 cases ag with
 | false=>exact AZ9 h
 | true =>
  obtain ⟨h1,h2⟩:=Af1 h
  obtain ⟨h3,h4⟩:=Ac2 h2
  exact ⟨_,by simp only [AU3,if_true];rw [if_pos (by simp at h3;omega)],h4⟩
def loadK (l:List (Nat × AObj)) (ag:Bool) (m:Nat) (p:AV) (k:AV→List Nat→Prop):Prop:=match p with
 | .ptr i o=>AS4 l i fun cs=>BK8 ag o m cs fun v=>k v [i]
 | .iptr cs=>BK8 ag 0 m cs fun v=>k v []
 | _=>False
theorem As8 {l:List (Nat × AObj)} {ag:Bool} {m:Nat} {p:AV} {k:AV→List Nat→Prop} (h:loadK l ag m p k):∃ v rd,Ae0 (lk l) ag m p=some (v,rd)∧k v rd:=by
 cases p<;>try exact h.elim
 ·obtain ⟨cs,h1,h2⟩:=AF2 h
  obtain ⟨v,h3,h4⟩:=AT5 h2
  exact ⟨v,_,by simp [Ae0,Y2,h1,h3],h4⟩
 ·obtain ⟨v,h3,h4⟩:=AT5 (k:=fun v=>k v []) h
  exact ⟨v,_,by simp [Ae0,h3],h4⟩
def storeK (l:List (Nat × AObj)) (m:Nat) (p v:AV) (k:Up→List Nat→Prop):Prop:=match p with
 | .ptr i o=>flatLK v m fun vs=>ckK (Nat.blt 0 m) (AS4 l i fun cs=>overK cs o vs fun cs'=>k [(i,some (.cells cs'))] [i])
 | _=>False
theorem BJ4 {l:List (Nat × AObj)} {m:Nat} {p v:AV} {k:Up→List Nat→Prop} (h:storeK l m p v k):∃ up rd,Af8 (lk l) m v p=some (up,rd)∧k up rd:=by
 cases p<;>try exact h.elim
 obtain ⟨h1,e3,h4⟩:=Ao0 h
 obtain ⟨h5,h6⟩:=AF5 h4
 obtain ⟨cs,h7,h8⟩:=AF2 h6
 obtain ⟨h9,h10⟩:=Ad6 h8
 have e5:=Ap6 h5
 exact ⟨_,_,by simp only [Af8,Y2,h7];rw [if_pos ⟨h1,e3,e5,by have:=h9 (by omega);omega⟩],h10⟩
def nchkK (v:AV) (k:AV→Prop):Prop:=match v with
 | .ptr i o=>k (.ptr i o)
 | .iptr cs=>k (.iptr cs)
 | _=>False
theorem nchkK_spec {v:AV} {k:AV→Prop} (h:nchkK v k):∃ u,nchkV v=some u∧k u:=by
 cases v<;>first|exact h.elim|exact ⟨_,rfl,h⟩
def binK (op:BinOp) (a b:AV) (k:AV→Prop):Prop:=match a,b with
 | .int k1 x,.int k2 y=>match op with
  | .shl=>CkX (0≤y) (EqX (k1.wrap (x * 2 ^ (min y.toNat k1.bits))) fun m=>k (.int k1 m))
  | .shr=>CkX (0≤y) (EqX (x.fdiv (2 ^ (min y.toNat k1.bits))) fun m=>k (.int k1 m))
  | .add=>ckK (decide (k1=k2)) (EqX (k1.wrap (x+y)) fun m=>k (.int k1 m))
  | .sub=>ckK (decide (k1=k2)) (EqX (k1.wrap (x - y)) fun m=>k (.int k1 m))
  | .mul=>ckK (decide (k1=k2)) (EqX (k1.wrap (x * y)) fun m=>k (.int k1 m))
  | .quo=>ckK (decide (k1=k2)) (CkX (y ≠ 0) (EqX (k1.wrap (x.tdiv y)) fun m=>k (.int k1 m)))
  | .rem=>ckK (decide (k1=k2)) (CkX (y ≠ 0) (EqX (x.tmod y) fun m=>k (.int k1 m)))
  | .and=>ckK (decide (k1=k2)) (EqX (bits .and k1 x y) fun m=>k (.int k1 m))
  | .or=>ckK (decide (k1=k2)) (EqX (bits .or k1 x y) fun m=>k (.int k1 m))
  | .xor=>ckK (decide (k1=k2)) (EqX (bits .xor k1 x y) fun m=>k (.int k1 m))
  | .andNot=>ckK (decide (k1=k2)) (EqX (bits .andNot k1 x y) fun m=>k (.int k1 m))
  | .eql=>ckK (decide (k1=k2)) (k (.bool (decide (x=y))))
  | .neq=>ckK (decide (k1=k2)) (k (.bool (!decide (x=y))))
  | .lss=>ckK (decide (k1=k2)) (k (.bool (decide (x < y))))
  | .leq=>ckK (decide (k1=k2)) (k (.bool (decide (x≤y))))
  | .gtr=>ckK (decide (k1=k2)) (k (.bool (decide (y < x))))
  | .geq=>ckK (decide (k1=k2)) (k (.bool (decide (y≤x))))
 | _,_=>False
theorem binK_spec {op:BinOp} {a b:AV} {k:AV→Prop} (h:binK op a b k):∃ v,BH1 op a b=some v∧k v:=by
 cases a<;>cases b<;>try exact h.elim
 rename_i k1 x k2 y
 cases op<;>simp only [binK] at h
 case shl=>obtain ⟨h1,⟨⟨m,rfl,h3⟩⟩⟩:=h;exact ⟨_,by simp only [BH1];rw [if_neg (by omega)],h3⟩
 case shr=>obtain ⟨h1,⟨⟨m,rfl,h3⟩⟩⟩:=h;exact ⟨_,by simp only [BH1];rw [if_neg (by omega)],h3⟩
 all_goals (obtain ⟨h1,h2⟩:=AF5 h;simp only [decide_eq_true_eq] at h1)
 case quo =>
  obtain ⟨h4,h5⟩:=h2
  obtain ⟨⟨m,rfl,h3⟩⟩:=h5
  exact ⟨_,by simp only [BH1];rw [if_pos ⟨h1,h4⟩],h3⟩
 case rem =>
  obtain ⟨h4,h5⟩:=h2
  obtain ⟨⟨m,rfl,h3⟩⟩:=h5
  exact ⟨_,by simp only [BH1];rw [if_pos ⟨h1,h4⟩],h3⟩
 case eql=>exact ⟨_,by simp only [BH1];rw [if_pos h1];rfl,h2⟩
 case neq=>exact ⟨_,by simp only [BH1];rw [if_pos h1];rfl,h2⟩
 case lss=>exact ⟨_,by simp only [BH1];rw [if_pos h1],h2⟩
 case leq=>exact ⟨_,by simp only [BH1];rw [if_pos h1],h2⟩
 case gtr=>exact ⟨_,by simp only [BH1];rw [if_pos h1],h2⟩
 case geq=>exact ⟨_,by simp only [BH1];rw [if_pos h1],h2⟩
 all_goals
  obtain ⟨⟨m,rfl,h3⟩⟩:=h2
  exact ⟨_,by simp only [BH1];rw [if_pos h1],h3⟩
def eqbK (ng:Bool) (a b:AV) (k:AV→Prop):Prop:=match a,b with
 | .bool x,.bool y=>match ng with
  | true=>k (.bool (!(x == y)))
  | false=>k (.bool (x == y))
 | _,_=>False
theorem eqbK_spec {ng:Bool} {a b:AV} {k:AV→Prop} (h:eqbK ng a b k):∃ v,eqbV ng a b=some v∧k v:=by
 cases a<;>cases b<;>try exact h.elim
 cases ng<;>exact ⟨_,rfl,h⟩
def nilKK (fn:Bool) (v:AV) (k:Bool→Prop):Prop:=match fn,v with
 | false,.nilp=>k true
 | false,.ptr _ _=>k false
 | false,.iptr _=>k false
 | true,.nilf=>k true
 | true,.fn _ _ _=>k false
 | _,_=>False
theorem As6 {fn:Bool} {v:AV} {k:Bool→Prop} (h:nilKK fn v k):∃ b,nilK fn v=some b∧k b:=by
 cases fn<;>cases v<;>first|exact h.elim|exact ⟨_,rfl,h⟩
def ngK (ng r:Bool) (k:AV→Prop):Prop:=match ng,r with
 | true,true=>k (.bool false)
 | true,false=>k (.bool true)
 | false,true=>k (.bool true)
 | false,false=>k (.bool false)
def eqpK (ng fn:Bool) (a b:AV) (k:AV→Prop):Prop:=nilKK fn a fun p=>nilKK fn b fun q=>match p,q with
 | true,q=>ngK ng q k
 | false,true=>ngK ng false k
 | false,false=>False
theorem eqpK_spec {ng fn:Bool} {a b:AV} {k:AV→Prop} (h:eqpK ng fn a b k):∃ v,eqpV ng fn a b=some v∧k v:=by
 obtain ⟨p,h1,h⟩:=As6 h
 obtain ⟨q,h2,h⟩:=As6 h
 cases p<;>cases q<;>first|exact h.elim|(cases ng<;>exact ⟨_,by simp [eqpV,h1,h2],h⟩)
def eq1K (f:Nat) (x y:AV) (k:Bool→Prop):Prop:=match f,x,y with
 | 0,.int k1 a,.int k2 b=>ckK (decide (k1=k2)) (k (decide (a=b)))
 | 1,.bool a,.bool b=>k (a == b)
 | 2,.str a,.str b=>k (a.toList == b.toList)
 | _,_,_=>False
theorem eq1K_spec {f:Nat} {x y:AV} {k:Bool→Prop} (h:eq1K f x y k):∃ t,eq1 f x y=some t∧k t:=by
 unfold eq1K at h
 split at h
 ·obtain ⟨h1,h2⟩:=AF5 h
  simp only [decide_eq_true_eq] at h1
  exact ⟨_,by simp only [eq1];rw [if_pos h1];rfl,h2⟩
 ·exact ⟨_,rfl,h⟩
 ·exact ⟨_,rfl,h⟩
 ·exact h.elim
def eqLK:List Nat→List AV→List AV→(Bool→Prop)→Prop
 | [],[],[],k=>k true
 | f::ks,x::r,y::s,k=>eq1K f x y fun t=>eqLK ks r s fun u=>k (t && u)
 | _,_,_,_=>False
theorem BF8:∀ {ks:List Nat} {r s:List AV} {k:Bool→Prop},eqLK ks r s k→∃ t,eqL ks r s=some t∧k t
 | [],[],[],_,h=>⟨true,rfl,h⟩
 | [],[],_::_,_,h=>h.elim
 | [],_::_,_,_,h=>h.elim
 | _::_,[],_,_,h=>h.elim
 | _::_,_::_,[],_,h=>h.elim
 | f::ks,x::r,y::s,k,h=>by
  simp only [eqLK] at h
  obtain ⟨p,h1,h⟩:=eq1K_spec h
  obtain ⟨t,h3,h4⟩:=BF8 h
  exact ⟨_,by simp only [eqL,h1,h3];rfl,h4⟩
theorem eqLK_of {k:Bool→Prop}:∀ {ks:List Nat} {r s:List AV} {t:Bool},eqL ks r s=some t→k t→eqLK ks r s k
 | [],[],[],_,h,hk=>by cases h;exact hk
 | [],[],_::_,_,h,_=>by cases h
 | [],_::_,_,_,h,_=>by cases h
 | _::_,[],_,_,h,_=>by cases h
 | _::_,_::_,[],_,h,_=>by cases h
 | f::ks,x::r,y::s,_,h,hk=>by
  simp only [eqL,Option.bind_eq_some_iff,Option.map_eq_some_iff] at h
  obtain ⟨p,h1,t,h2,rfl⟩:=h
  have h3:eqLK ks r s fun u=>k (p && u):=eqLK_of h2 hk
  simp only [eqLK]
  unfold eq1 at h1
  split at h1
  ·split at h1
   ·rename_i hk1;cases h1;simp only [eq1K,ckK,decide_eq_true hk1];exact h3
   ·cases h1
  ·cases h1;exact h3
  ·cases h1;exact h3
  ·cases h1
structure Au3 (ks:List Nat) (r s:List AV) (k:Bool→Prop):Prop where
 out:eqLK ks r s k
theorem Af0 {ks:List Nat} {r s:List AV} {t:Bool} {k:Bool→Prop} (h:eqL ks r s=some t) (hk:k t):Au3 ks r s k:=⟨eqLK_of h hk⟩
def eqsK (ng:Bool) (ks:List Nat) (a b:AV) (k:AV→Prop):Prop:=match a,b with
 | .agg r,.agg s=>Au3 ks r s fun t=>match ng with
  | true=>k (.bool (!t))
  | false=>k (.bool t)
 | _,_=>False
theorem eqsK_spec {ng:Bool} {ks:List Nat} {a b:AV} {k:AV→Prop} (h:eqsK ng ks a b k):∃ v,eqsV ng ks a b=some v∧k v:=by
 cases a<;>cases b<;>try exact h.elim
 obtain ⟨t,h1,h2⟩:=BF8 h.out
 cases ng<;>exact ⟨_,by simp only [eqsV,h1];rfl,h2⟩
def unK (op:UnOp) (a:AV) (k:AV→Prop):Prop:=match a with
 | .int k1 x=>match op with
  | .neg=>EqX (k1.wrap (0 - x)) fun m=>k (.int k1 m)
  | .xor=>EqX (bits .xor k1 (if k1.signed then -1 else k1.max) x) fun m=>k (.int k1 m)
  | _=>False
 | .bool b=>match op with
  | .not=>k (.bool (!b))
  | _=>False
 | _=>False
theorem unK_spec {op:UnOp} {a:AV} {k:AV→Prop} (h:unK op a k):∃ v,unV op a=some v∧k v:=by
 cases a<;>cases op<;>first|exact h.elim|exact ⟨_,rfl,h⟩|(obtain ⟨⟨m,rfl,h3⟩⟩:=h;exact ⟨_,rfl,h3⟩)
def convK (k1:IntKind) (a:AV) (k:AV→Prop):Prop:=match a with
 | .int _ x=>EqX (k1.wrap x) fun m=>k (.int k1 m)
 | _=>False
theorem convK_spec {k1:IntKind} {a:AV} {k:AV→Prop} (h:convK k1 a k):∃ v,convV k1 a=some v∧k v:=by
 cases a<;>try exact h.elim
 obtain ⟨⟨m,rfl,h3⟩⟩:=h;exact ⟨_,rfl,h3⟩
def faddrK (off:Nat) (p:AV) (k:AV→Prop):Prop:=match p with
 | .ptr i o=>EqX (o+off) fun q=>k (.ptr i q)
 | .iptr cs=>EqX (cs.drop off) fun ds=>k (.iptr ds)
 | _=>False
theorem BN4 {off:Nat} {a:AV} {k:AV→Prop} (h:faddrK off a k):∃ v,BV4 off a=some v∧k v:=by
 cases a<;>first|exact h.elim|(obtain ⟨⟨m,rfl,h3⟩⟩:=h;exact ⟨_,rfl,h3⟩)
def fldK (ag:Bool) (off m:Nat) (a:AV) (k:AV→Prop):Prop:=match a with
 | .agg cs=>BK8 ag off m cs k
 | _=>False
theorem fldK_spec {ag:Bool} {off m:Nat} {a:AV} {k:AV→Prop} (h:fldK ag off m a k):∃ v,fldV ag off m a=some v∧k v:=by
 cases a<;>first|exact h.elim|exact AT5 h
def iaddrAK (len sz:Nat) (p i:AV) (k:AV→Prop):Prop:=match p,i with
 | .ptr b o,.int _ m=>CkX (0≤m∧m < (len:Int)) (EqX (o+m.toNat * sz) fun q=>k (.ptr b q))
 | .iptr cs,.int _ m=>CkX (0≤m∧m < (len:Int)) (EqX (cs.drop (m.toNat * sz)) fun ds=>k (.iptr ds))
 | _,_=>False
theorem BE8 {len sz:Nat} {p i:AV} {k:AV→Prop} (h:iaddrAK len sz p i k):∃ v,An1 len sz p i=some v∧k v:=by
 cases p<;>cases i<;>first
  | exact h.elim
  | (obtain ⟨h1,⟨⟨m,rfl,h3⟩⟩⟩:=h;exact ⟨_,by simp only [An1];rw [if_pos h1],h3⟩)
def iaddrSK (sz:Nat) (p i:AV) (k:AV→Prop):Prop:=match p,i with
 | .sl id off len _ sz',.int _ m=>ckK (Nat.beq sz sz') (CkX (0≤m∧m < (len:Int)) (EqX (off+m.toNat * sz) fun q=>k (.ptr id q)))
 | .isl els,.int _ m=>CkX (0≤m) (ElX els m.toNat sz fun el=>k (.iptr el))
 | _,_=>False
theorem BE7 {sz:Nat} {p i:AV} {k:AV→Prop} (h:iaddrSK sz p i k):∃ v,Ae5 sz p i=some v∧k v:=by
 cases p<;>cases i<;>try exact h.elim
 ·obtain ⟨h0,h1⟩:=AF5 h
  obtain ⟨h1,⟨⟨m,rfl,h3⟩⟩⟩:=h1
  exact ⟨_,by simp only [Ae5];rw [if_pos ⟨beq_eq h0,h1⟩],h3⟩
 ·obtain ⟨h1,⟨⟨el,h2,h3,h4⟩⟩⟩:=h
  exact ⟨_,by simp only [Ae5];rw [if_pos h1,h2];simp [h3],h4⟩
def idxK (ag:Bool) (len sz:Nat) (a i:AV) (k:AV→Prop):Prop:=match a,i with
 | .agg cs,.int _ m=>CkX (0≤m∧m < (len:Int)) (EqX (m.toNat * sz) fun q=>BK8 ag q sz cs k)
 | _,_=>False
theorem idxK_spec {ag:Bool} {len sz:Nat} {a i:AV} {k:AV→Prop} (h:idxK ag len sz a i k):∃ v,idxV ag len sz a i=some v∧k v:=by
 cases a<;>cases i<;>try exact h.elim
 obtain ⟨h1,⟨⟨m,rfl,h3⟩⟩⟩:=h
 obtain ⟨v,h4,h5⟩:=AT5 h3
 exact ⟨v,by simp only [idxV];rw [if_pos h1];exact h4,h5⟩
def bndK (v:AV) (k:Nat→Prop):Prop:=match v with
 | .int _ m=>CkX (0≤m) (EqX m.toNat k)
 | _=>False
theorem bndK_spec {v:AV} {k:Nat→Prop} (h:bndK v k):∃ q,bndV (some v)=some (some q)∧k q:=by
 cases v<;>try exact h.elim
 obtain ⟨h1,⟨⟨m,rfl,h3⟩⟩⟩:=h
 exact ⟨_,by simp only [bndV];rw [if_pos h1],h3⟩
section
variable {G:Gl} {n:Nat} {sf:SF}
def optK (G:Gl) (n:Nat) (sf:SF) (x:Option AX) (k:Option Nat→Prop):Prop:=match x with
 | none=>k none
 | some x=>axK G n sf x fun v=>bndK v fun q=>k (some q)
theorem AR1 {x:Option AX} {k:Option Nat→Prop} (h:optK G n sf x k):∃ q,(evO (ax G (sd n sf)) x).bind bndV=some q∧k q:=by
 cases x with
 | none=>exact ⟨none,rfl,h⟩
 | some x =>
  obtain ⟨v,h1,h2⟩:=D7 h
  obtain ⟨q,h3,h4⟩:=bndK_spec h2
  exact ⟨some q,by simp [evO,h1,h3],h4⟩
end
def orK (o:Option Nat) (d:Nat) (k:Nat→Prop):Prop:=match o with
 | some q=>k q
 | none=>k d
theorem AC3 {o:Option Nat} {d:Nat} {k:Nat→Prop} (h:orK o d k):k (o.getD d):=by cases o<;>exact h
def someK (o:Option Nat) (A B:Prop):Prop:=match o with
 | some _=>A
 | none=>B
theorem AS9 {o:Option Nat} {A B:Prop} (h:someK o A B):(o.isSome=true→A)∧(o.isSome=false→B):=by
 cases o
 ·exact ⟨fun e=>(by cases e),fun _=>h⟩
 ·exact ⟨fun _=>h,fun e=>(by cases e)⟩
def slSK (sz:Nat) (x:AV) (lo hi mx:Option Nat) (k:AV→Prop):Prop:=match x with
 | .sl id off len cp sz'=>orK mx cp fun m=>orK hi len fun h=>orK lo 0 fun l=>ckK (Nat.beq sz sz') (CkX (l≤h∧h≤m∧m≤cp) (BrX (decide (l < m)) (EqX (off+l * sz) fun o=>EqX (h - l) fun ln=>EqX (m - l) fun c=>k (.sl id o ln c sz)) (someK mx (k .nils) (k (.isl [])))))
 | .isl els=>orK mx els.length fun m=>orK hi els.length fun h=>orK lo 0 fun l=>CkX (l≤h∧h≤m∧m≤els.length∧(l=0∨els.all (fun e=>e.length == sz)=true)) (someK mx (BrX (decide (l=m)) (k .nils) (EqX ((els.take h).drop l) fun es=>k (.isl es))) (EqX ((els.take h).drop l) fun es=>k (.isl es)))
 | .nils=>orK mx 0 fun m=>orK hi 0 fun h=>orK lo 0 fun l=>CkX (l=0∧h=0∧m=0) (k .nils)
 | _=>False
theorem slSK_spec {sz:Nat} {x:AV} {lo hi mx:Option Nat} {k:AV→Prop} (h:slSK sz x lo hi mx k):∃ v,slSV sz x lo hi mx=some v∧k v:=by
 cases x<;>try exact h.elim
 ·have h:=AC3 (AC3 (AC3 h))
  simp only [slSV]
  exact ⟨_,if_pos h.ok,h.out⟩
 ·rename_i id off len cp sz'
  obtain ⟨h0,h⟩:=AF5 (AC3 (AC3 (AC3 h)))
  obtain ⟨h1,h2⟩:=h
  simp only [slSV]
  rw [if_pos ⟨beq_eq h0,h1⟩]
  by_cases e:lo.getD 0 < mx.getD cp
  ·rw [if_pos e]
   obtain ⟨⟨_,rfl,⟨⟨_,rfl,⟨⟨_,rfl,h3⟩⟩⟩⟩⟩⟩:=(AF6 h2).1 (decide_eq_true e)
   exact ⟨_,rfl,h3⟩
  ·rw [if_neg e]
   have h3:=(AF6 h2).2 (decide_eq_false e)
   cases em:mx.isSome with
   | true=>rw [if_pos rfl];exact ⟨_,rfl,(AS9 h3).1 em⟩
   | false=>rw [if_neg (by simp)];exact ⟨_,rfl,(AS9 h3).2 em⟩
 ·rename_i els
  have h:=AC3 (AC3 (AC3 h))
  obtain ⟨h1,h2⟩:=h
  simp only [slSV]
  rw [if_pos h1]
  cases em:mx.isSome with
  | true =>
   have h3:=(AS9 h2).1 em
   by_cases e:lo.getD 0=mx.getD els.length
   ·rw [if_pos ⟨rfl,e⟩];exact ⟨_,rfl,(AF6 h3).1 (decide_eq_true e)⟩
   ·rw [if_neg fun q=>e q.2]
    obtain ⟨⟨_,rfl,h4⟩⟩:=(AF6 h3).2 (decide_eq_false e)
    exact ⟨_,rfl,h4⟩
  | false =>
   obtain ⟨⟨_,rfl,h4⟩⟩:=(AS9 h2).2 em
   rw [if_neg fun q=>by cases q.1]
   exact ⟨_,rfl,h4⟩
def slAK (l:List (Nat × AObj)) (m sz:Nat) (p:AV) (lo hi:Option Nat) (k:AV→List Nat→Prop):Prop:=match p with
 | .ptr id off=>AS4 l id fun cs=>orK hi m fun h=>orK lo 0 fun a=>CkX (a≤h∧h≤m∧m≤maxLen∧off+m * sz≤cs.length∧0 < m * sz) (BrX (decide (a < m)) (EqX (off+a * sz) fun o=>EqX (h - a) fun ln=>EqX (m - a) fun c=>k (.sl id o ln c sz) [id]) (k .nils [id]))
 | _=>False
theorem slAK_spec {l:List (Nat × AObj)} {m sz:Nat} {p:AV} {lo hi:Option Nat} {k:AV→List Nat→Prop} (h:slAK l m sz p lo hi k):∃ v rd,slAV (lk l) m sz p lo hi=some (v,rd)∧k v rd:=by
 cases p<;>try exact h.elim
 obtain ⟨cs,h1,h⟩:=AF2 h
 obtain ⟨h2,h⟩:=AC3 (AC3 h)
 simp only [slAV,Y2,h1]
 rw [if_pos h2]
 by_cases e:lo.getD 0 < m
 ·rw [if_pos e]
  obtain ⟨⟨_,rfl,⟨⟨_,rfl,⟨⟨_,rfl,h3⟩⟩⟩⟩⟩⟩:=(AF6 h).1 (decide_eq_true e)
  exact ⟨_,_,rfl,h3⟩
 ·rw [if_neg e]
  exact ⟨_,_,rfl,(AF6 h).2 (decide_eq_false e)⟩
def mksK (nx sz bytes:Nat) (z:List AV) (a b:AV) (k:AV→Up→Prop):Prop:=match a,b with
 | .int .i64 x,.int .i64 y=>CkX (0≤x∧x≤y∧y≤1000000000∧(bytes:Int) * y≤140737488355328) (EqX x.toNat fun x'=>EqX y.toNat fun y'=>EqX (List.replicate y' z).flatten fun cs=>k (.sl nx 0 x' y' sz) [(nx,some (.cells cs))])
 | _,_=>False
theorem mksK_spec {nx sz bytes:Nat} {z:List AV} {a b:AV} {k:AV→Up→Prop} (h:mksK nx sz bytes z a b k):∃ v up,mksV nx sz bytes z a b=some (v,up)∧k v up:=by
 unfold mksK at h
 split at h
 ·obtain ⟨h1,⟨⟨_,rfl,⟨⟨_,rfl,⟨⟨_,rfl,h2⟩⟩⟩⟩⟩⟩⟩:=h
  exact ⟨_,_,by simp only [mksV];rw [if_pos h1],h2⟩
 ·exact h.elim
def extK (i:Nat) (v:AV) (k:AV→Prop):Prop:=match v with
 | .tup vs=>nthK vs i k
 | _=>False
theorem extK_spec {i:Nat} {v:AV} {k:AV→Prop} (h:extK i v k):∃ u,extV i v=some u∧k u:=by
 cases v<;>first|exact h.elim|exact AZ9 h
structure AppX (l:List (Nat × AObj)) (nx sz bytes:Nat) (s x:AV) (k:AV→Up→List Nat→Prop):Prop where
 out:∃ v up rd,BI3 (lk l) nx sz bytes s x=some (v,up,rd)∧k v up rd
structure Ah1 (l:List (Nat × AObj)) (ok ag:Bool) (ks:List Nat) (z m x:AV) (k:AV→Up→List Nat→Prop):Prop where
 out:∃ v rd,AU7 (lk l) ok ag ks z m x=some (v,rd)∧k v [] rd
structure MsetX (l:List (Nat × AObj)) (ag:Bool) (ks:List Nat) (m x y:AV) (k:AV→Up→List Nat→Prop):Prop where
 out:∃ up rd,BL6 (lk l) ag ks m x y=some (up,rd)∧k .undef up rd
structure MdelX (l:List (Nat × AObj)) (ag:Bool) (ks:List Nat) (m x:AV) (k:AV→Up→List Nat→Prop):Prop where
 out:∃ up rd,BL8 (lk l) ag ks m x=some (up,rd)∧k (.tup []) up rd
structure MlenX (l:List (Nat × AObj)) (m:AV) (k:AV→Up→List Nat→Prop):Prop where
 out:∃ v rd,BL7 (lk l) m=some (v,rd)∧k v [] rd
theorem Ae1 {l:List (Nat × AObj)} {ag:Bool} {ks:List Nat} {i:Nat} {x:AV} {kc:List AV} {es:List (AV × AV)} {o:Option Nat} (h1:lk l i=some (.maps es)) (h2:BU7 ag x=some kc) (h3:kc.length=ks.length) (h4:AO1 ag ks kc es=some o):keyV (lk l) ag ks (.mapr i) x=some (i,es,o):=by
 have : AN1 (lk l) i=some es:=by simp only [AN1,h1]
 simp only [keyV,this,h2,h3,h4,if_true,Option.map_some]
theorem mset_of {l:List (Nat × AObj)} {ag:Bool} {ks:List Nat} {i:Nat} {x y:AV} {kc:List AV} {es es':List (AV × AV)} {o:Option Nat} {k:AV→Up→List Nat→Prop} (h4:AO1 ag ks kc es=some o) (h5:mputV es o x y=es') (h1:lk l i=some (.maps es)) (h2:BU7 ag x=some kc) (h3:kc.length=ks.length) (hk:k .undef [(i,some (.maps es'))] [i]):MsetX l ag ks (.mapr i) x y k :=
 ⟨_,_,by rw [BL6,Ae1 h1 h2 h3 h4];simp only [Option.map_some,h5],hk⟩
theorem mdel_of {l:List (Nat × AObj)} {ag:Bool} {ks:List Nat} {i:Nat} {x:AV} {kc:List AV} {es es':List (AV × AV)} {o:Option Nat} {k:AV→Up→List Nat→Prop} (h4:AO1 ag ks kc es=some o) (h5:mcutV es o=es') (h1:lk l i=some (.maps es)) (h2:BU7 ag x=some kc) (h3:kc.length=ks.length) (hk:k (.tup []) [(i,some (.maps es'))] [i]):MdelX l ag ks (.mapr i) x k :=
 ⟨_,_,by rw [BL8,Ae1 h1 h2 h3 h4];simp only [Option.map_some,h5],hk⟩
theorem mlen_of {l:List (Nat × AObj)} {i n:Nat} {es:List (AV × AV)} {k:AV→Up→List Nat→Prop} (h1:lk l i=some (.maps es)) (h2:es.length=n) (hk:k (.int .i64 n) [] [i]):MlenX l (.mapr i) k :=
  ⟨_, _, by have : AN1 (lk l) i = some es := by simp only [AN1, h1]
            simp only [BL7,this,Option.map_some,h2],hk⟩
structure LenX (v:AV) (k:AV→Prop):Prop where
 out:∃ u,lenV v=some u∧k u
def clearK (l:List (Nat × AObj)) (z:List AV) (v:AV) (k:Up→List Nat→Prop):Prop:=match v with
 | .nils=>k [] []
 | .sl id off len _ sz=>AS4 l id fun cs=>CkX (sz=z.length∧off+len * sz≤cs.length) (EqX (over cs off (List.replicate len z).flatten) fun cs'=>k [(id,some (.cells cs'))] [id])
 | .isl []=>k [] []
 | _=>False
theorem BO8 {l:List (Nat × AObj)} {z:List AV} {v:AV} {k:Up→List Nat→Prop} (h:clearK l z v k):∃ up rd,Ab1 (lk l) z v=some (up,rd)∧k up rd:=by
 unfold clearK at h
 split at h
 ·exact ⟨_,_,rfl,h⟩
 ·obtain ⟨cs,h1,h⟩:=AF2 h
  obtain ⟨h2,⟨⟨_,rfl,h3⟩⟩⟩:=h
  exact ⟨_,_,by simp only [Ab1,Y2,h1];rw [if_pos h2],h3⟩
 ·exact ⟨_,_,rfl,h⟩
 ·exact h.elim
def mmK (mx:Bool):AV→List AV→(AV→Prop)→Prop
 | x,[],k=>k x
 | .int k1 a,.int k2 b::r,k=>ckK (decide (k1=k2)) (match mx with
  | true=>EqX (max a b) fun m=>mmK mx (.int k1 m) r k
  | false=>EqX (min a b) fun m=>mmK mx (.int k1 m) r k)
 | _,_,_=>False
theorem Aw0 {mx:Bool}:∀ {xs:List AV} {x:AV} {k:AV→Prop},mmK mx x xs k→∃ v,mmV mx x xs=some v∧k v
 | [],x,k,h=>⟨x,by cases x<;>rfl,by cases x<;>exact h⟩
 | y::r,x,k,h=>by
  cases x<;>cases y<;>try exact h.elim
  obtain ⟨h1,h2⟩:=AF5 h
  simp only [decide_eq_true_eq] at h1
  simp only [mmV]
  rw [if_pos h1]
  cases mx with
  | true =>
   obtain ⟨⟨_,rfl,h3⟩⟩:=h2
   rename_i a _ b
   have e:(if true=true then (if b > a then b else a) else (if b < a then b else a))=max a b:=by simp only [if_true];split<;>omega
   rw [e]
   exact Aw0 h3
  | false =>
   obtain ⟨⟨_,rfl,h3⟩⟩:=h2
   rename_i a _ b
   have e:(if false=true then (if b > a then b else a) else (if b < a then b else a))=min a b:=by simp only [Bool.false_eq_true,if_false];split<;>omega
   rw [e]
   exact Aw0 h3
section
variable {G:Gl} {n:Nat} {sf:SF} {l:List (Nat × AObj)} {nx:Nat}
def opK (G:Gl) (n:Nat) (sf:SF) (l:List (Nat × AObj)) (nx:Nat) (k:AV→Up→List Nat→Prop):AOp→Prop
 | .mv x=>axK G n sf x fun v=>k v [] []
 | .pick c a b=>axK G n sf c fun c=>axK G n sf a fun a=>axK G n sf b fun b=>pickK c a b fun v=>k v [] []
 | .new z=>k (.ptr nx 0) [(nx,some (.cells z))] []
 | .box x=>axK G n sf x fun v=>flatK v fun cs=>k (.ptr nx 0) [(nx,some (.cells cs))] []
 | .build z ps=>BS1 G n sf ps fun l=>fillK z l fun cs=>k (.agg cs) [] []
 | .bslice sz m z ps=>BS1 G n sf ps fun l=>fillK z l fun cs=>k (.sl nx 0 m m sz) [(nx,some (.cells cs))] []
 | .load ag m x=>axK G n sf x fun p=>loadK l ag m p fun v rd=>k v [] rd
 | .store m a v=>axK G n sf a fun p=>axK G n sf v fun v=>storeK l m p v fun up rd=>k .undef up rd
 | .nchk x=>axK G n sf x fun v=>nchkK v fun v=>k v [] []
 | .bin op x y=>axK G n sf x fun a=>axK G n sf y fun b=>binK op a b fun v=>k v [] []
 | .eqb ng x y=>axK G n sf x fun a=>axK G n sf y fun b=>eqbK ng a b fun v=>k v [] []
 | .eqp ng fn x y=>axK G n sf x fun a=>axK G n sf y fun b=>eqpK ng fn a b fun v=>k v [] []
 | .eqs ng ks x y=>axK G n sf x fun a=>axK G n sf y fun b=>eqsK ng ks a b fun v=>k v [] []
 | .un op x=>axK G n sf x fun a=>unK op a fun v=>k v [] []
 | .conv k1 x=>axK G n sf x fun a=>convK k1 a fun v=>k v [] []
 | .faddr off x=>axK G n sf x fun a=>faddrK off a fun v=>k v [] []
 | .fld ag off m x=>axK G n sf x fun a=>fldK ag off m a fun v=>k v [] []
 | .iaddrA len sz x i=>axK G n sf x fun a=>axK G n sf i fun b=>iaddrAK len sz a b fun v=>k v [] []
 | .iaddrS sz x i=>axK G n sf x fun a=>axK G n sf i fun b=>iaddrSK sz a b fun v=>k v [] []
 | .idx ag len sz x i=>axK G n sf x fun a=>axK G n sf i fun b=>idxK ag len sz a b fun v=>k v [] []
 | .slS sz x lo hi mx=>axK G n sf x fun a=>optK G n sf lo fun lo=>optK G n sf hi fun hi=>optK G n sf mx fun mx=>slSK sz a lo hi mx fun v=>k v [] []
 | .slA m sz x lo hi=>axK G n sf x fun a=>optK G n sf lo fun lo=>optK G n sf hi fun hi=>slAK l m sz a lo hi fun v rd=>k v [] rd
 | .mkfn f fs cs=>BB1 G n sf fs fun a=>BB1 G n sf cs fun b=>k (.fn f a b) [] []
 | .mks sz bytes z x y=>axK G n sf x fun a=>axK G n sf y fun b=>mksK nx sz bytes z a b fun v up=>k v up []
 | .ext x i=>axK G n sf x fun a=>extK i a fun v=>k v [] []
 | .append sz bytes s x=>axK G n sf s fun s=>axK G n sf x fun x=>AppX l nx sz bytes s x k
 | .len x=>axK G n sf x fun a=>LenX a fun v=>k v [] []
 | .clear z x=>axK G n sf x fun a=>clearK l z a fun up rd=>k (.tup []) up rd
 | .minmax mx x xs=>axK G n sf x fun x=>BB1 G n sf xs fun xs=>mmK mx x xs fun v=>k v [] []
 | .mkmap=>k (.mapr nx) [(nx,some (.maps []))] []
 | .mlook ok ag ks z m x=>axK G n sf m fun m=>axK G n sf x fun x=>Ah1 l ok ag ks z m x k
 | .mset ag ks m x y=>axK G n sf m fun m=>axK G n sf x fun x=>axK G n sf y fun y=>MsetX l ag ks m x y k
 | .mdel ag ks m x=>axK G n sf m fun m=>axK G n sf x fun x=>MdelX l ag ks m x k
 | .mlen m=>axK G n sf m fun m=>MlenX l m k
 | .call _ _=>False
 | .eqn _ _=>False
theorem Av8 {k:AV→Up→List Nat→Prop} {o:AOp} (h:opK G n sf l nx k o):∃ v up rd,G7 (ax G (sd n sf)) (lk l) nx o=some (v,up,rd)∧k v up rd:=by
 cases o<;>simp only [opK] at h
 case mv=>obtain ⟨v,h1,h⟩:=D7 h;exact ⟨_,_,_,by simp [G7,h1,AD2],h⟩
 case pick =>
  obtain ⟨c,h1,h⟩:=D7 h
  obtain ⟨a,h2,h⟩:=D7 h
  obtain ⟨b,h3,h⟩:=D7 h
  obtain ⟨v,h4,h⟩:=pickK_spec h
  exact ⟨_,_,_,by simp [G7,h1,h2,h3,h4,AD2],h⟩
 case new=>exact ⟨_,_,_,rfl,h⟩
 case mkmap=>exact ⟨_,_,_,rfl,h⟩
 case mlook =>
  obtain ⟨a,h1,h⟩:=D7 h
  obtain ⟨b,h2,h⟩:=D7 h
  obtain ⟨⟨v,rd,h3,h⟩⟩:=h
  exact ⟨_,_,_,by simp [G7,h1,h2,h3],h⟩
 case mset =>
  obtain ⟨a,h1,h⟩:=D7 h
  obtain ⟨b,h2,h⟩:=D7 h
  obtain ⟨e,h3,h⟩:=D7 h
  obtain ⟨⟨up,rd,h4,h⟩⟩:=h
  exact ⟨_,_,_,by simp [G7,h1,h2,h3,h4],h⟩
 case mdel =>
  obtain ⟨a,h1,h⟩:=D7 h
  obtain ⟨b,h2,h⟩:=D7 h
  obtain ⟨⟨up,rd,h3,h⟩⟩:=h
  exact ⟨_,_,_,by simp [G7,h1,h2,h3],h⟩
 case mlen =>
  obtain ⟨a,h1,h⟩:=D7 h
  obtain ⟨⟨v,rd,h2,h⟩⟩:=h
  exact ⟨_,_,_,by simp [G7,h1,h2],h⟩
 case box =>
  obtain ⟨v,h1,h⟩:=D7 h
  obtain ⟨h2,h⟩:=flatK_spec h
  exact ⟨_,_,_,by simp [G7,h1,h2],h⟩
 case build =>
  obtain ⟨p,h1,h⟩:=AW6 h
  obtain ⟨cs,h2,h⟩:=Ae9 h
  exact ⟨_,_,_,by simp [G7,h1,h2,AD2],h⟩
 case bslice =>
  obtain ⟨p,h1,h⟩:=AW6 h
  obtain ⟨cs,h2,h⟩:=Ae9 h
  exact ⟨_,_,_,by simp [G7,h1,h2],h⟩
 case load =>
  obtain ⟨p,h1,h⟩:=D7 h
  obtain ⟨v,rd,h2,h⟩:=As8 h
  exact ⟨_,_,_,by simp [G7,h1,h2],h⟩
 case store =>
  obtain ⟨p,h1,h⟩:=D7 h
  obtain ⟨v,h2,h⟩:=D7 h
  obtain ⟨up,rd,h3,h⟩:=BJ4 h
  exact ⟨_,_,_,by simp [G7,h1,h2,h3],h⟩
 case slS =>
  obtain ⟨a,h1,h⟩:=D7 h
  obtain ⟨lo,h2,h⟩:=AR1 h
  obtain ⟨hi,h3,h⟩:=AR1 h
  obtain ⟨mx,h4,h⟩:=AR1 h
  obtain ⟨v,h5,h⟩:=slSK_spec h
  exact ⟨_,_,_,by simp [G7,h1,h2,h3,h4,h5,AD2],h⟩
 case slA =>
  obtain ⟨a,h1,h⟩:=D7 h
  obtain ⟨lo,h2,h⟩:=AR1 h
  obtain ⟨hi,h3,h⟩:=AR1 h
  obtain ⟨v,rd,h5,h⟩:=slAK_spec h
  exact ⟨_,_,_,by simp [G7,h1,h2,h3,h5],h⟩
 case mkfn =>
  obtain ⟨a,h1,h⟩:=AD8 h
  obtain ⟨b,h2,h⟩:=AD8 h
  exact ⟨_,_,_,by simp [G7,h1,h2],h⟩
 case mks =>
  obtain ⟨a,h1,h⟩:=D7 h
  obtain ⟨b,h2,h⟩:=D7 h
  obtain ⟨v,up,h3,h⟩:=mksK_spec h
  exact ⟨_,_,_,by simp [G7,h1,h2,h3],h⟩
 case append =>
  obtain ⟨a,h1,h⟩:=D7 h
  obtain ⟨b,h2,h⟩:=D7 h
  obtain ⟨⟨v,up,rd,h3,h⟩⟩:=h
  exact ⟨_,_,_,by simp [G7,h1,h2,h3],h⟩
 case clear =>
  obtain ⟨a,h1,h⟩:=D7 h
  obtain ⟨up,rd,h2,h⟩:=BO8 h
  exact ⟨_,_,_,by simp [G7,h1,h2],h⟩
 case minmax =>
  obtain ⟨a,h1,h⟩:=D7 h
  obtain ⟨b,h2,h⟩:=AD8 h
  obtain ⟨v,h3,h⟩:=Aw0 h
  exact ⟨_,_,_,by simp [G7,h1,h2,h3,AD2],h⟩
 case nchk =>
  obtain ⟨a,h1,h⟩:=D7 h
  obtain ⟨v,h2,h⟩:=nchkK_spec h
  exact ⟨_,_,_,by simp [G7,ev1,h1,h2,AD2],h⟩
 case un =>
  obtain ⟨a,h1,h⟩:=D7 h
  obtain ⟨v,h2,h⟩:=unK_spec h
  exact ⟨_,_,_,by simp [G7,ev1,h1,h2,AD2],h⟩
 case conv =>
  obtain ⟨a,h1,h⟩:=D7 h
  obtain ⟨v,h2,h⟩:=convK_spec h
  exact ⟨_,_,_,by simp [G7,ev1,h1,h2,AD2],h⟩
 case faddr =>
  obtain ⟨a,h1,h⟩:=D7 h
  obtain ⟨v,h2,h⟩:=BN4 h
  exact ⟨_,_,_,by simp [G7,ev1,h1,h2,AD2],h⟩
 case fld =>
  obtain ⟨a,h1,h⟩:=D7 h
  obtain ⟨v,h2,h⟩:=fldK_spec h
  exact ⟨_,_,_,by simp [G7,ev1,h1,h2,AD2],h⟩
 case ext =>
  obtain ⟨a,h1,h⟩:=D7 h
  obtain ⟨v,h2,h⟩:=extK_spec h
  exact ⟨_,_,_,by simp [G7,ev1,h1,h2,AD2],h⟩
 case len =>
  obtain ⟨a,h1,h⟩:=D7 h
  obtain ⟨v,h2,h⟩:=h.out
  exact ⟨_,_,_,by simp [G7,ev1,h1,h2,AD2],h⟩
 case bin =>
  obtain ⟨a,h1,h⟩:=D7 h
  obtain ⟨b,h2,h⟩:=D7 h
  obtain ⟨v,h3,h⟩:=binK_spec h
  exact ⟨_,_,_,by simp [G7,ev2,h1,h2,h3,AD2],h⟩
 case eqb =>
  obtain ⟨a,h1,h⟩:=D7 h
  obtain ⟨b,h2,h⟩:=D7 h
  obtain ⟨v,h3,h⟩:=eqbK_spec h
  exact ⟨_,_,_,by simp [G7,ev2,h1,h2,h3,AD2],h⟩
 case eqp =>
  obtain ⟨a,h1,h⟩:=D7 h
  obtain ⟨b,h2,h⟩:=D7 h
  obtain ⟨v,h3,h⟩:=eqpK_spec h
  exact ⟨_,_,_,by simp [G7,ev2,h1,h2,h3,AD2],h⟩
 case eqs =>
  obtain ⟨a,h1,h⟩:=D7 h
  obtain ⟨b,h2,h⟩:=D7 h
  obtain ⟨v,h3,h⟩:=eqsK_spec h
  exact ⟨_,_,_,by simp [G7,ev2,h1,h2,h3,AD2],h⟩
 case iaddrA =>
  obtain ⟨a,h1,h⟩:=D7 h
  obtain ⟨b,h2,h⟩:=D7 h
  obtain ⟨v,h3,h⟩:=BE8 h
  exact ⟨_,_,_,by simp [G7,ev2,h1,h2,h3,AD2],h⟩
 case iaddrS =>
  obtain ⟨a,h1,h⟩:=D7 h
  obtain ⟨b,h2,h⟩:=D7 h
  obtain ⟨v,h3,h⟩:=BE7 h
  exact ⟨_,_,_,by simp [G7,ev2,h1,h2,h3,AD2],h⟩
 case idx =>
  obtain ⟨a,h1,h⟩:=D7 h
  obtain ⟨b,h2,h⟩:=D7 h
  obtain ⟨v,h3,h⟩:=idxK_spec h
  exact ⟨_,_,_,by simp [G7,ev2,h1,h2,h3,AD2],h⟩
end
end Go.Am
