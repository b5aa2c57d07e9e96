/-
 A quicker walk,first part: what an operation gives,as a computation that stops where something is to be shown. No program in sight.
 A quicker walk,second part: regions and code;that it is sound. No program in sight.
 A quicker walk,third part: its laws: entries and ends,loops,calls,appending,what may be forgotten. No program in sight.
 A quicker walk,fourth part: calls by contracts over a store of their own;ranges over functions,and their rounds. No program in sight.
 Calls that change blocks,in a region that draws its order. No program in sight.
 A walk as an argument's default: what is left of it is put together in one proposition. No program in sight.
-/
import Derived.Test.YtphggldkligldaaGreatQb
set_option linter.unusedSimpArgs false
set_option linter.unusedVariables false
namespace Go.Am
abbrev SF:=List (Nat × AV)
def Aw2:SF→Nat→AV
 | [],_=>.undef
 | (i,v)::r,t=>bif Nat.beq i t then v else Aw2 r t
def sd (n:Nat) (sf:SF):List AV:=(List.range n).map (Aw2 sf)
theorem Ac6 {n:Nat} {sf:SF} {t:Nat}:(sd n sf)[t]? = if t < n then some (Aw2 sf t) else none:=by
 simp only [sd,List.getElem?_map]
 by_cases h:t < n
 ·rw [if_pos h,List.getElem?_range h];rfl
 ·rw [if_neg h,List.getElem?_eq_none (by simpa using h)];rfl
theorem Ac4 {d t:Nat} {v:AV} {sf:SF}:Aw2 ((d,v)::sf) t=if d=t then v else Aw2 sf t:=by
 simp only [Aw2]
 by_cases h:d=t
 ·subst h;simp
 ·have : Nat.beq d t=false:=by cases e:Nat.beq d t with|false=>rfl|true=>exact absurd (Nat.eq_of_beq_eq_true e) h
  rw [this,if_neg h];rfl
theorem sd_set {n d:Nat} {v:AV} {sf:SF}:(sd n sf).set d v=sd n ((d,v)::sf):=by
 apply List.ext_getElem?
 intro j
 rw [List.getElem?_set,Ac6,Ac6,Ac4]
 have hl:(sd n sf).length=n:=by simp [sd]
 rw [hl]
 by_cases h:d=j
 ·subst h;simp
 ·rw [if_neg h,if_neg h]
def BH2 (sf:SF) (d:Option Nat) (v:AV) (k:SF→Prop):Prop:=match d with
 | some d=>k ((d,v)::sf)
 | none=>k sf
theorem Ad2 {n:Nat} {sf:SF} {d:Option Nat} {v:AV} {k:SF→Prop} (h:BH2 sf d v k):∃ sf',AH1 (sd n sf) d v=sd n sf'∧k sf':=by
 cases d with
 | none=>exact ⟨sf,rfl,h⟩
 | some d=>exact ⟨_,sd_set,h⟩
structure BrX (p:Bool) (A B:Prop):Prop where
 out:(p=true→A)∧(p=false→B)
structure CkX (p A:Prop):Prop where
 ok:p
 out:A
def ckK (p:Bool) (A:Prop):Prop:=match p with
 | true=>A
 | false=>False
structure EqX {α:Type} (e:α) (K:α→Prop):Prop where
 out:∃ m,e=m∧K m
structure ElX (els:List (List AV)) (j sz:Nat) (K:List AV→Prop):Prop where
 out:∃ el,els[j]? = some el∧el.length=sz∧K el
structure Ax5 (p:Bool) (A:Prop):Prop where
 ok:p=true
 out:A
theorem AJ0 {p:Bool} {A B:Prop} (h:BrX p A B):(p=true→A)∧(p=false→B):=h.out
theorem AI9 {p:Bool} {A:Prop} (h:ckK p A):p=true∧A:=by
 cases p
 ·exact h.elim
 ·exact ⟨rfl,h⟩
def Ai4:SF→Nat→(AV→Prop)→Prop
 | [],_,k=>k .undef
 | (i,v)::r,t,k=>bif Nat.beq i t then k v else Ai4 r t k
theorem AE3 {k:AV→Prop}:∀ {sf:SF} {t:Nat},Ai4 sf t k→k (Aw2 sf t)
 | [],_,h=>h
 | (i,v)::r,t,h=>by
  simp only [Ai4] at h
  simp only [Aw2]
  cases e:Nat.beq i t with
  | true=>rw [e] at h;exact h
  | false=>rw [e] at h;exact AE3 (sf:=r) h
section
variable {G:Gl} {n:Nat} {sf:SF}
def axK (G:Gl) (n:Nat) (sf:SF) (x:AX) (k:AV→Prop):Prop:=match x with
 | .t t=>bif Nat.blt t n then Ai4 sf t k else False
 | .k v=>k v
 | .g g=>match G g with
  | some cs=>k (.iptr cs)
  | none=>False
theorem Av4 {a b:Nat} (h:Nat.blt a b=true):a < b:=Nat.le_of_ble_eq_true h
theorem G6 {x:AX} {k:AV→Prop} (h:axK G n sf x k):∃ v,ax G (sd n sf) x=some v∧k v:=by
 cases x with
 | t t =>
  simp only [axK] at h
  cases e:Nat.blt t n with
  | false=>rw [e] at h;exact h.elim
  | true =>
   rw [e] at h
   exact ⟨_,by show (sd n sf)[t]? = _;rw [Ac6,if_pos (Av4 e)],AE3 h⟩
 | k v=>exact ⟨v,rfl,h⟩
 | g g =>
  simp only [axK] at h
  split at h
  ·rename_i cs e;exact ⟨.iptr cs,by simp [ax,e],h⟩
  ·exact h.elim
def BH9 (G:Gl) (n:Nat) (sf:SF):List AX→(List AV→Prop)→Prop
 | [],k=>k []
 | x::r,k=>axK G n sf x fun v=>BH9 G n sf r fun l=>k (v::l)
theorem AH8:∀ {xs:List AX} {k:List AV→Prop},BH9 G n sf xs k→∃ l,Aa2 (ax G (sd n sf)) xs=some l∧k l
 | [],k,h=>⟨[],rfl,h⟩
 | x::r,k,h=>by
  obtain ⟨v,hv,h2⟩:=G6 h
  obtain ⟨l,hl,h3⟩:=AH8 h2
  exact ⟨v::l,by simp [Aa2,hv,hl],h3⟩
def partsK (G:Gl) (n:Nat) (sf:SF):List (Nat × Nat × AX)→(List (Nat × Nat × AV)→Prop)→Prop
 | [],k=>k []
 | (o,s,x)::r,k=>axK G n sf x fun v=>partsK G n sf r fun l=>k ((o,s,v)::l)
theorem Aa6:∀ {xs:List (Nat × Nat × AX)} {k:List (Nat × Nat × AV)→Prop},partsK G n sf xs k→∃ l,AZ7 (ax G (sd n sf)) xs=some l∧k l
 | [],k,h=>⟨[],rfl,h⟩
 | (o,s,x)::r,k,h=>by
  obtain ⟨v,hv,h2⟩:=G6 h
  obtain ⟨l,hl,h3⟩:=Aa6 h2
  exact ⟨_,by simp [AZ7,hv,hl],h3⟩
end
def nthK:List AV→Nat→(AV→Prop)→Prop
 | [],_,_=>False
 | v::_,0,k=>k v
 | _::r,o+1,k=>nthK r o k
theorem Ad8 {k:AV→Prop}:∀ {cs:List AV} {o:Nat},nthK cs o k→∃ v,cs[o]? = some v∧k v
 | [],_,h=>h.elim
 | v::_,0,h=>⟨v,rfl,h⟩
 | _::r,o+1,h=>by obtain ⟨v,h1,h2⟩:=Ad8 (cs:=r) (o:=o) h;exact ⟨v,by simpa using h1,h2⟩
theorem J2 {k:AV→Prop}:∀ {cs:List AV} {o:Nat} {v:AV},cs[o]? = some v→k v→nthK cs o k
 | [],_,_,h,_=>by simp at h
 | v::_,0,_,h,hk=>by simp at h;subst h;exact hk
 | _::r,o+1,_,h,hk=>J2 (cs:=r) (o:=o) (by simpa using h) hk
def dropK:List AV→Nat→(List AV→Prop)→Prop
 | cs,0,k=>k cs
 | [],_+1,_=>False
 | _::r,o+1,k=>dropK r o k
theorem Aj5 {k:List AV→Prop}:∀ {cs:List AV} {o:Nat},dropK cs o k→o≤cs.length∧k (cs.drop o)
 | [],0,h=>⟨Nat.zero_le _,h⟩
 | _::_,0,h=>⟨Nat.zero_le _,h⟩
 | [],_+1,h=>h.elim
 | _::r,o+1,h=>by obtain ⟨h1,h2⟩:=Aj5 (cs:=r) (o:=o) h;exact ⟨by simp;omega,h2⟩
theorem Y5 {k:List AV→Prop}:∀ {cs ds:List AV} {o:Nat},o≤cs.length→cs.drop o=ds→k ds→dropK cs o k
 | [],_,0,_,rfl,h=>h
 | _::_,_,0,_,rfl,h=>h
 | [],_,_+1,h,_,_=>by simp at h
 | _::r,_,o+1,h,rfl,hk=>Y5 (cs:=r) (o:=o) (by simpa using h) rfl hk
def takeK:List AV→Nat→(List AV→Prop)→Prop
 | _,0,k=>k []
 | [],_+1,_=>False
 | x::r,m+1,k=>takeK r m fun l=>k (x::l)
theorem Ah1:∀ {cs:List AV} {m:Nat} {k:List AV→Prop},takeK cs m k→m≤cs.length∧k (cs.take m)
 | [],0,_,h=>⟨Nat.zero_le _,h⟩
 | _::_,0,_,h=>⟨Nat.zero_le _,h⟩
 | [],_+1,_,h=>h.elim
 | x::r,m+1,k,h=>by obtain ⟨h1,h2⟩:=Ah1 (cs:=r) (m:=m) h;exact ⟨by simp;omega,h2⟩
theorem Y0:∀ {cs ds:List AV} {m:Nat} {k:List AV→Prop},m≤cs.length→cs.take m=ds→k ds→takeK cs m k
 | [],_,0,_,_,rfl,h=>h
 | _::_,_,0,_,_,rfl,h=>h
 | [],_,_+1,_,h,_,_=>by simp at h
 | x::r,_,m+1,k,h,rfl,hk=>Y0 (cs:=r) (m:=m) (by simpa using h) rfl hk
def set1K:List AV→Nat→AV→(List AV→Prop)→Prop
 | [],_,_,_=>False
 | _::r,0,v,k=>k (v::r)
 | x::r,o+1,v,k=>set1K r o v fun r'=>k (x::r')
theorem Ax9 {v:AV}:∀ {cs:List AV} {o:Nat} {k:List AV→Prop},set1K cs o v k→o < cs.length∧k (cs.set o v)
 | [],_,_,h=>h.elim
 | _::_,0,_,h=>⟨by simp,h⟩
 | x::r,o+1,k,h=>by obtain ⟨h1,h2⟩:=Ax9 (cs:=r) (o:=o) h;exact ⟨by simpa using h1,h2⟩
theorem E9 {v:AV}:∀ {cs ds:List AV} {o:Nat} {k:List AV→Prop},o < cs.length→cs.set o v=ds→k ds→set1K cs o v k
 | [],_,_,_,h,_,_=>by simp at h
 | _::_,_,0,_,_,rfl,h=>h
 | x::r,_,o+1,k,h,rfl,hk=>E9 (cs:=r) (o:=o) (by simpa using h) rfl hk
def overK:List AV→Nat→List AV→(List AV→Prop)→Prop
 | cs,_,[],k=>k cs
 | cs,o,v::vs,k=>set1K cs o v fun cs'=>overK cs' (o+1) vs k
theorem Ai2 {k:List AV→Prop}:∀ {vs cs:List AV} {o:Nat},overK cs o vs k→(0 < vs.length→o+vs.length≤cs.length)∧k (over cs o vs)
 | [],cs,o,h=>⟨fun e=>by simp at e,h⟩
 | v::vs,cs,o,h=>by
  obtain ⟨h1,h2⟩:=Ax9 h
  obtain ⟨h3,h4⟩:=Ai2 (vs:=vs) h2
  refine ⟨fun _=>?_,h4⟩
  by_cases e:0 < vs.length
  ·have:=h3 e;simp at this ⊢;omega
  ·simp;omega
theorem AK8 {k:List AV→Prop}:∀ {vs cs ds:List AV} {o:Nat},o+vs.length≤cs.length→over cs o vs=ds→k ds→overK cs o vs k
 | [],_,_,_,_,rfl,h=>h
 | v::vs,cs,_,o,h,rfl,hk=>E9 (by simp at h;omega) rfl (AK8 (vs:=vs) (by simp at h ⊢;omega) rfl hk)
def flatLK (v:AV) (s:Nat) (k:List AV→Prop):Prop:=match v with
 | .agg cs=>CkX (cs.length=s) (k cs)
 | .undef=>False
 | .tup _=>False
 | v=>ckK (Nat.beq 1 s) (k [v])
theorem Au0 {v:AV} {s:Nat} {k:List AV→Prop} (h:flatLK v s k):v.flat=true∧v.cells.length=s∧k v.cells:=by
 cases v<;>first|exact h.elim|exact ⟨rfl,(Nat.eq_of_beq_eq_true (AI9 h).1:1=s),(AI9 h).2⟩|exact ⟨rfl,h.ok,h.out⟩
def flatK (v:AV) (k:List AV→Prop):Prop:=match v with
 | .agg cs=>k cs
 | .undef=>False
 | .tup _=>False
 | v=>k [v]
theorem flatK_spec {v:AV} {k:List AV→Prop} (h:flatK v k):v.flat=true∧k v.cells:=by
 cases v<;>first|exact h.elim|exact ⟨rfl,h⟩
def AX1:List (Nat × AObj)→Nat→(List AV→Prop)→Prop
 | [],_,_=>False
 | (j,o)::r,i,k=>bif Nat.beq j i then (match o with
  | .cells cs=>k cs
  | _=>False) else AX1 r i k
theorem beq_eq {a b:Nat} (h:Nat.beq a b=true):a=b:=Nat.eq_of_beq_eq_true h
theorem Av5 {a b:Nat} (h:Nat.beq a b=false):a ≠ b:=fun e=>by subst e;simp at h
theorem AI5 {k:List AV→Prop}:∀ {l:List (Nat × AObj)} {i:Nat},AX1 l i k→∃ cs,lk l i=some (.cells cs)∧k cs
 | [],_,h=>h.elim
 | (j,o)::r,i,h=>by
  simp only [AX1] at h
  simp only [lk]
  cases e:Nat.beq j i with
  | true =>
   rw [e] at h
   rw [if_pos (beq_eq e).symm]
   cases o<;>first|exact ⟨_,rfl,h⟩|exact h.elim
  | false =>
   rw [e] at h
   rw [if_neg fun x=>Av5 e x.symm]
   exact AI5 (l:=r) h
theorem BO9 {k:List AV→Prop}:∀ {l:List (Nat × AObj)} {i:Nat} {cs:List AV},lk l i=some (.cells cs)→k cs→AX1 l i k
 | [],_,_,h,_=>by cases h
 | (j,o)::r,i,cs,h,hk=>by
  simp only [lk] at h
  simp only [AX1]
  cases e:Nat.beq j i with
  | true=>rw [if_pos (beq_eq e).symm] at h;cases h;exact hk
  | false=>rw [if_neg fun x=>Av5 e x.symm] at h;exact BO9 (l:=r) h hk
def kindOk:AV→AV→Bool
 | .int k _,.int k' _=>decide (k=k')
 | _,_=>true
theorem pick_val {t:Bool} {a b:AV} (h:kindOk a b=true):pickV (.bool t) a b=some (if t then a else b):=by
 cases a<;>cases b<;>cases t<;>simp_all [pickV,kindOk]
def pickK (c a b:AV) (k:AV→Prop):Prop:=match c with
 | .bool t=>ckK (kindOk a b) (BrX t (k a) (k b))
 | _=>False
theorem pickK_spec {c a b:AV} {k:AV→Prop} (h:pickK c a b k):∃ v,pickV c a b=some v∧k v:=by
 cases c<;>try exact h.elim
 rename_i t
 obtain ⟨h1,h2⟩:=AI9 h
 refine ⟨_,pick_val h1,?_⟩
 cases t
 ·exact (AJ0 h2).2 rfl
 ·exact (AJ0 h2).1 rfl
def fillK:List AV→List (Nat × Nat × AV)→(List AV→Prop)→Prop
 | z,[],k=>k z
 | z,(o,s,v)::r,k=>flatLK v s fun cs=>ckK (Nat.ble (o+s) z.length) (overK z o cs fun z'=>fillK z' r k)
theorem Aj4 {k:List AV→Prop}:∀ {l:List (Nat × Nat × AV)} {z:List AV},fillK z l k→∃ cs,BF2 z l=some cs∧k cs
 | [],z,h=>⟨z,rfl,h⟩
 | (o,s,v)::r,z,h=>by
  obtain ⟨h1,h3,h4⟩:=Au0 h
  obtain ⟨h5,h6⟩:=AI9 h4
  obtain ⟨_,h8⟩:=Ai2 h6
  obtain ⟨cs,h9,h10⟩:=Aj4 h8
  refine ⟨cs,?_,h10⟩
  rw [BF2,if_pos ⟨h1,h3,Nat.le_of_ble_eq_true h5⟩]
  exact h9
def BT5 (ag:Bool) (off m:Nat) (cs:List AV) (k:AV→Prop):Prop:=match ag with
 | true=>dropK cs off fun ds=>takeK ds m fun es=>k (.agg es)
 | false=>nthK cs off k
theorem AY0 {ag:Bool} {off m:Nat} {cs:List AV} {k:AV→Prop} (h:BT5 ag off m cs k):∃ v,AY9 ag off m cs=some v∧k v:=by
 cases ag with
 | false=>exact Ad8 h
 | true =>
  obtain ⟨h1,h2⟩:=Aj5 h
  obtain ⟨h3,h4⟩:=Ah1 h2
  exact ⟨_,by simp only [AY9,if_true];rw [if_pos (by simp at h3;omega)],h4⟩
def loadK (l:List (Nat × AObj)) (ag:Bool) (m:Nat) (p:AV) (k:AV→List Nat→Prop):Prop:=match p with
 | .ptr i o=>AX1 l i fun cs=>BT5 ag o m cs fun v=>k v [i]
 | .iptr cs=>BT5 ag 0 m cs fun v=>k v []
 | _=>False
theorem Az4 {l:List (Nat × AObj)} {ag:Bool} {m:Nat} {p:AV} {k:AV→List Nat→Prop} (h:loadK l ag m p k):∃ v rd,Ax3 (lk l) ag m p=some (v,rd)∧k v rd:=by
 cases p<;>try exact h.elim
 ·obtain ⟨cs,h1,h2⟩:=AI5 h
  obtain ⟨v,h3,h4⟩:=AY0 h2
  exact ⟨v,_,by simp [Ax3,o8,h1,h3],h4⟩
 ·obtain ⟨v,h3,h4⟩:=AY0 (k:=fun v=>k v []) h
  exact ⟨v,_,by simp [Ax3,h3],h4⟩
def storeK (l:List (Nat × AObj)) (m:Nat) (p v:AV) (k:Up→List Nat→Prop):Prop:=match p with
 | .ptr i o=>flatLK v m fun vs=>ckK (Nat.blt 0 m) (AX1 l i fun cs=>overK cs o vs fun cs'=>k [(i,some (.cells cs'))] [i])
 | _=>False
theorem BR9 {l:List (Nat × AObj)} {m:Nat} {p v:AV} {k:Up→List Nat→Prop} (h:storeK l m p v k):∃ up rd,Ak2 (lk l) m v p=some (up,rd)∧k up rd:=by
 cases p<;>try exact h.elim
 obtain ⟨h1,e3,h4⟩:=Au0 h
 obtain ⟨h5,h6⟩:=AI9 h4
 obtain ⟨cs,h7,h8⟩:=AI5 h6
 obtain ⟨h9,h10⟩:=Ai2 h8
 have e5:=Av4 h5
 exact ⟨_,_,by simp only [Ak2,o8,h7];rw [if_pos ⟨h1,e3,e5,by have:=h9 (by omega);omega⟩],h10⟩
def nchkK (v:AV) (k:AV→Prop):Prop:=match v with
 | .ptr i o=>k (.ptr i o)
 | .iptr cs=>k (.iptr cs)
 | _=>False
theorem nchkK_spec {v:AV} {k:AV→Prop} (h:nchkK v k):∃ u,nchkV v=some u∧k u:=by
 cases v<;>first|exact h.elim|exact ⟨_,rfl,h⟩
def binK (op:BinOp) (a b:AV) (k:AV→Prop):Prop:=match a,b with
 | .int k1 x,.int k2 y=>match op with
  | .shl=>CkX (0≤y) (EqX (k1.wrap (x * 2 ^ (min y.toNat k1.bits))) fun m=>k (.int k1 m))
  | .shr=>CkX (0≤y) (EqX (x.fdiv (2 ^ (min y.toNat k1.bits))) fun m=>k (.int k1 m))
  | .add=>ckK (decide (k1=k2)) (EqX (k1.wrap (x+y)) fun m=>k (.int k1 m))
  | .sub=>ckK (decide (k1=k2)) (EqX (k1.wrap (x - y)) fun m=>k (.int k1 m))
  | .mul=>ckK (decide (k1=k2)) (EqX (k1.wrap (x * y)) fun m=>k (.int k1 m))
  | .quo=>ckK (decide (k1=k2)) (CkX (y ≠ 0) (EqX (k1.wrap (x.tdiv y)) fun m=>k (.int k1 m)))
  | .rem=>ckK (decide (k1=k2)) (CkX (y ≠ 0) (EqX (x.tmod y) fun m=>k (.int k1 m)))
  | .and=>ckK (decide (k1=k2)) (EqX (bits .and k1 x y) fun m=>k (.int k1 m))
  | .or=>ckK (decide (k1=k2)) (EqX (bits .or k1 x y) fun m=>k (.int k1 m))
  | .xor=>ckK (decide (k1=k2)) (EqX (bits .xor k1 x y) fun m=>k (.int k1 m))
  | .andNot=>ckK (decide (k1=k2)) (EqX (bits .andNot k1 x y) fun m=>k (.int k1 m))
  | .eql=>ckK (decide (k1=k2)) (k (.bool (decide (x=y))))
  | .neq=>ckK (decide (k1=k2)) (k (.bool (!decide (x=y))))
  | .lss=>ckK (decide (k1=k2)) (k (.bool (decide (x < y))))
  | .leq=>ckK (decide (k1=k2)) (k (.bool (decide (x≤y))))
  | .gtr=>ckK (decide (k1=k2)) (k (.bool (decide (y < x))))
  | .geq=>ckK (decide (k1=k2)) (k (.bool (decide (y≤x))))
 | _,_=>False
theorem binK_spec {op:BinOp} {a b:AV} {k:AV→Prop} (h:binK op a b k):∃ v,BP3 op a b=some v∧k v:=by
 cases a<;>cases b<;>try exact h.elim
 rename_i k1 x k2 y
 cases op<;>simp only [binK] at h
 case shl=>obtain ⟨h1,⟨⟨m,rfl,h3⟩⟩⟩:=h;exact ⟨_,by simp only [BP3];rw [if_neg (by omega)],h3⟩
 case shr=>obtain ⟨h1,⟨⟨m,rfl,h3⟩⟩⟩:=h;exact ⟨_,by simp only [BP3];rw [if_neg (by omega)],h3⟩
 all_goals (obtain ⟨h1,h2⟩:=AI9 h;simp only [decide_eq_true_eq] at h1)
 case quo =>
  obtain ⟨h4,h5⟩:=h2
  obtain ⟨⟨m,rfl,h3⟩⟩:=h5
  exact ⟨_,by simp only [BP3];rw [if_pos ⟨h1,h4⟩],h3⟩
 case rem =>
  obtain ⟨h4,h5⟩:=h2
  obtain ⟨⟨m,rfl,h3⟩⟩:=h5
  exact ⟨_,by simp only [BP3];rw [if_pos ⟨h1,h4⟩],h3⟩
 case eql=>exact ⟨_,by simp only [BP3];rw [if_pos h1];rfl,h2⟩
 case neq=>exact ⟨_,by simp only [BP3];rw [if_pos h1];rfl,h2⟩
 case lss=>exact ⟨_,by simp only [BP3];rw [if_pos h1],h2⟩
 case leq=>exact ⟨_,by simp only [BP3];rw [if_pos h1],h2⟩
 case gtr=>exact ⟨_,by simp only [BP3];rw [if_pos h1],h2⟩
 case geq=>exact ⟨_,by simp only [BP3];rw [if_pos h1],h2⟩
 all_goals
  obtain ⟨⟨m,rfl,h3⟩⟩:=h2
  exact ⟨_,by simp only [BP3];rw [if_pos h1],h3⟩
def eqbK (ng:Bool) (a b:AV) (k:AV→Prop):Prop:=match a,b with
 | .bool x,.bool y=>match ng with
  | true=>k (.bool (!(x == y)))
  | false=>k (.bool (x == y))
 | _,_=>False
theorem eqbK_spec {ng:Bool} {a b:AV} {k:AV→Prop} (h:eqbK ng a b k):∃ v,eqbV ng a b=some v∧k v:=by
 cases a<;>cases b<;>try exact h.elim
 cases ng<;>exact ⟨_,rfl,h⟩
def nilKK (fn:Bool) (v:AV) (k:Bool→Prop):Prop:=match fn,v with
 | false,.nilp=>k true
 | false,.ptr _ _=>k false
 | false,.iptr _=>k false
 | true,.nilf=>k true
 | true,.fn _ _ _=>k false
 | _,_=>False
theorem Az1 {fn:Bool} {v:AV} {k:Bool→Prop} (h:nilKK fn v k):∃ b,nilK fn v=some b∧k b:=by
 cases fn<;>cases v<;>first|exact h.elim|exact ⟨_,rfl,h⟩
def ngK (ng r:Bool) (k:AV→Prop):Prop:=match ng,r with
 | true,true=>k (.bool false)
 | true,false=>k (.bool true)
 | false,true=>k (.bool true)
 | false,false=>k (.bool false)
def eqpK (ng fn:Bool) (a b:AV) (k:AV→Prop):Prop:=nilKK fn a fun p=>nilKK fn b fun q=>match p,q with
 | true,q=>ngK ng q k
 | false,true=>ngK ng false k
 | false,false=>False
theorem eqpK_spec {ng fn:Bool} {a b:AV} {k:AV→Prop} (h:eqpK ng fn a b k):∃ v,eqpV ng fn a b=some v∧k v:=by
 obtain ⟨p,h1,h⟩:=Az1 h
 obtain ⟨q,h2,h⟩:=Az1 h
 cases p<;>cases q<;>first|exact h.elim|(cases ng<;>exact ⟨_,by simp [eqpV,h1,h2],h⟩)
def eq1K (f:Nat) (x y:AV) (k:Bool→Prop):Prop:=match f,x,y with
 | 0,.int k1 a,.int k2 b=>ckK (decide (k1=k2)) (k (decide (a=b)))
 | 1,.bool a,.bool b=>k (a == b)
 | 2,.str a,.str b=>k (a.toList == b.toList)
 | _,_,_=>False
theorem eq1K_spec {f:Nat} {x y:AV} {k:Bool→Prop} (h:eq1K f x y k):∃ t,eq1 f x y=some t∧k t:=by
 unfold eq1K at h
 split at h
 ·obtain ⟨h1,h2⟩:=AI9 h
  simp only [decide_eq_true_eq] at h1
  exact ⟨_,by simp only [eq1];rw [if_pos h1];rfl,h2⟩
 ·exact ⟨_,rfl,h⟩
 ·exact ⟨_,rfl,h⟩
 ·exact h.elim
def eqLK:List Nat→List AV→List AV→(Bool→Prop)→Prop
 | [],[],[],k=>k true
 | f::ks,x::r,y::s,k=>eq1K f x y fun t=>eqLK ks r s fun u=>k (t && u)
 | _,_,_,_=>False
theorem BN7:∀ {ks:List Nat} {r s:List AV} {k:Bool→Prop},eqLK ks r s k→∃ t,eqL ks r s=some t∧k t
 | [],[],[],_,h=>⟨true,rfl,h⟩
 | [],[],_::_,_,h=>h.elim
 | [],_::_,_,_,h=>h.elim
 | _::_,[],_,_,h=>h.elim
 | _::_,_::_,[],_,h=>h.elim
 | f::ks,x::r,y::s,k,h=>by
  simp only [eqLK] at h
  obtain ⟨p,h1,h⟩:=eq1K_spec h
  obtain ⟨t,h3,h4⟩:=BN7 h
  exact ⟨_,by simp only [eqL,h1,h3];rfl,h4⟩
theorem eqLK_of {k:Bool→Prop}:∀ {ks:List Nat} {r s:List AV} {t:Bool},eqL ks r s=some t→k t→eqLK ks r s k
 | [],[],[],_,h,hk=>by cases h;exact hk
 | [],[],_::_,_,h,_=>by cases h
 | [],_::_,_,_,h,_=>by cases h
 | _::_,[],_,_,h,_=>by cases h
 | _::_,_::_,[],_,h,_=>by cases h
 | f::ks,x::r,y::s,_,h,hk=>by
  simp only [eqL,Option.bind_eq_some_iff,Option.map_eq_some_iff] at h
  obtain ⟨p,h1,t,h2,rfl⟩:=h
  have h3:eqLK ks r s fun u=>k (p && u):=eqLK_of h2 hk
  simp only [eqLK]
  unfold eq1 at h1
  split at h1
  ·split at h1
   ·rename_i hk1;cases h1;simp only [eq1K,ckK,decide_eq_true hk1];exact h3
   ·cases h1
  ·cases h1;exact h3
  ·cases h1;exact h3
  ·cases h1
structure BB1 (ks:List Nat) (r s:List AV) (k:Bool→Prop):Prop where
 out:eqLK ks r s k
theorem Au5 {ks:List Nat} {r s:List AV} {t:Bool} {k:Bool→Prop} (h:eqL ks r s=some t) (hk:k t):BB1 ks r s k:=⟨eqLK_of h hk⟩
def eqsK (ng:Bool) (ks:List Nat) (a b:AV) (k:AV→Prop):Prop:=match a,b with
 | .agg r,.agg s=>BB1 ks r s fun t=>match ng with
  | true=>k (.bool (!t))
  | false=>k (.bool t)
 | _,_=>False
theorem eqsK_spec {ng:Bool} {ks:List Nat} {a b:AV} {k:AV→Prop} (h:eqsK ng ks a b k):∃ v,eqsV ng ks a b=some v∧k v:=by
 cases a<;>cases b<;>try exact h.elim
 obtain ⟨t,h1,h2⟩:=BN7 h.out
 cases ng<;>exact ⟨_,by simp only [eqsV,h1];rfl,h2⟩
def unK (op:UnOp) (a:AV) (k:AV→Prop):Prop:=match a with
 | .int k1 x=>match op with
  | .neg=>EqX (k1.wrap (0 - x)) fun m=>k (.int k1 m)
  | .xor=>EqX (bits .xor k1 (if k1.signed then -1 else k1.max) x) fun m=>k (.int k1 m)
  | _=>False
 | .bool b=>match op with
  | .not=>k (.bool (!b))
  | _=>False
 | _=>False
theorem unK_spec {op:UnOp} {a:AV} {k:AV→Prop} (h:unK op a k):∃ v,unV op a=some v∧k v:=by
 cases a<;>cases op<;>first|exact h.elim|exact ⟨_,rfl,h⟩|(obtain ⟨⟨m,rfl,h3⟩⟩:=h;exact ⟨_,rfl,h3⟩)
def convK (k1:IntKind) (a:AV) (k:AV→Prop):Prop:=match a with
 | .int _ x=>EqX (k1.wrap x) fun m=>k (.int k1 m)
 | _=>False
theorem convK_spec {k1:IntKind} {a:AV} {k:AV→Prop} (h:convK k1 a k):∃ v,convV k1 a=some v∧k v:=by
 cases a<;>try exact h.elim
 obtain ⟨⟨m,rfl,h3⟩⟩:=h;exact ⟨_,rfl,h3⟩
def faddrK (off:Nat) (p:AV) (k:AV→Prop):Prop:=match p with
 | .ptr i o=>EqX (o+off) fun q=>k (.ptr i q)
 | .iptr cs=>EqX (cs.drop off) fun ds=>k (.iptr ds)
 | _=>False
theorem BW1 {off:Nat} {a:AV} {k:AV→Prop} (h:faddrK off a k):∃ v,faddrV off a=some v∧k v:=by
 cases a<;>first|exact h.elim|(obtain ⟨⟨m,rfl,h3⟩⟩:=h;exact ⟨_,rfl,h3⟩)
def fldK (ag:Bool) (off m:Nat) (a:AV) (k:AV→Prop):Prop:=match a with
 | .agg cs=>BT5 ag off m cs k
 | _=>False
theorem fldK_spec {ag:Bool} {off m:Nat} {a:AV} {k:AV→Prop} (h:fldK ag off m a k):∃ v,fldV ag off m a=some v∧k v:=by
 cases a<;>first|exact h.elim|exact AY0 h
def iaddrAK (len sz:Nat) (p i:AV) (k:AV→Prop):Prop:=match p,i with
 | .ptr b o,.int _ m=>CkX (0≤m∧m < (len:Int)) (EqX (o+m.toNat * sz) fun q=>k (.ptr b q))
 | .iptr cs,.int _ m=>CkX (0≤m∧m < (len:Int)) (EqX (cs.drop (m.toNat * sz)) fun ds=>k (.iptr ds))
 | _,_=>False
theorem BM6 {len sz:Nat} {p i:AV} {k:AV→Prop} (h:iaddrAK len sz p i k):∃ v,At3 len sz p i=some v∧k v:=by
 cases p<;>cases i<;>first
  | exact h.elim
  | (obtain ⟨h1,⟨⟨m,rfl,h3⟩⟩⟩:=h;exact ⟨_,by simp only [At3];rw [if_pos h1],h3⟩)
def iaddrSK (sz:Nat) (p i:AV) (k:AV→Prop):Prop:=match p,i with
 | .sl id off len _ sz',.int _ m=>ckK (Nat.beq sz sz') (CkX (0≤m∧m < (len:Int)) (EqX (off+m.toNat * sz) fun q=>k (.ptr id q)))
 | .isl els,.int _ m=>CkX (0≤m) (ElX els m.toNat sz fun el=>k (.iptr el))
 | _,_=>False
theorem BM5 {sz:Nat} {p i:AV} {k:AV→Prop} (h:iaddrSK sz p i k):∃ v,Aj0 sz p i=some v∧k v:=by
 cases p<;>cases i<;>try exact h.elim
 ·obtain ⟨h0,h1⟩:=AI9 h
  obtain ⟨h1,⟨⟨m,rfl,h3⟩⟩⟩:=h1
  exact ⟨_,by simp only [Aj0];rw [if_pos ⟨beq_eq h0,h1⟩],h3⟩
 ·obtain ⟨h1,⟨⟨el,h2,h3,h4⟩⟩⟩:=h
  exact ⟨_,by simp only [Aj0];rw [if_pos h1,h2];simp [h3],h4⟩
def idxK (ag:Bool) (len sz:Nat) (a i:AV) (k:AV→Prop):Prop:=match a,i with
 | .agg cs,.int _ m=>CkX (0≤m∧m < (len:Int)) (EqX (m.toNat * sz) fun q=>BT5 ag q sz cs k)
 | _,_=>False
theorem idxK_spec {ag:Bool} {len sz:Nat} {a i:AV} {k:AV→Prop} (h:idxK ag len sz a i k):∃ v,idxV ag len sz a i=some v∧k v:=by
 cases a<;>cases i<;>try exact h.elim
 obtain ⟨h1,⟨⟨m,rfl,h3⟩⟩⟩:=h
 obtain ⟨v,h4,h5⟩:=AY0 h3
 exact ⟨v,by simp only [idxV];rw [if_pos h1];exact h4,h5⟩
def bndK (v:AV) (k:Nat→Prop):Prop:=match v with
 | .int _ m=>CkX (0≤m) (EqX m.toNat k)
 | _=>False
theorem bndK_spec {v:AV} {k:Nat→Prop} (h:bndK v k):∃ q,bndV (some v)=some (some q)∧k q:=by
 cases v<;>try exact h.elim
 obtain ⟨h1,⟨⟨m,rfl,h3⟩⟩⟩:=h
 exact ⟨_,by simp only [bndV];rw [if_pos h1],h3⟩
section
variable {G:Gl} {n:Nat} {sf:SF}
def optK (G:Gl) (n:Nat) (sf:SF) (x:Option AX) (k:Option Nat→Prop):Prop:=match x with
 | none=>k none
 | some x=>axK G n sf x fun v=>bndK v fun q=>k (some q)
theorem AV6 {x:Option AX} {k:Option Nat→Prop} (h:optK G n sf x k):∃ q,(evO (ax G (sd n sf)) x).bind bndV=some q∧k q:=by
 cases x with
 | none=>exact ⟨none,rfl,h⟩
 | some x =>
  obtain ⟨v,h1,h2⟩:=G6 h
  obtain ⟨q,h3,h4⟩:=bndK_spec h2
  exact ⟨some q,by simp [evO,h1,h3],h4⟩
end
def orK (o:Option Nat) (d:Nat) (k:Nat→Prop):Prop:=match o with
 | some q=>k q
 | none=>k d
theorem AF5 {o:Option Nat} {d:Nat} {k:Nat→Prop} (h:orK o d k):k (o.getD d):=by cases o<;>exact h
def someK (o:Option Nat) (A B:Prop):Prop:=match o with
 | some _=>A
 | none=>B
theorem AX4 {o:Option Nat} {A B:Prop} (h:someK o A B):(o.isSome=true→A)∧(o.isSome=false→B):=by
 cases o
 ·exact ⟨fun e=>(by cases e),fun _=>h⟩
 ·exact ⟨fun _=>h,fun e=>(by cases e)⟩
def slSK (sz:Nat) (x:AV) (lo hi mx:Option Nat) (k:AV→Prop):Prop:=match x with
 | .sl id off len cp sz'=>orK mx cp fun m=>orK hi len fun h=>orK lo 0 fun l=>ckK (Nat.beq sz sz') (CkX (l≤h∧h≤m∧m≤cp) (BrX (decide (l < m)) (EqX (off+l * sz) fun o=>EqX (h - l) fun ln=>EqX (m - l) fun c=>k (.sl id o ln c sz)) (someK mx (k .nils) (k (.isl [])))))
 | .isl els=>orK mx els.length fun m=>orK hi els.length fun h=>orK lo 0 fun l=>CkX (l≤h∧h≤m∧m≤els.length∧(l=0∨els.all (fun e=>e.length == sz)=true)) (someK mx (BrX (decide (l=m)) (k .nils) (EqX ((els.take h).drop l) fun es=>k (.isl es))) (EqX ((els.take h).drop l) fun es=>k (.isl es)))
 | .nils=>orK mx 0 fun m=>orK hi 0 fun h=>orK lo 0 fun l=>CkX (l=0∧h=0∧m=0) (k .nils)
 | _=>False
theorem slSK_spec {sz:Nat} {x:AV} {lo hi mx:Option Nat} {k:AV→Prop} (h:slSK sz x lo hi mx k):∃ v,slSV sz x lo hi mx=some v∧k v:=by
 cases x<;>try exact h.elim
 ·have h:=AF5 (AF5 (AF5 h))
  simp only [slSV]
  exact ⟨_,if_pos h.ok,h.out⟩
 ·rename_i id off len cp sz'
  obtain ⟨h0,h⟩:=AI9 (AF5 (AF5 (AF5 h)))
  obtain ⟨h1,h2⟩:=h
  simp only [slSV]
  rw [if_pos ⟨beq_eq h0,h1⟩]
  by_cases e:lo.getD 0 < mx.getD cp
  ·rw [if_pos e]
   obtain ⟨⟨_,rfl,⟨⟨_,rfl,⟨⟨_,rfl,h3⟩⟩⟩⟩⟩⟩:=(AJ0 h2).1 (decide_eq_true e)
   exact ⟨_,rfl,h3⟩
  ·rw [if_neg e]
   have h3:=(AJ0 h2).2 (decide_eq_false e)
   cases em:mx.isSome with
   | true=>rw [if_pos rfl];exact ⟨_,rfl,(AX4 h3).1 em⟩
   | false=>rw [if_neg (by simp)];exact ⟨_,rfl,(AX4 h3).2 em⟩
 ·rename_i els
  have h:=AF5 (AF5 (AF5 h))
  obtain ⟨h1,h2⟩:=h
  simp only [slSV]
  rw [if_pos h1]
  cases em:mx.isSome with
  | true =>
   have h3:=(AX4 h2).1 em
   by_cases e:lo.getD 0=mx.getD els.length
   ·rw [if_pos ⟨rfl,e⟩];exact ⟨_,rfl,(AJ0 h3).1 (decide_eq_true e)⟩
   ·rw [if_neg fun q=>e q.2]
    obtain ⟨⟨_,rfl,h4⟩⟩:=(AJ0 h3).2 (decide_eq_false e)
    exact ⟨_,rfl,h4⟩
  | false =>
   obtain ⟨⟨_,rfl,h4⟩⟩:=(AX4 h2).2 em
   rw [if_neg fun q=>by cases q.1]
   exact ⟨_,rfl,h4⟩
def slAK (l:List (Nat × AObj)) (m sz:Nat) (p:AV) (lo hi:Option Nat) (k:AV→List Nat→Prop):Prop:=match p with
 | .ptr id off=>AX1 l id fun cs=>orK hi m fun h=>orK lo 0 fun a=>CkX (a≤h∧h≤m∧m≤maxLen∧off+m * sz≤cs.length∧0 < m * sz) (BrX (decide (a < m)) (EqX (off+a * sz) fun o=>EqX (h - a) fun ln=>EqX (m - a) fun c=>k (.sl id o ln c sz) [id]) (k .nils [id]))
 | _=>False
theorem slAK_spec {l:List (Nat × AObj)} {m sz:Nat} {p:AV} {lo hi:Option Nat} {k:AV→List Nat→Prop} (h:slAK l m sz p lo hi k):∃ v rd,slAV (lk l) m sz p lo hi=some (v,rd)∧k v rd:=by
 cases p<;>try exact h.elim
 obtain ⟨cs,h1,h⟩:=AI5 h
 obtain ⟨h2,h⟩:=AF5 (AF5 h)
 simp only [slAV,o8,h1]
 rw [if_pos h2]
 by_cases e:lo.getD 0 < m
 ·rw [if_pos e]
  obtain ⟨⟨_,rfl,⟨⟨_,rfl,⟨⟨_,rfl,h3⟩⟩⟩⟩⟩⟩:=(AJ0 h).1 (decide_eq_true e)
  exact ⟨_,_,rfl,h3⟩
 ·rw [if_neg e]
  exact ⟨_,_,rfl,(AJ0 h).2 (decide_eq_false e)⟩
def mksK (nx sz bytes:Nat) (z:List AV) (a b:AV) (k:AV→Up→Prop):Prop:=match a,b with
 | .int .i64 x,.int .i64 y=>CkX (0≤x∧x≤y∧y≤1000000000∧(bytes:Int) * y≤140737488355328) (EqX x.toNat fun x'=>EqX y.toNat fun y'=>EqX (List.replicate y' z).flatten fun cs=>k (.sl nx 0 x' y' sz) [(nx,some (.cells cs))])
 | _,_=>False
theorem mksK_spec {nx sz bytes:Nat} {z:List AV} {a b:AV} {k:AV→Up→Prop} (h:mksK nx sz bytes z a b k):∃ v up,mksV nx sz bytes z a b=some (v,up)∧k v up:=by
 unfold mksK at h
 split at h
 ·obtain ⟨h1,⟨⟨_,rfl,⟨⟨_,rfl,⟨⟨_,rfl,h2⟩⟩⟩⟩⟩⟩⟩:=h
  exact ⟨_,_,by simp only [mksV];rw [if_pos h1],h2⟩
 ·exact h.elim
def extK (i:Nat) (v:AV) (k:AV→Prop):Prop:=match v with
 | .tup vs=>nthK vs i k
 | _=>False
theorem extK_spec {i:Nat} {v:AV} {k:AV→Prop} (h:extK i v k):∃ u,extV i v=some u∧k u:=by
 cases v<;>first|exact h.elim|exact Ad8 h
structure AppX (l:List (Nat × AObj)) (nx sz bytes:Nat) (s x:AV) (k:AV→Up→List Nat→Prop):Prop where
 out:∃ v up rd,BQ0 (lk l) nx sz bytes s x=some (v,up,rd)∧k v up rd
structure MlookX (l:List (Nat × AObj)) (ok ag:Bool) (ks:List Nat) (z m x:AV) (k:AV→Up→List Nat→Prop):Prop where
 out:∃ v rd,Ak9 (lk l) ok ag ks z m x=some (v,rd)∧k v [] rd
structure MsetX (l:List (Nat × AObj)) (ag:Bool) (ks:List Nat) (m x y:AV) (k:AV→Up→List Nat→Prop):Prop where
 out:∃ up rd,BU2 (lk l) ag ks m x y=some (up,rd)∧k .undef up rd
structure MdelX (l:List (Nat × AObj)) (ag:Bool) (ks:List Nat) (m x:AV) (k:AV→Up→List Nat→Prop):Prop where
 out:∃ up rd,BU7 (lk l) ag ks m x=some (up,rd)∧k (.tup []) up rd
structure MlenX (l:List (Nat × AObj)) (m:AV) (k:AV→Up→List Nat→Prop):Prop where
 out:∃ v rd,BU4 (lk l) m=some (v,rd)∧k v [] rd
theorem BE2 {l:List (Nat × AObj)} {ag:Bool} {ks:List Nat} {i:Nat} {x:AV} {kc:List AV} {es:List (AV × AV)} {o:Option Nat} (h1:lk l i=some (.maps es)) (h2:BV4 ag x=some kc) (h3:kc.length=ks.length) (h4:AO0 ag ks kc es=some o):keyV (lk l) ag ks (.mapr i) x=some (i,es,o):=by
 have : AR0 (lk l) i=some es:=by simp only [AR0,h1]
 simp only [keyV,this,h2,h3,h4,if_true,Option.map_some]
theorem mlook_no {l:List (Nat × AObj)} {ag:Bool} {ks:List Nat} {i:Nat} {x z:AV} {kc:List AV} {es:List (AV × AV)} {k:AV→Up→List Nat→Prop} (h4:AO0 ag ks kc es=some none) (h1:lk l i=some (.maps es)) (h2:BV4 ag x=some kc) (h3:kc.length=ks.length) (hk:k (.tup [z,.bool false]) [] [i]):MlookX l true ag ks z (.mapr i) x k :=
 ⟨_,_,by rw [Ak9,BE2 h1 h2 h3 h4];rfl,hk⟩
theorem BL8 {l:List (Nat × AObj)} {ag:Bool} {ks:List Nat} {i j:Nat} {x z y:AV} {kc:List AV} {es:List (AV × AV)} {e:AV × AV} {k:AV→Up→List Nat→Prop} (h4:AO0 ag ks kc es=some (some j)) (h5:es[j]? = some e) (h6:e.2=y) (h1:lk l i=some (.maps es)) (h2:BV4 ag x=some kc) (h3:kc.length=ks.length) (hk:k (.tup [y,.bool true]) [] [i]):MlookX l true ag ks z (.mapr i) x k :=
 ⟨_,_,by rw [Ak9,BE2 h1 h2 h3 h4];simp only [Option.map_some,BU5,Option.bind_some,h5,h6,if_true,Option.isSome_some],hk⟩
theorem mset_of {l:List (Nat × AObj)} {ag:Bool} {ks:List Nat} {i:Nat} {x y:AV} {kc:List AV} {es es':List (AV × AV)} {o:Option Nat} {k:AV→Up→List Nat→Prop} (h4:AO0 ag ks kc es=some o) (h5:mputV es o x y=es') (h1:lk l i=some (.maps es)) (h2:BV4 ag x=some kc) (h3:kc.length=ks.length) (hk:k .undef [(i,some (.maps es'))] [i]):MsetX l ag ks (.mapr i) x y k :=
 ⟨_,_,by rw [BU2,BE2 h1 h2 h3 h4];simp only [Option.map_some,h5],hk⟩
theorem mdel_of {l:List (Nat × AObj)} {ag:Bool} {ks:List Nat} {i:Nat} {x:AV} {kc:List AV} {es es':List (AV × AV)} {o:Option Nat} {k:AV→Up→List Nat→Prop} (h4:AO0 ag ks kc es=some o) (h5:mcutV es o=es') (h1:lk l i=some (.maps es)) (h2:BV4 ag x=some kc) (h3:kc.length=ks.length) (hk:k (.tup []) [(i,some (.maps es'))] [i]):MdelX l ag ks (.mapr i) x k :=
 ⟨_,_,by rw [BU7,BE2 h1 h2 h3 h4];simp only [Option.map_some,h5],hk⟩
theorem BU3 {l:List (Nat × AObj)} {i n:Nat} {es:List (AV × AV)} {k:AV→Up→List Nat→Prop} (h1:lk l i=some (.maps es)) (h2:es.length=n) (hk:k (.int .i64 n) [] [i]):MlenX l (.mapr i) k :=
  ⟨_, _, by have : AR0 (lk l) i = some es := by simp only [AR0, h1]
            simp only [BU4,this,Option.map_some,h2],hk⟩
structure LenX (v:AV) (k:AV→Prop):Prop where
 out:∃ u,lenV v=some u∧k u
def clearK (l:List (Nat × AObj)) (z:List AV) (v:AV) (k:Up→List Nat→Prop):Prop:=match v with
 | .nils=>k [] []
 | .sl id off len _ sz=>AX1 l id fun cs=>CkX (sz=z.length∧off+len * sz≤cs.length) (EqX (over cs off (List.replicate len z).flatten) fun cs'=>k [(id,some (.cells cs'))] [id])
 | .isl []=>k [] []
 | _=>False
theorem BX6 {l:List (Nat × AObj)} {z:List AV} {v:AV} {k:Up→List Nat→Prop} (h:clearK l z v k):∃ up rd,Af9 (lk l) z v=some (up,rd)∧k up rd:=by
 unfold clearK at h
 split at h
 ·exact ⟨_,_,rfl,h⟩
 ·obtain ⟨cs,h1,h⟩:=AI5 h
  obtain ⟨h2,⟨⟨_,rfl,h3⟩⟩⟩:=h
  exact ⟨_,_,by simp only [Af9,o8,h1];rw [if_pos h2],h3⟩
 ·exact ⟨_,_,rfl,h⟩
 ·exact h.elim
def mmK (mx:Bool):AV→List AV→(AV→Prop)→Prop
 | x,[],k=>k x
 | .int k1 a,.int k2 b::r,k=>ckK (decide (k1=k2)) (match mx with
  | true=>EqX (max a b) fun m=>mmK mx (.int k1 m) r k
  | false=>EqX (min a b) fun m=>mmK mx (.int k1 m) r k)
 | _,_,_=>False
theorem BD6 {mx:Bool}:∀ {xs:List AV} {x:AV} {k:AV→Prop},mmK mx x xs k→∃ v,mmV mx x xs=some v∧k v
 | [],x,k,h=>⟨x,by cases x<;>rfl,by cases x<;>exact h⟩
 | y::r,x,k,h=>by
  cases x<;>cases y<;>try exact h.elim
  obtain ⟨h1,h2⟩:=AI9 h
  simp only [decide_eq_true_eq] at h1
  simp only [mmV]
  rw [if_pos h1]
  cases mx with
  | true =>
   obtain ⟨⟨_,rfl,h3⟩⟩:=h2
   rename_i a _ b
   have e:(if true=true then (if b > a then b else a) else (if b < a then b else a))=max a b:=by simp only [if_true];split<;>omega
   rw [e]
   exact BD6 h3
  | false =>
   obtain ⟨⟨_,rfl,h3⟩⟩:=h2
   rename_i a _ b
   have e:(if false=true then (if b > a then b else a) else (if b < a then b else a))=min a b:=by simp only [Bool.false_eq_true,if_false];split<;>omega
   rw [e]
   exact BD6 h3
section
variable {G:Gl} {n:Nat} {sf:SF} {l:List (Nat × AObj)} {nx:Nat}
def opK (G:Gl) (n:Nat) (sf:SF) (l:List (Nat × AObj)) (nx:Nat) (k:AV→Up→List Nat→Prop):AOp→Prop
 | .mv x=>axK G n sf x fun v=>k v [] []
 | .pick c a b=>axK G n sf c fun c=>axK G n sf a fun a=>axK G n sf b fun b=>pickK c a b fun v=>k v [] []
 | .new z=>k (.ptr nx 0) [(nx,some (.cells z))] []
 | .box x=>axK G n sf x fun v=>flatK v fun cs=>k (.ptr nx 0) [(nx,some (.cells cs))] []
 | .build z ps=>partsK G n sf ps fun l=>fillK z l fun cs=>k (.agg cs) [] []
 | .bslice sz m z ps=>partsK G n sf ps fun l=>fillK z l fun cs=>k (.sl nx 0 m m sz) [(nx,some (.cells cs))] []
 | .load ag m x=>axK G n sf x fun p=>loadK l ag m p fun v rd=>k v [] rd
 | .store m a v=>axK G n sf a fun p=>axK G n sf v fun v=>storeK l m p v fun up rd=>k .undef up rd
 | .nchk x=>axK G n sf x fun v=>nchkK v fun v=>k v [] []
 | .bin op x y=>axK G n sf x fun a=>axK G n sf y fun b=>binK op a b fun v=>k v [] []
 | .eqb ng x y=>axK G n sf x fun a=>axK G n sf y fun b=>eqbK ng a b fun v=>k v [] []
 | .eqp ng fn x y=>axK G n sf x fun a=>axK G n sf y fun b=>eqpK ng fn a b fun v=>k v [] []
 | .eqs ng ks x y=>axK G n sf x fun a=>axK G n sf y fun b=>eqsK ng ks a b fun v=>k v [] []
 | .un op x=>axK G n sf x fun a=>unK op a fun v=>k v [] []
 | .conv k1 x=>axK G n sf x fun a=>convK k1 a fun v=>k v [] []
 | .faddr off x=>axK G n sf x fun a=>faddrK off a fun v=>k v [] []
 | .fld ag off m x=>axK G n sf x fun a=>fldK ag off m a fun v=>k v [] []
 | .iaddrA len sz x i=>axK G n sf x fun a=>axK G n sf i fun b=>iaddrAK len sz a b fun v=>k v [] []
 | .iaddrS sz x i=>axK G n sf x fun a=>axK G n sf i fun b=>iaddrSK sz a b fun v=>k v [] []
 | .idx ag len sz x i=>axK G n sf x fun a=>axK G n sf i fun b=>idxK ag len sz a b fun v=>k v [] []
 | .slS sz x lo hi mx=>axK G n sf x fun a=>optK G n sf lo fun lo=>optK G n sf hi fun hi=>optK G n sf mx fun mx=>slSK sz a lo hi mx fun v=>k v [] []
 | .slA m sz x lo hi=>axK G n sf x fun a=>optK G n sf lo fun lo=>optK G n sf hi fun hi=>slAK l m sz a lo hi fun v rd=>k v [] rd
 | .mkfn f fs cs=>BH9 G n sf fs fun a=>BH9 G n sf cs fun b=>k (.fn f a b) [] []
 | .mks sz bytes z x y=>axK G n sf x fun a=>axK G n sf y fun b=>mksK nx sz bytes z a b fun v up=>k v up []
 | .ext x i=>axK G n sf x fun a=>extK i a fun v=>k v [] []
 | .append sz bytes s x=>axK G n sf s fun s=>axK G n sf x fun x=>AppX l nx sz bytes s x k
 | .len x=>axK G n sf x fun a=>LenX a fun v=>k v [] []
 | .clear z x=>axK G n sf x fun a=>clearK l z a fun up rd=>k (.tup []) up rd
 | .minmax mx x xs=>axK G n sf x fun x=>BH9 G n sf xs fun xs=>mmK mx x xs fun v=>k v [] []
 | .mkmap=>k (.mapr nx) [(nx,some (.maps []))] []
 | .mlook ok ag ks z m x=>axK G n sf m fun m=>axK G n sf x fun x=>MlookX l ok ag ks z m x k
 | .mset ag ks m x y=>axK G n sf m fun m=>axK G n sf x fun x=>axK G n sf y fun y=>MsetX l ag ks m x y k
 | .mdel ag ks m x=>axK G n sf m fun m=>axK G n sf x fun x=>MdelX l ag ks m x k
 | .mlen m=>axK G n sf m fun m=>MlenX l m k
 | .call _ _=>False
 | .eqn _ _=>False
theorem BD4 {k:AV→Up→List Nat→Prop} {o:AOp} (h:opK G n sf l nx k o):∃ v up rd,J9 (ax G (sd n sf)) (lk l) nx o=some (v,up,rd)∧k v up rd:=by
 cases o<;>simp only [opK] at h
 case mv=>obtain ⟨v,h1,h⟩:=G6 h;exact ⟨_,_,_,by simp [J9,h1,AG7],h⟩
 case pick =>
  obtain ⟨c,h1,h⟩:=G6 h
  obtain ⟨a,h2,h⟩:=G6 h
  obtain ⟨b,h3,h⟩:=G6 h
  obtain ⟨v,h4,h⟩:=pickK_spec h
  exact ⟨_,_,_,by simp [J9,h1,h2,h3,h4,AG7],h⟩
 case new=>exact ⟨_,_,_,rfl,h⟩
 case mkmap=>exact ⟨_,_,_,rfl,h⟩
 case mlook =>
  obtain ⟨a,h1,h⟩:=G6 h
  obtain ⟨b,h2,h⟩:=G6 h
  obtain ⟨⟨v,rd,h3,h⟩⟩:=h
  exact ⟨_,_,_,by simp [J9,h1,h2,h3],h⟩
 case mset =>
  obtain ⟨a,h1,h⟩:=G6 h
  obtain ⟨b,h2,h⟩:=G6 h
  obtain ⟨e,h3,h⟩:=G6 h
  obtain ⟨⟨up,rd,h4,h⟩⟩:=h
  exact ⟨_,_,_,by simp [J9,h1,h2,h3,h4],h⟩
 case mdel =>
  obtain ⟨a,h1,h⟩:=G6 h
  obtain ⟨b,h2,h⟩:=G6 h
  obtain ⟨⟨up,rd,h3,h⟩⟩:=h
  exact ⟨_,_,_,by simp [J9,h1,h2,h3],h⟩
 case mlen =>
  obtain ⟨a,h1,h⟩:=G6 h
  obtain ⟨⟨v,rd,h2,h⟩⟩:=h
  exact ⟨_,_,_,by simp [J9,h1,h2],h⟩
 case box =>
  obtain ⟨v,h1,h⟩:=G6 h
  obtain ⟨h2,h⟩:=flatK_spec h
  exact ⟨_,_,_,by simp [J9,h1,h2],h⟩
 case build =>
  obtain ⟨p,h1,h⟩:=Aa6 h
  obtain ⟨cs,h2,h⟩:=Aj4 h
  exact ⟨_,_,_,by simp [J9,h1,h2,AG7],h⟩
 case bslice =>
  obtain ⟨p,h1,h⟩:=Aa6 h
  obtain ⟨cs,h2,h⟩:=Aj4 h
  exact ⟨_,_,_,by simp [J9,h1,h2],h⟩
 case load =>
  obtain ⟨p,h1,h⟩:=G6 h
  obtain ⟨v,rd,h2,h⟩:=Az4 h
  exact ⟨_,_,_,by simp [J9,h1,h2],h⟩
 case store =>
  obtain ⟨p,h1,h⟩:=G6 h
  obtain ⟨v,h2,h⟩:=G6 h
  obtain ⟨up,rd,h3,h⟩:=BR9 h
  exact ⟨_,_,_,by simp [J9,h1,h2,h3],h⟩
 case slS =>
  obtain ⟨a,h1,h⟩:=G6 h
  obtain ⟨lo,h2,h⟩:=AV6 h
  obtain ⟨hi,h3,h⟩:=AV6 h
  obtain ⟨mx,h4,h⟩:=AV6 h
  obtain ⟨v,h5,h⟩:=slSK_spec h
  exact ⟨_,_,_,by simp [J9,h1,h2,h3,h4,h5,AG7],h⟩
 case slA =>
  obtain ⟨a,h1,h⟩:=G6 h
  obtain ⟨lo,h2,h⟩:=AV6 h
  obtain ⟨hi,h3,h⟩:=AV6 h
  obtain ⟨v,rd,h5,h⟩:=slAK_spec h
  exact ⟨_,_,_,by simp [J9,h1,h2,h3,h5],h⟩
 case mkfn =>
  obtain ⟨a,h1,h⟩:=AH8 h
  obtain ⟨b,h2,h⟩:=AH8 h
  exact ⟨_,_,_,by simp [J9,h1,h2],h⟩
 case mks =>
  obtain ⟨a,h1,h⟩:=G6 h
  obtain ⟨b,h2,h⟩:=G6 h
  obtain ⟨v,up,h3,h⟩:=mksK_spec h
  exact ⟨_,_,_,by simp [J9,h1,h2,h3],h⟩
 case append =>
  obtain ⟨a,h1,h⟩:=G6 h
  obtain ⟨b,h2,h⟩:=G6 h
  obtain ⟨⟨v,up,rd,h3,h⟩⟩:=h
  exact ⟨_,_,_,by simp [J9,h1,h2,h3],h⟩
 case clear =>
  obtain ⟨a,h1,h⟩:=G6 h
  obtain ⟨up,rd,h2,h⟩:=BX6 h
  exact ⟨_,_,_,by simp [J9,h1,h2],h⟩
 case minmax =>
  obtain ⟨a,h1,h⟩:=G6 h
  obtain ⟨b,h2,h⟩:=AH8 h
  obtain ⟨v,h3,h⟩:=BD6 h
  exact ⟨_,_,_,by simp [J9,h1,h2,h3,AG7],h⟩
 case nchk =>
  obtain ⟨a,h1,h⟩:=G6 h
  obtain ⟨v,h2,h⟩:=nchkK_spec h
  exact ⟨_,_,_,by simp [J9,ev1,h1,h2,AG7],h⟩
 case un =>
  obtain ⟨a,h1,h⟩:=G6 h
  obtain ⟨v,h2,h⟩:=unK_spec h
  exact ⟨_,_,_,by simp [J9,ev1,h1,h2,AG7],h⟩
 case conv =>
  obtain ⟨a,h1,h⟩:=G6 h
  obtain ⟨v,h2,h⟩:=convK_spec h
  exact ⟨_,_,_,by simp [J9,ev1,h1,h2,AG7],h⟩
 case faddr =>
  obtain ⟨a,h1,h⟩:=G6 h
  obtain ⟨v,h2,h⟩:=BW1 h
  exact ⟨_,_,_,by simp [J9,ev1,h1,h2,AG7],h⟩
 case fld =>
  obtain ⟨a,h1,h⟩:=G6 h
  obtain ⟨v,h2,h⟩:=fldK_spec h
  exact ⟨_,_,_,by simp [J9,ev1,h1,h2,AG7],h⟩
 case ext =>
  obtain ⟨a,h1,h⟩:=G6 h
  obtain ⟨v,h2,h⟩:=extK_spec h
  exact ⟨_,_,_,by simp [J9,ev1,h1,h2,AG7],h⟩
 case len =>
  obtain ⟨a,h1,h⟩:=G6 h
  obtain ⟨v,h2,h⟩:=h.out
  exact ⟨_,_,_,by simp [J9,ev1,h1,h2,AG7],h⟩
 case bin =>
  obtain ⟨a,h1,h⟩:=G6 h
  obtain ⟨b,h2,h⟩:=G6 h
  obtain ⟨v,h3,h⟩:=binK_spec h
  exact ⟨_,_,_,by simp [J9,ev2,h1,h2,h3,AG7],h⟩
 case eqb =>
  obtain ⟨a,h1,h⟩:=G6 h
  obtain ⟨b,h2,h⟩:=G6 h
  obtain ⟨v,h3,h⟩:=eqbK_spec h
  exact ⟨_,_,_,by simp [J9,ev2,h1,h2,h3,AG7],h⟩
 case eqp =>
  obtain ⟨a,h1,h⟩:=G6 h
  obtain ⟨b,h2,h⟩:=G6 h
  obtain ⟨v,h3,h⟩:=eqpK_spec h
  exact ⟨_,_,_,by simp [J9,ev2,h1,h2,h3,AG7],h⟩
 case eqs =>
  obtain ⟨a,h1,h⟩:=G6 h
  obtain ⟨b,h2,h⟩:=G6 h
  obtain ⟨v,h3,h⟩:=eqsK_spec h
  exact ⟨_,_,_,by simp [J9,ev2,h1,h2,h3,AG7],h⟩
 case iaddrA =>
  obtain ⟨a,h1,h⟩:=G6 h
  obtain ⟨b,h2,h⟩:=G6 h
  obtain ⟨v,h3,h⟩:=BM6 h
  exact ⟨_,_,_,by simp [J9,ev2,h1,h2,h3,AG7],h⟩
 case iaddrS =>
  obtain ⟨a,h1,h⟩:=G6 h
  obtain ⟨b,h2,h⟩:=G6 h
  obtain ⟨v,h3,h⟩:=BM5 h
  exact ⟨_,_,_,by simp [J9,ev2,h1,h2,h3,AG7],h⟩
 case idx =>
  obtain ⟨a,h1,h⟩:=G6 h
  obtain ⟨b,h2,h⟩:=G6 h
  obtain ⟨v,h3,h⟩:=idxK_spec h
  exact ⟨_,_,_,by simp [J9,ev2,h1,h2,h3,AG7],h⟩
end
end Go.Am
namespace Go.Am
structure Hq (h hx:Hp):Prop where
 lk:lk h.l=lk hx.l
 next:h.next=hx.next
theorem Hq.refl {h:Hp}:Hq h h:=⟨rfl,rfl⟩
theorem Hq.symm {h hx:Hp} (q:Hq h hx):Hq hx h:=⟨q.1.symm,q.2.symm⟩
theorem Hq.mat {c:Cx} {h hx:Hp} (q:Hq h hx) (m:Mat c h):Mat c hx:=⟨by rw [m.at_,q.lk],fun i=>by rw [m.U,q.next]⟩
theorem Hq.weak {P:Program} {σ:Nat→Nat} {fr fr':List AV} {h hx h':Hp} (q:Hq h hx) (w:Weak P σ fr hx fr' h'):Weak P σ fr h fr' h':=fun c tmps hR hm hF=>by
 obtain ⟨h1,h2,h3⟩:=w c tmps hR (q.mat hm) hF
 exact ⟨h1,h2,fun i o hi=>by rw [q.lk];exact h3 i o hi⟩
theorem Hq.callV {P:Program} {G:Gl} {fv:AV} {avs:List AV} {h hx:Hp} {K:AV→Hp→Prop} (q:Hq h hx) (c:Am0 P G fv avs hx K):Am0 P G fv avs h K:=fun cx u vs hR hG hm=>c cx u vs hR hG (q.mat hm)
def repK:List (Nat × AObj)→Nat→AObj→(List (Nat × AObj)→Prop)→Prop
 | [],i,o,k=>k [(i,o)]
 | (j,p)::r,i,o,k=>bif Nat.beq i j then k ((i,o)::r) else repK r i o fun r'=>k ((j,p)::r')
def BQ6:List (Nat × AObj)→Nat→(List (Nat × AObj)→Prop)→Prop
 | [],_,k=>k []
 | (j,p)::r,i,k=>bif Nat.beq i j then BQ6 r i k else BQ6 r i fun r'=>k ((j,p)::r')
def putK (nx:Nat) (l:List (Nat × AObj)) (i:Nat) (o:Option AObj) (k:List (Nat × AObj)→Prop):Prop:=match o with
 | some o=>bif Nat.beq i nx then k ((i,o)::l) else repK l i o k
 | none=>BQ6 l i k
theorem AM3 {o:AObj}:∀ {l:List (Nat × AObj)} {i:Nat} {k:List (Nat × AObj)→Prop},repK l i o k→∃ l',lk l'=upd (lk l) [(i,some o)]∧k l'
 | [],i,k,h=>⟨_,by funext j;simp [lk,upd],h⟩
 | (j,p)::r,i,k,h=>by
  simp only [repK] at h
  cases e:Nat.beq i j with
  | true =>
   rw [e] at h
   refine ⟨_,?_,h⟩
   have:=beq_eq e
   subst this
   funext q
   simp only [lk,upd]
   by_cases hq:q=i<;>simp [hq]
  | false =>
   rw [e] at h
   obtain ⟨l',h1,h2⟩:=AM3 (l:=r) h
   refine ⟨_,?_,h2⟩
   have hne:=Av5 e
   funext q
   have:=congrFun h1 q
   simp only [lk,upd] at this ⊢
   rw [this]
   by_cases hq:q=i
   ·subst hq;simp [hne]
   ·simp [hq]
theorem Au7:∀ {l:List (Nat × AObj)} {i:Nat} {k:List (Nat × AObj)→Prop},BQ6 l i k→∃ l',lk l'=upd (lk l) [(i,none)]∧k l'
 | [],i,k,h=>⟨_,by funext j;simp [lk,upd],h⟩
 | (j,p)::r,i,k,h=>by
  simp only [BQ6] at h
  cases e:Nat.beq i j with
  | true =>
   rw [e] at h
   obtain ⟨l',h1,h2⟩:=Au7 (l:=r) h
   refine ⟨_,?_,h2⟩
   have:=beq_eq e
   subst this
   funext q
   have:=congrFun h1 q
   simp only [lk,upd] at this ⊢
   rw [this]
   by_cases hq:q=i<;>simp [hq]
  | false =>
   rw [e] at h
   obtain ⟨l',h1,h2⟩:=Au7 (l:=r) h
   refine ⟨_,?_,h2⟩
   have hne:=Av5 e
   funext q
   have:=congrFun h1 q
   simp only [lk,upd] at this ⊢
   rw [this]
   by_cases hq:q=i
   ·subst hq;simp [hne]
   ·simp [hq]
theorem putK_spec {nx i:Nat} {o:Option AObj} {l:List (Nat × AObj)} {k:List (Nat × AObj)→Prop} (h:putK nx l i o k):∃ l',lk l'=upd (lk l) [(i,o)]∧k l':=by
 cases o with
 | none=>exact Au7 h
 | some o =>
  simp only [putK] at h
  cases e:Nat.beq i nx with
  | true=>rw [e] at h;exact ⟨_,by funext q;simp [lk,upd],h⟩
  | false=>rw [e] at h;exact AM3 h
def putsK (nx:Nat) (l:List (Nat × AObj)):Up→(List (Nat × AObj)→Prop)→Prop
 | [],k=>k l
 | (i,o)::r,k=>putsK nx l r fun l'=>putK nx l' i o k
theorem Ai0 {nx:Nat} {l:List (Nat × AObj)}:∀ {up:Up} {k:List (Nat × AObj)→Prop},putsK nx l up k→∃ l',lk l'=upd (lk l) up∧k l'
 | [],k,h=>⟨l,rfl,h⟩
 | (i,o)::r,k,h=>by
  obtain ⟨l1,h1,h2⟩:=Ai0 (up:=r) h
  obtain ⟨l2,h3,h4⟩:=putK_spec h2
  refine ⟨l2,?_,h4⟩
  rw [h3]
  funext q
  simp only [upd,h1]
def upK (D:Bool) (l:List (Nat × AObj)) (nx:Nat) (up:Up) (k:Hp→Prop):Prop:=putsK nx l up fun l'=>match D with
 | true=>k ⟨l',nx+1⟩
 | false=>bif AZ8 up nx then k ⟨l',nx+1⟩ else k ⟨l',nx⟩
theorem upK_spec {l:List (Nat × AObj)} {nx:Nat} {up:Up} {k:Hp→Prop} (h:upK false l nx up k) {h0:Hp} (q:Hq h0 ⟨l,nx⟩):∃ hx,Hq (h0.app up) hx∧k hx:=by
 obtain ⟨l',h1,h2⟩:=Ai0 h
 obtain ⟨l0,n0⟩:=h0
 obtain ⟨q1,q2⟩:=q
 simp only at q1 q2
 subst q2
 simp only at h2
 cases e:AZ8 up n0 with
 | true=>rw [e] at h2;exact ⟨_,⟨by simp only [Hp.app,AS6,q1,h1],by simp [Hp.app,e]⟩,h2⟩
 | false=>rw [e] at h2;exact ⟨_,⟨by simp only [Hp.app,AS6,q1,h1],by simp [Hp.app,e]⟩,h2⟩
theorem BI3 {l:List (Nat × AObj)} {nx:Nat} {up:Up} {k:Hp→Prop} (h:upK true l nx up k) {h0:Hp} (q:Hq h0 ⟨l,nx⟩):∃ hx,Hq (h0.appD up) hx∧k hx:=by
 obtain ⟨l',h1,h2⟩:=Ai0 h
 obtain ⟨l0,n0⟩:=h0
 obtain ⟨q1,q2⟩:=q
 simp only at q1 q2
 subst q2
 exact ⟨⟨l',n0+1⟩,⟨by simp only [Hp.appD,AS6,q1,h1],rfl⟩,h2⟩
def Al4 (n:Nat) (sf:SF) (g:Option (Nat × Bool)) (A B:SF→Prop):Prop:=match g with
 | none=>A sf
 | some (t,b)=>bif Nat.blt t n then Ai4 sf t fun v=>match v with
  | .bool p=>BrX p (match b with
   | true=>A ((t,.bool true)::sf)
   | false=>B ((t,.bool true)::sf)) (match b with
   | true=>B ((t,.bool false)::sf)
   | false=>A ((t,.bool false)::sf))
  | .tup _=>B sf
  | _=>False else False
theorem Ac3 {sf:SF} {t:Nat} {n:Nat} {v:AV} (h:Aw2 sf t=v):sd n ((t,v)::sf)=sd n sf:=by
 subst h
 apply List.ext_getElem?
 intro j
 rw [Ac6,Ac6,Ac4]
 by_cases e:t=j
 ·subst e;simp
 ·rw [if_neg e]
theorem AS8 {n:Nat} {sf:SF} {t:Nat} {b:Bool} {A B:SF→Prop} (h:Al4 n sf (some (t,b)) A B):∃ p,((sd n sf)[t]?).bind gval=some p∧(p=some b→∃ sf',sd n sf'=sd n sf∧A sf')∧(p ≠ some b→∃ sf',sd n sf'=sd n sf∧B sf'):=by
 simp only [Al4] at h
 cases e:Nat.blt t n with
 | false=>rw [e] at h;exact h.elim
 | true =>
  rw [e] at h
  have h:=AE3 h
  rw [Ac6,if_pos (Av4 e)]
  generalize hv:Aw2 sf t=v at h
  cases v<;>try exact h.elim
  ·rename_i p
   obtain ⟨h1,h2⟩:=AJ0 h
   refine ⟨some p,rfl,fun ep=>?_,fun ep=>?_⟩
   ·obtain rfl:p=b:=by simpa using ep
    cases p
    ·exact ⟨_,Ac3 hv,h2 rfl⟩
    ·exact ⟨_,Ac3 hv,h1 rfl⟩
   ·cases p<;>cases b<;>first|exact absurd rfl ep|exact ⟨_,Ac3 hv,h2 rfl⟩|exact ⟨_,Ac3 hv,h1 rfl⟩
  ·exact ⟨none,rfl,fun ep=>(by cases ep),fun _=>⟨sf,rfl,h⟩⟩
structure AG9 (P:Program) (G:Gl) (fv:AV) (avs:List AV) (h:Hp) (K:AV→Hp→Prop):Prop where
 out:Am0 P G fv avs h fun v h'=>∃ hx,Hq h' hx∧K v hx
structure AP8 (P:Program) (G:Gl) (g:Nat) (avs:List AV) (h:Hp) (K:AV→Up→List Nat→Prop):Prop where
 out:∃ r up rd,FnU P G g avs rd (lk h.l) r up h.next∧K r up rd
structure QCallX (P:Program) (G:Gl) (g:Nat) (avs:List AV) (K:AV→Prop):Prop where
 out:∃ r,Ak1 P G g avs r∧K r
section
variable {P:Program} {G:Gl} {n:Nat}
structure AppSX (l:List (Nat × AObj)) (nx sz bytes:Nat) (s x:AV) (k:AV→Up→Prop):Prop where
 out:∃ v up up' rd,BQ0 (lk l) nx sz bytes s x=some (v,up,rd)∧upd (lk l) up=upd (lk l) up'∧AZ8 up nx=AZ8 up' nx∧k v up'
structure EqnX (a:AV) (K:Bool→Prop):Prop where
 out:eqnA a K
def stepX (P:Program) (G:Gl) (n:Nat) (sf:SF) (l:List (Nat × AObj)) (nx:Nat) (k:AV→Hp→Prop) (o:AOp):Prop:=match o with
 | .call f args=>axK G n sf f fun fv=>BH9 G n sf args fun avs=>AG9 P G fv avs ⟨l,nx⟩ k
 | .append sz bytes s x=>axK G n sf s fun s=>axK G n sf x fun x=>AppSX l nx sz bytes s x fun v up=>upK false l nx up fun h'=>k v h'
 | .eqn ng x=>axK G n sf x fun a=>EqnX a fun b=>ngK ng b fun v=>k v ⟨l,nx⟩
 | o=>opK G n sf l nx (fun v up _=>upK false l nx up fun h'=>k v h') o
structure RunX (P:Program) (G:Gl) (n:Nat) (os:List O7) (K:SF→Hp→Prop) (sf:SF) (h:Hp):Prop where
 out:∀ Q:List AV→Hp→Prop,(∀ sf hx,K sf hx→∀ h,Hq h hx→Q (sd n sf) h)→∀ h0,Hq h0 h→BQ5 P G os Q (sd n sf) h0
theorem Aq6 {o:AOp} {sf:SF} {h:Hp} {l:List (Nat × AObj)} {nx:Nat} {k:AV→Hp→Prop} (q:Hq h ⟨l,nx⟩) (hs:stepX P G n sf l nx k o):Ah3 P G o (sd n sf) h fun v h'=>∃ hy,Hq h' hy∧k v hy:=by
 have ql:Go.Am.lk h.l=Go.Am.lk l:=q.lk
 have qn:h.next=nx:=q.next
 cases o
 case call f args =>
  obtain ⟨fv,h1,hs⟩:=G6 hs
  obtain ⟨avs,h2,hs⟩:=AH8 hs
  exact ⟨fv,avs,h1,h2,q.callV hs.out⟩
 case eqn ng x =>
  obtain ⟨a,h1,hs⟩:=G6 hs
  refine ⟨a,h1,BN6 (fun b hb=>⟨⟨l,nx⟩,⟨ql,qn⟩,?_⟩) hs.out⟩
  cases ng<;>cases b<;>exact hb
 case append sz bytes s x =>
  obtain ⟨a,h1,hs⟩:=G6 hs
  obtain ⟨b,h2,hs⟩:=G6 hs
  obtain ⟨v,up,up',rd,h3,h4,h5,h6⟩:=hs.out
  obtain ⟨hy,h7,h8⟩:=upK_spec h6 (h0:=h) q
  refine ⟨v,up,rd,by rw [ql,qn];simp [J9,h1,h2,h3],hy,⟨?_,?_⟩,h8⟩
  ·rw [← h7.lk]
   show Go.Am.lk (puts h.l up)=Go.Am.lk (puts h.l up')
   rw [AS6,AS6,ql,h4]
  ·rw [← h7.next]
   show (if AZ8 up h.next=true then h.next+1 else h.next)=(if AZ8 up' h.next=true then h.next+1 else h.next)
   rw [qn,h5]
 all_goals
  simp only [stepX] at hs
  obtain ⟨v,up,rd,h1,h2⟩:=BD4 hs
  obtain ⟨hy,h3,h4⟩:=upK_spec h2 (h0:=h) q
  exact ⟨v,up,rd,by rw [ql,qn];exact h1,hy,h3,h4⟩
theorem Z7 {K:SF→Hp→Prop} {sf:SF} {h:Hp} (hk:K sf h):RunX P G n [] K sf h:=⟨fun Q hQ h0 q=>hQ sf h hk h0 q⟩
theorem U3 {d:Option Nat} {op:AOp} {g:Option (Nat × Bool)} {os:List O7} {K:SF→Hp→Prop} {sf:SF} {l:List (Nat × AObj)} {nx:Nat}
  (hr:Al4 n sf g (fun sf=>stepX P G n sf l nx (fun v h'=>BH2 sf d v fun sf'=>RunX P G n os K sf' h') op) (fun sf=>BH2 sf d (.tup []) fun sf'=>RunX P G n os K sf' ⟨l,nx⟩)):RunX P G n (⟨d,op,g⟩::os) K sf ⟨l,nx⟩:=by
 refine ⟨fun Q hQ h q=>?_⟩
 have go:∀ {sf:SF} {v:AV} {h hx:Hp},Hq h hx→(BH2 sf d v fun sf'=>RunX P G n os K sf' hx)→BQ5 P G os Q (AH1 (sd n sf) d v) h:=fun {sf v h hx} q hp=>by
  obtain ⟨sf',e,hp⟩:=Ad2 (n:=n) hp
  rw [e]
  exact hp.out Q hQ h q
 have step:∀ {sf:SF},(stepX P G n sf l nx (fun v h'=>BH2 sf d v fun sf'=>RunX P G n os K sf' h') op)→Ah3 P G op (sd n sf) h fun v h'=>BQ5 P G os Q (AH1 (sd n sf) d v) h':=fun {sf} hs =>
  AQ3 (fun v h' ⟨hy,q',hk⟩=>go q' hk) (Aq6 q hs)
 cases g with
 | none=>exact step hr
 | some tb =>
  obtain ⟨t,b⟩:=tb
  obtain ⟨p,h1,h2,h3⟩:=AS8 hr
  refine ⟨p,h1,fun e=>?_,fun e=>?_⟩
  ·obtain ⟨sf',e1,h4⟩:=h2 e
   show Ah3 P G op (sd n sf) h _
   rw [← e1];exact step h4
  ·obtain ⟨sf',e1,h4⟩:=h3 e
   show BQ5 P G os Q (AH1 (sd n sf) d (.tup [])) h
   rw [← e1];exact go q h4
def stepQX (P:Program) (G:Gl) (n:Nat) (sf:SF) (l:List (Nat × AObj)) (nx:Nat) (k:AV→Prop) (o:AOp):Prop:=match o with
 | .call f args=>axK G n sf f fun fv=>BH9 G n sf args fun avs=>match fv with
  | .fn g fs cs=>QCallX P G g (fs++avs++cs) k
  | _=>False
 | o=>opK G n sf l nx (fun v up _=>match up with
  | []=>k v
  | _=>False) o
structure RunQX (P:Program) (G:Gl) (n:Nat) (os:List O7) (K:SF→Prop) (sf:SF) (h:Hp):Prop where
 out:∀ (Q:List AV→Hp→Prop) (h0:Hp),(∀ sf,K sf→Q (sd n sf) h0)→Hq h0 h→runQ P G os Q (sd n sf) h0
theorem BI9 {o:AOp} {sf:SF} {h:Hp} {l:List (Nat × AObj)} {nx:Nat} {k:AV→Prop} (q:Hq h ⟨l,nx⟩) (hs:stepQX P G n sf l nx k o):BS0 P G o (sd n sf) h k:=by
 have ql:Go.Am.lk h.l=Go.Am.lk l:=q.lk
 have qn:h.next=nx:=q.next
 cases o
 case call f args =>
  obtain ⟨fv,h1,hs⟩:=G6 hs
  obtain ⟨avs,h2,hs⟩:=AH8 hs
  cases fv<;>try exact hs.elim
  obtain ⟨r,h3,h4⟩:=hs.out
  exact ⟨_,_,_,avs,r,h1,h2,h3,h4⟩
 all_goals
  simp only [stepQX] at hs
  obtain ⟨v,up,rd,h1,h2⟩:=BD4 hs
  cases up with
  | cons=>exact h2.elim
  | nil=>exact ⟨v,rd,by rw [ql,qn];exact h1,h2⟩
theorem stepQ_mono {o:AOp} {fr:List AV} {h:Hp} {k k':AV→Prop} (hk:∀ v,k v→k' v) (hs:BS0 P G o fr h k):BS0 P G o fr h k':=by
 cases o
 case call f args=>obtain ⟨g,fs,cs,avs,r,h1,h2,h3,h4⟩:=hs;exact ⟨g,fs,cs,avs,r,h1,h2,h3,hk _ h4⟩
 all_goals (obtain ⟨v,rd,h1,h2⟩:=hs;exact ⟨v,rd,h1,hk _ h2⟩)
theorem U1 {K:SF→Prop} {sf:SF} {h:Hp} (hk:K sf):RunQX P G n [] K sf h:=⟨fun Q h0 hQ q=>hQ sf hk⟩
theorem At4 {fr:List AV} {o:O7} {A B:Prop} {t:Nat} {b:Bool} (hg:o.guard=some (t,b)) (h:∃ p,(fr[t]?).bind gval=some p∧(p=some b→A)∧(p ≠ some b→B)):AK5 o fr A B:=by
 unfold AK5;rw [hg];exact h
theorem Ab0 {fr:List AV} {o:O7} {A B:Prop} (hg:o.guard=none) (h:A):AK5 o fr A B:=by
 unfold AK5;rw [hg];exact h
theorem P7 {d:Option Nat} {op:AOp} {g:Option (Nat × Bool)} {os:List O7} {K:SF→Prop} {sf:SF} {l:List (Nat × AObj)} {nx:Nat}
  (hr:Al4 n sf g (fun sf=>stepQX P G n sf l nx (fun v=>BH2 sf d v fun sf'=>RunQX P G n os K sf' ⟨l,nx⟩) op) (fun sf=>BH2 sf d (.tup []) fun sf'=>RunQX P G n os K sf' ⟨l,nx⟩)):RunQX P G n (⟨d,op,g⟩::os) K sf ⟨l,nx⟩:=by
 refine ⟨fun Q h hQ q=>?_⟩
 have go:∀ {sf:SF} {v:AV},(BH2 sf d v fun sf'=>RunQX P G n os K sf' ⟨l,nx⟩)→runQ P G os Q (AH1 (sd n sf) d v) h:=fun {sf v} hp=>by
  obtain ⟨sf',e,hp⟩:=Ad2 (n:=n) hp
  rw [e]
  exact hp.out Q h hQ q
 have step:∀ {sf:SF},(stepQX P G n sf l nx (fun v=>BH2 sf d v fun sf'=>RunQX P G n os K sf' ⟨l,nx⟩) op)→BS0 P G op (sd n sf) h fun v=>runQ P G os Q (AH1 (sd n sf) d v) h:=fun {sf} hs =>
  stepQ_mono (fun v hk=>go hk) (BI9 q hs)
 cases g with
 | none=>exact Ab0 rfl (step hr)
 | some tb =>
  obtain ⟨t,b⟩:=tb
  obtain ⟨p,h1,h2,h3⟩:=AS8 hr
  refine At4 rfl ⟨p,h1,fun e=>?_,fun e=>?_⟩
  ·obtain ⟨sf',e1,h4⟩:=h2 e
   rw [← e1];exact step h4
  ·obtain ⟨sf',e1,h4⟩:=h3 e
   rw [← e1];exact go h4
def stepDX (P:Program) (G:Gl) (n:Nat) (sf:SF) (l:List (Nat × AObj)) (nx:Nat) (k:AV→Up→List Nat→Hp→Prop) (o:AOp):Prop:=match o with
 | .call f args=>axK G n sf f fun fv=>BH9 G n sf args fun avs=>match fv with
  | .fn g fs cs=>AP8 P G g (fs++avs++cs) ⟨l,nx⟩ fun r up rd=>upK true l nx up fun h'=>k r up rd h'
  | _=>False
 | o=>opK G n sf l nx (fun v up rd=>upK true l nx up fun h'=>k v up rd h') o
structure Ag3 (P:Program) (G:Gl) (n:Nat) (anc:List (List Nat)) (np:Nat) (os:List O7) (k b:Nat) (log:List Ent) (K:SF→Hp→Prop) (sf:SF) (h:Hp):Prop where
 out:∀ Q:List AV→Hp→Prop,(∀ sf hx,K sf hx→∀ h,Hq h hx→Q (sd n sf) h)→∀ h0,Hq h0 h→Ak6 P G anc np os k b log Q (sd n sf) h0
theorem Ak3 {o:AOp} {sf:SF} {h:Hp} {l:List (Nat × AObj)} {nx:Nat} {k:AV→Up→List Nat→Hp→Prop} (q:Hq h ⟨l,nx⟩) (hs:stepDX P G n sf l nx k o):∃ v up rd hy,StepD P G o (sd n sf) (lk h.l) h.next v up rd∧Hq (h.appD up) hy∧k v up rd hy:=by
 have ql:Go.Am.lk h.l=Go.Am.lk l:=q.lk
 have qn:h.next=nx:=q.next
 cases o
 case call f args =>
  obtain ⟨fv,h1,hs⟩:=G6 hs
  obtain ⟨avs,h2,hs⟩:=AH8 hs
  cases fv<;>try exact hs.elim
  obtain ⟨r,up,rd,h3,h4⟩:=hs.out
  obtain ⟨hy,h5,h6⟩:=BI3 h4 (h0:=h) q
  exact ⟨r,up,rd,hy,⟨_,_,_,avs,h1,h2,by rw [ql,qn];exact h3⟩,h5,h6⟩
 all_goals
  simp only [stepDX] at hs
  obtain ⟨v,up,rd,h1,h2⟩:=BD4 hs
  obtain ⟨hy,h3,h4⟩:=BI3 h2 (h0:=h) q
  exact ⟨v,up,rd,hy,by rw [ql,qn];exact h1,h3,h4⟩
theorem U2 {anc:List (List Nat)} {np k b:Nat} {log:List Ent} {K:SF→Hp→Prop} {sf:SF} {h:Hp} (hc:Ax5 (chk anc b log) (K sf h)):Ag3 P G n anc np [] k b log K sf h:=⟨fun Q hQ h0 q=>⟨hc.ok,hQ sf h hc.out h0 q⟩⟩
section
variable {anc:List (List Nat)} {np k b:Nat} {log:List Ent} {d:Option Nat} {op:AOp} {g:Option (Nat × Bool)} {os:List O7} {K:SF→Hp→Prop} {sf:SF} {l:List (Nat × AObj)} {nx:Nat}
theorem O8 (hc:(op.isCall && pivot anc np k)=false)
  (hr:Al4 n sf g (fun sf=>stepDX P G n sf l nx (fun v up rd h'=>BH2 sf d v fun sf'=>Ag3 P G n anc np os (k+1) b (log++[AU0 ⟨d,op,g⟩ true up rd]) K sf' h') op) (fun sf=>BH2 sf d (.tup []) fun sf'=>Ag3 P G n anc np os (k+1) b (log++[AU0 ⟨d,op,g⟩ false [] []]) K sf' ⟨l,nx+1⟩)):Ag3 P G n anc np (⟨d,op,g⟩::os) k b log K sf ⟨l,nx⟩:=by
 refine ⟨fun Q hQ h q=>?_⟩
 have go:∀ {sf:SF} {v:AV} {h hx:Hp} {log:List Ent},Hq h hx→(BH2 sf d v fun sf'=>Ag3 P G n anc np os (k+1) b log K sf' hx)→Ak6 P G anc np os (k+1) b log Q (AH1 (sd n sf) d v) h:=fun {sf v h hx log} q hp=>by
  obtain ⟨sf',e,hp⟩:=Ad2 (n:=n) hp
  rw [e]
  exact hp.out Q hQ h q
 have q1:Hq (h.appD []) ⟨l,nx+1⟩:=⟨q.lk,by show h.next+1=_;rw [q.next]⟩
 show (if (op.isCall && pivot anc np k)=true then _ else _)
 rw [if_neg (by simp [hc])]
 cases g with
 | none =>
  simp only [Al4] at hr
  obtain ⟨v,up,rd,hy,k1,k2,k3⟩:=Ak3 q hr
  exact Ab0 rfl ⟨v,up,rd,k1,go k2 k3⟩
 | some tb =>
  obtain ⟨t,w⟩:=tb
  obtain ⟨p,h1,h2,h3⟩:=AS8 hr
  refine At4 rfl ⟨p,h1,fun e=>?_,fun e=>?_⟩
  ·obtain ⟨sf',e1,h4⟩:=h2 e
   obtain ⟨v,up,rd,hy,k1,k2,k3⟩:=Ak3 q h4
   rw [← e1]
   exact ⟨v,up,rd,k1,go k2 k3⟩
  ·obtain ⟨sf',e1,h4⟩:=h3 e
   rw [← e1]
   exact go q1 h4
theorem Z6 (hc:op.isCall=false)
  (hr:Al4 n sf g (fun sf=>stepDX P G n sf l nx (fun v up rd h'=>BH2 sf d v fun sf'=>Ag3 P G n anc np os (k+1) b (log++[AU0 ⟨d,op,g⟩ true up rd]) K sf' h') op) (fun sf=>BH2 sf d (.tup []) fun sf'=>Ag3 P G n anc np os (k+1) b (log++[AU0 ⟨d,op,g⟩ false [] []]) K sf' ⟨l,nx+1⟩)):Ag3 P G n anc np (⟨d,op,g⟩::os) k b log K sf ⟨l,nx⟩:=O8 (by rw [hc];rfl) hr
theorem P8 (hc:(op.isCall && pivot anc np k)=true)
  (hr:Ax5 (chk anc b log) (Al4 n sf g (fun sf=>stepX P G n sf l nx (fun v h'=>BH2 sf d v fun sf'=>Ag3 P G n anc np os (k+1) (k+1) [] K sf' h') op) (fun sf=>BH2 sf d (.tup []) fun sf'=>Ag3 P G n anc np os (k+1) (k+1) [] K sf' ⟨l,nx⟩))):Ag3 P G n anc np (⟨d,op,g⟩::os) k b log K sf ⟨l,nx⟩:=by
 refine ⟨fun Q hQ h q=>?_⟩
 have go:∀ {sf:SF} {v:AV} {h hx:Hp},Hq h hx→(BH2 sf d v fun sf'=>Ag3 P G n anc np os (k+1) (k+1) [] K sf' hx)→Ak6 P G anc np os (k+1) (k+1) [] Q (AH1 (sd n sf) d v) h:=fun {sf v h hx} q hp=>by
  obtain ⟨sf',e,hp⟩:=Ad2 (n:=n) hp
  rw [e]
  exact hp.out Q hQ h q
 show (if (op.isCall && pivot anc np k)=true then _ else _)
 rw [if_pos hc]
 refine ⟨hr.ok,?_⟩
 have hs:=hr.out
 have step:∀ {sf:SF},(stepX P G n sf l nx (fun v h'=>BH2 sf d v fun sf'=>Ag3 P G n anc np os (k+1) (k+1) [] K sf' h') op)→Ah3 P G op (sd n sf) h fun v h'=>Ak6 P G anc np os (k+1) (k+1) [] Q (AH1 (sd n sf) d v) h':=fun {sf} hs =>
  AQ3 (fun v h' ⟨hy,q',hk⟩=>go q' hk) (Aq6 q hs)
 cases g with
 | none=>exact Ab0 rfl (step hs)
 | some tb =>
  obtain ⟨t,w⟩:=tb
  obtain ⟨p,h1,h2,h3⟩:=AS8 hs
  refine At4 rfl ⟨p,h1,fun e=>?_,fun e=>?_⟩
  ·obtain ⟨sf',e1,h4⟩:=h2 e
   rw [← e1];exact step h4
  ·obtain ⟨sf',e1,h4⟩:=h3 e
   rw [← e1];exact go q h4
end
structure AK4 (P:Program) (G:Gl) (rd:Option Nat) (N n:Nat) (c:ACode) (K:Exit→SF→Hp→Prop) (sf:SF) (h:Hp):Prop where
 out:∀ Q:Exit→List AV→Hp→Prop,(∀ e sf hx,K e sf hx→∀ h,Hq h hx→Q e (sd n sf) h)→∀ h1,Hq h1 h→wpc P G rd N c Q (sd n sf) h1
structure RangeX (P:Program) (G:Gl) (rd:Option Nat) (n:Nat) (fv:AV) (ps:List Nat) (as bd:ACode) (K:Exit→SF→Hp→Prop) (sf:SF) (h:Hp):Prop where
 out:∃ g fs cs,fv = .fn g fs cs∧fnOk P g=true∧inLoop h rd∧∀ Q:Exit→List AV→Hp→Prop,(∀ e sf hx,K e sf hx→∀ h,Hq h hx→Q e (sd n sf) h) →
  Am0 P G (.fn g fs cs) [.yld h.next] ⟨(h.next,.loop .ready none (sd n sf) ps as bd)::h.l,h.next+1⟩ fun _ h2=>rangeQ h.next (sd n sf) Q h2
def thenK (w:SF→Hp→Prop) (K:Exit→SF→Hp→Prop) (e:Exit) (sf:SF) (h:Hp):Prop:=match e with
 | .normal=>w sf h
 | e=>K e sf h
def blockK (id:Nat) (K:Exit→SF→Hp→Prop) (e:Exit) (sf:SF) (h:Hp):Prop:=match e with
 | .exit j=>bif Nat.beq j id then K .normal sf h else K (.exit j) sf h
 | e=>K e sf h
section
variable {rd:Option Nat} {N:Nat} {K:Exit→SF→Hp→Prop} {sf:SF} {h:Hp}
theorem Q5 (hk:K .normal sf h):AK4 P G rd N n .skip K sf h:=⟨fun Q hQ h1 q=>hQ _ _ _ hk _ q⟩
theorem Q6 {id:Nat} (hk:K (.exit id) sf h):AK4 P G rd N n (.exit id) K sf h:=⟨fun Q hQ h1 q=>hQ _ _ _ hk _ q⟩
theorem U7 (hk:K .ret sf h):AK4 P G rd N n .ret K sf h:=⟨fun Q hQ h1 q=>hQ _ _ _ hk _ q⟩
theorem U8 {ops:List O7} (hr:RunX P G n ops (K .normal) sf h):AK4 P G rd N n (.reg ops) K sf h:=⟨fun Q hQ h1 q=>hr.out _ (hQ .normal) h1 q⟩
theorem AH4 {ops:List O7} {pre:List (List Nat)} {l:List (Nat × AObj)} {nx m:Nat} (hq:BC7 ops pre=some m) (hr:RunQX P G n ops (fun sf=>K .normal sf ⟨l,nx+m⟩) sf ⟨l,nx⟩):AK4 P G rd N n (.regD ops pre) K sf ⟨l,nx⟩:=by
 refine ⟨fun Q hQ h1 q=>regD_quiet hq (hr.out _ h1 (fun sf' hk=>?_) q)⟩
 exact hQ .normal sf' _ hk ⟨h1.l,h1.next+m⟩ ⟨q.lk,by simp only [q.next]⟩
theorem AG4 {ops:List O7} {pre:List (List Nat)} (ho:BL5 pre 0=true) (hr:Ag3 P G n (ancs pre) pre.length ops 0 0 [] (K .normal) sf h):AK4 P G rd N n (.regD ops pre) K sf h:=⟨fun Q hQ h1 q=>⟨ho,hr.out _ (hQ .normal) h1 q⟩⟩
theorem U6 {a b:ACode} (ha:AK4 P G rd N n a (thenK (AK4 P G rd N n b K) K) sf h):AK4 P G rd N n (.seq a b) K sf h:=by
 refine ⟨fun Q hQ h1 q=>ha.out _ (fun e sf' hx' hk h' q'=>?_) h1 q⟩
 cases e<;>first|exact hk.out Q hQ h' q'|exact hQ _ _ _ hk _ q'
theorem Q7 {c:AX} {a b:ACode} (hc:axK G n sf c fun v=>match v with
  | .bool t=>BrX t (AK4 P G rd N n a K sf h) (AK4 P G rd N n b K sf h)
  | _=>False):AK4 P G rd N n (.cond c a b) K sf h:=by
 refine ⟨fun Q hQ h1 q=>?_⟩
 obtain ⟨v,h2,h⟩:=G6 hc
 cases v<;>try exact h.elim
 obtain ⟨h3,h4⟩:=AJ0 h
 exact ⟨_,h2,fun e=>(h3 e).out Q hQ h1 q,fun e=>(h4 e).out Q hQ h1 q⟩
theorem M7 {id:Nat} {c:ACode} (hc:AK4 P G rd N n c (blockK id K) sf h):AK4 P G rd N n (.block id c) K sf h:=by
 refine ⟨fun Q hQ h1 q=>hc.out _ (fun e sf' hx' hk h' q'=>?_) h1 q⟩
 cases e<;>try exact hQ _ _ _ hk _ q'
 rename_i j
 simp only [blockK] at hk
 simp only [blockQ]
 cases e:Nat.beq j id with
 | true=>rw [e] at hk;rw [if_pos (beq_eq e)];exact hQ _ _ _ hk _ q'
 | false=>rw [e] at hk;rw [if_neg (Av5 e)];exact hQ _ _ _ hk _ q'
theorem M6 {f:AX} {ps:List Nat} {a b:ACode} (hc:axK G n sf f fun fv=>RangeX P G rd n fv ps a b K sf h):AK4 P G rd N n (.rangeF f ps a b) K sf h:=by
 refine ⟨fun Q hQ h1 q=>?_⟩
 obtain ⟨v,h2,hh⟩:=G6 hc
 obtain ⟨g,fs,cs,rfl,h3,h4,h5⟩:=hh.out
 refine ⟨g,fs,cs,h2,h3,?_,?_⟩
 ·cases rd with
  | none=>trivial
  | some l=>obtain ⟨st,pend,fr,ps,as,bd,e⟩:=h4;exact ⟨st,pend,fr,ps,as,bd,by rw [q.lk];exact e⟩
 ·have:=h5 Q hQ
  rw [← q.next] at this
  have e:Hq ⟨put h1.l h1.next (some (.loop .ready none (sd n sf) ps a b)),h1.next+1⟩ ⟨(h1.next,.loop .ready none (sd n sf) ps a b)::h.l,h1.next+1⟩:=⟨by
   show Go.Am.lk (put h1.l h1.next (some (.loop .ready none (sd n sf) ps a b)))=Go.Am.lk ((h1.next,.loop .ready none (sd n sf) ps a b)::h.l)
   rw [BM1]
   funext j
   simp only [upd,Go.Am.lk,q.lk],rfl⟩
  exact e.callV this
end
end
end Go.Am
namespace Go.Am
section
variable {P:Program} {G:Gl} {n:Nat}
def enumK:Nat→List AV→(SF→Prop)→Prop
 | _,[],k=>k []
 | i,a::r,k=>enumK (i+1) r fun l=>k ((i,a)::l)
def enumF:Nat→List AV→SF
 | _, [] => []
 | i,a::r=>(i,a)::enumF (i+1) r
theorem AR4:∀ {l:List AV} {i:Nat} {k:SF→Prop},enumK i l k→k (enumF i l)
 | [],_,_,h=>h
 | a::r,i,k,h=>AR4 (l:=r) (i:=i+1) (k:=fun l=>k ((i,a)::l)) h
theorem BJ0:∀ {l:List AV} {i t:Nat},Aw2 (enumF i l) t=if i≤t then l.getD (t - i) .undef else .undef
 | [],i,t=>by simp [enumF,Aw2]
 | a::r,i,t=>by
  rw [enumF,Ac4,BJ0]
  by_cases h:i=t
  ·subst h;simp
  ·rw [if_neg h]
   by_cases h2:i+1≤t
   ·rw [if_pos h2,if_pos (by omega),show t - i=(t - (i+1))+1 by omega];rfl
   ·rw [if_neg h2,if_neg (by omega)]
theorem BC3 {args:List AV} (h:args.length≤n):args++List.replicate (n - args.length) .undef=sd n (enumF 0 args):=by
 apply List.ext_getElem?
 intro j
 rw [Ac6,BJ0,List.getElem?_append]
 by_cases h1:j < args.length
 ·rw [if_pos h1,if_pos (by omega),if_pos (Nat.zero_le _)];simp [h1]
 ·rw [if_neg h1]
  by_cases h2:j < n
  ·rw [if_pos h2,if_pos (Nat.zero_le _),List.getElem?_replicate,if_pos (by omega)]
   simp [List.getElem?_eq_none (show args.length≤j by omega)]
  ·rw [if_neg h2,List.getElem?_replicate,if_neg (by omega)]
structure AU3 (top:Bool) (P:Program) (N:Nat) (h:Hp) (x:AV) (K:AV→Hp→Prop):Prop where
 out:∃ σ r' h',Weak P σ [x] h [r'] h'∧Keeps N σ∧N≤h'.next∧K r' h'
def BL2 (l:List AV) (k:AV→Prop):Prop:=match l with
 | [v]=>k v
 | l=>k (.tup l)
theorem packK_spec {l:List AV} {k:AV→Prop} (h:BL2 l k):k (BL1 l):=by
 match l,h with
 | [],h=>exact h
 | [_],h=>exact h
 | _::_::_,h=>exact h
def res1K (n:Nat) (sf:SF) (l:List (Nat × AObj)) (r:ARes) (k:AV→Prop):Prop:=match r with
 | .tmp t=>bif Nat.blt t n then Ai4 sf t k else False
 | .cell a ag m=>bif Nat.blt a n then Ai4 sf a fun p=>loadK l ag m p fun v _=>k v else False
theorem res1K_spec {sf:SF} {l:List (Nat × AObj)} {r:ARes} {k:AV→Prop} (h:res1K n sf l r k):∃ v,resV (sd n sf) (lk l) r=some v∧k v:=by
 cases r with
 | tmp t =>
  simp only [res1K] at h
  cases e:Nat.blt t n with
  | false=>rw [e] at h;exact h.elim
  | true=>rw [e] at h;exact ⟨_,by simp only [resV];rw [Ac6,if_pos (Av4 e)],AE3 h⟩
 | cell a ag m =>
  simp only [res1K] at h
  cases e:Nat.blt a n with
  | false=>rw [e] at h;exact h.elim
  | true =>
   rw [e] at h
   obtain ⟨v,rd,h1,h2⟩:=Az4 (AE3 h)
   exact ⟨v,by simp only [resV];rw [Ac6,if_pos (Av4 e)];simp [h1],h2⟩
def resK (n:Nat) (sf:SF) (l:List (Nat × AObj)):List ARes→(List AV→Prop)→Prop
 | [],k=>k []
 | r::rs,k=>res1K n sf l r fun v=>resK n sf l rs fun vs=>k (v::vs)
theorem BJ5 {sf:SF} {l:List (Nat × AObj)}:∀ {rs:List ARes} {k:List AV→Prop},resK n sf l rs k→∃ vs,Ax2 (sd n sf) (lk l) rs=some vs∧k vs
 | [],k,h=>⟨[],rfl,h⟩
 | r::rs,k,h=>by
  obtain ⟨v,h1,h⟩:=res1K_spec h
  obtain ⟨vs,h2,h⟩:=BJ5 h
  exact ⟨v::vs,by simp [Ax2,h1,h2],h⟩
def endK (n:Nat) (top:Bool) (P:Program) (rs:List ARes) (N:Nat) (K:AV→Hp→Prop) (e:Exit) (sf:SF) (h:Hp):Prop:=match e with
 | .normal=>resK n sf h.l rs fun l=>BL2 l fun x=>AU3 top P N h x K
 | .ret=>resK n sf h.l rs fun l=>BL2 l fun x=>AU3 top P N h x K
 | _=>False
theorem Af5 {top:Bool} {rs:List ARes} {N:Nat} {K:AV→Hp→Prop} {e:Exit} {sf:SF} {h hx:Hp} (hk:endK n top P rs N K e sf hx) (q:Hq h hx):finQ P rs N K e (sd n sf) h:=by
 have go:(resK n sf hx.l rs fun l=>BL2 l fun x=>AU3 top P N hx x K)→∃ l σ r' h',Ax2 (sd n sf) (lk h.l) rs=some l∧Weak P σ [BL1 l] h [r'] h'∧Keeps N σ∧N≤h'.next∧K r' h':=fun hk=>by
  obtain ⟨vs,h1,h2⟩:=BJ5 hk
  obtain ⟨σ,r',h',w,h3⟩:=(packK_spec h2).out
  exact ⟨vs,σ,r',h',by rw [q.lk];exact h1,q.weak w,h3⟩
 cases e<;>first|exact go hk|exact hk.elim
theorem BO0 {top:Bool} {rs:List ARes} {N:Nat} {K K':AV→Hp→Prop} (hK:∀ v h,K v h→K' v h) {e:Exit} {sf:SF} {hx:Hp} (hk:endK n top P rs N K e sf hx):endK n top P rs N K' e sf hx:=by
 have go:(resK n sf hx.l rs fun l=>BL2 l fun x=>AU3 top P N hx x K)→resK n sf hx.l rs fun l=>BL2 l fun x=>AU3 top P N hx x K':=fun hk=>by
  have up:∀ {x:AV},AU3 top P N hx x K→AU3 top P N hx x K':=fun {x} ⟨⟨σ,r',h',w,k,m,kk⟩⟩=>⟨σ,r',h',w,k,m,hK _ _ kk⟩
  have up2:∀ {l:List AV},(BL2 l fun x=>AU3 top P N hx x K)→BL2 l fun x=>AU3 top P N hx x K':=fun {l} h=>by
   match l,h with
   | [],h=>exact up h
   | [_],h=>exact up h
   | _::_::_,h=>exact up h
  have up3:∀ {rs:List ARes} {k k':List AV→Prop},(∀ l,k l→k' l)→resK n sf hx.l rs k→resK n sf hx.l rs k':=by
   have cells:∀ {l:List (Nat × AObj)} {i:Nat} {k k':List AV→Prop},(∀ l,k l→k' l)→AX1 l i k→AX1 l i k':=fun {l i k k'} hk h=>by
    obtain ⟨cs,h1,h2⟩:=AI5 h;exact BO9 h1 (hk _ h2)
   have part:∀ {ag:Bool} {o m:Nat} {cs:List AV} {k k':AV→Prop},(∀ l,k l→k' l)→BT5 ag o m cs k→BT5 ag o m cs k':=fun {ag o m cs k k'} hk h=>by
    cases ag with
    | false=>obtain ⟨v,h1,h2⟩:=Ad8 (k:=k) h;exact J2 h1 (hk _ h2)
    | true =>
     obtain ⟨h1,h2⟩:=Aj5 h
     obtain ⟨h3,h4⟩:=Ah1 h2
     exact Y5 h1 rfl (Y0 h3 rfl (hk _ h4))
   have look:∀ {t:Nat} {k k':AV→Prop},(∀ v,k v→k' v)→Ai4 sf t k→Ai4 sf t k':=fun {t k k'} hk h=>by
    have e:∀ {sf:SF} {k:AV→Prop},k (Aw2 sf t)→Ai4 sf t k:=by
     intro sf
     induction sf with
     | nil=>exact fun h=>h
     | cons p r ih =>
      intro k h
      obtain ⟨i,v⟩:=p
      simp only [Aw2] at h
      simp only [Ai4]
      cases e:Nat.beq i t with
      | true=>rw [e] at h;exact h
      | false=>rw [e] at h;exact ih h
    exact e (hk _ (AE3 h))
   intro rs
   induction rs with
   | nil=>exact fun hk h=>hk _ h
   | cons r rs ih =>
    intro k k' hk h
    simp only [resK] at h ⊢
    cases r with
    | tmp t =>
     simp only [res1K] at h ⊢
     cases e:Nat.blt t n with
     | false=>rw [e] at h;exact h.elim
     | true=>rw [e] at h;exact look (fun v hv=>ih (fun l hl=>hk _ hl) hv) h
    | cell a ag m =>
     simp only [res1K] at h ⊢
     cases e:Nat.blt a n with
     | false=>rw [e] at h;exact h.elim
     | true =>
      rw [e] at h
      refine look (fun p hp=>?_) h
      cases p<;>try exact hp.elim
      ·exact cells (fun cs hc=>part (fun v hv=>ih (fun l hl=>hk _ hl) hv) hc) hp
      ·exact part (fun v hv=>ih (fun l hl=>hk _ hl) hv) hp
  exact up3 (fun l=>up2) hk
 cases e<;>first|exact go hk|exact hk.elim
theorem I5 {f:Nat} {ac:ACode} {rs:List ARes} {args:List AV} {r:AV} (D9:P.follows .mixedOrders=true) (hb:Body P f ac rs n) (hG:AX2 G) (ha:BQ2 args) (hr:Plain r) (hn:Nat.ble args.length n=true)
  (hw:enumK 0 args fun sf=>AK4 P G none 0 n ac (endK n true P rs 0 fun r' h'=>r'=r∧h'.l=[]) sf ⟨[],0⟩):Ak1 P G f args r:=by
 refine pure_of D9 hb hG ha hr ?_
 rw [BC3 (Nat.le_of_ble_eq_true hn)]
 exact (AR4 hw).out _ (fun e sf hx hk h q=>Af5 hk q) _ .refl
theorem E8 {f:Nat} {ac:ACode} {rs:List ARes} {args:List AV} {l0:List (Nat × AObj)} {k:Nat} {K:AV→Hp→Prop} (D9:P.follows .mixedOrders=true) (hb:Body P f ac rs n) (hn:Nat.ble args.length n=true)
  (hw:enumK 0 args fun sf=>AK4 P G none k n ac (endK n true P rs k K) sf ⟨l0,k⟩):AT8 P G f args l0 k K:=by
 refine loc_of D9 hb ?_
 rw [BC3 (Nat.le_of_ble_eq_true hn)]
 exact (AR4 hw).out _ (fun e sf hx hk h q=>Af5 hk q) _ .refl
theorem AG1 {N:Nat} {h:Hp} {x:AV} {K:AV→Hp→Prop} (hN:Nat.ble N h.next=true) (hk:K x h):AU3 false P N h x K:=⟨id,x,h,weak_refl,fun _ _=>rfl,Nat.le_of_ble_eq_true hN,hk⟩
theorem AG0 {h:Hp} {x r:AV} (hw:WkV P id h ⟨[],0⟩ x r):AU3 true P 0 h x (fun r' h'=>r'=r∧h'.l=[]) :=
 ⟨id,r,⟨[],0⟩,Ap3 (fun i j o o' hi=>by cases hi) ⟨hw,trivial⟩ trivial,fun _ _=>rfl,Nat.le_refl _,rfl,rfl⟩
theorem F6 {h:Hp} {x r:AV} (e:x=r) (hp:Plain r):AU3 true P 0 h x (fun r' h'=>r'=r∧h'.l=[]):=by subst e;exact AG0 (M8 AX3 hp)
theorem AE1 {h:Hp} {k:IntKind} {m m':Int} (e:m=m'):AU3 true P 0 h (.int k m) (fun r' h'=>r' = .int k m'∧h'.l=[]):=F6 (by rw [e]) A8
theorem J7 {h:Hp} {m m':Bool} (e:m=m'):AU3 true P 0 h (.bool m) (fun r' h'=>r' = .bool m'∧h'.l=[]):=F6 (by rw [e]) A9
theorem AA0 {top:Bool} {N m:Nat} {h:Hp} {x r:AV} {lr:List (Nat × AObj)} {K:AV→Hp→Prop} (ren:List (Nat × Nat)) (hk:Ae2 N ren=true) (hm:N≤m) (hi:BH0 (rn ren) lr) (hr:WkV P (rn ren) h ⟨lr,m⟩ x r) (ho:WkO P (rn ren) h ⟨lr,m⟩ lr) (hK:K r ⟨lr,m⟩):AU3 top P N h x K :=
 ⟨rn ren,r,⟨lr,m⟩,Ap3 hi ⟨hr,trivial⟩ ho,An1 hk,hm,hK⟩
theorem cx_pure {g:Nat} {fs avs cs:List AV} {r:AV} {h:Hp} {K:AV→Hp→Prop} (hp:Ak1 P G g (fs++avs++cs) r) (hk:K r h):AG9 P G (.fn g fs cs) avs h K:=⟨BP0 (hp _ _) ⟨h,.refl,hk⟩⟩
theorem O6 {g n':Nat} {fs avs cs:List AV} {h:Hp} {K:AV→Hp→Prop} {ac:ACode} {rs:List ARes} (D9:P.follows .mixedOrders=true) (hb:Body P g ac rs n') (hn:Nat.ble (fs++avs++cs).length n'=true)
  (hw:enumK 0 (fs++avs++cs) fun sf=>AK4 P G none h.next n' ac (endK n' false P rs h.next K) sf h):AG9 P G (.fn g fs cs) avs h K:=by
 refine ⟨BA7 D9 hb ?_⟩
 rw [BC3 (Nat.le_of_ble_eq_true hn)]
 refine (AR4 hw).out _ (fun e sf hx hk h q=>Af5 (BO0 (fun v h' hk=>⟨h',.refl,hk⟩) hk) q) _ .refl
theorem dcx_pure {g:Nat} {avs:List AV} {r:AV} {h:Hp} {K:AV→Up→List Nat→Prop} (hp:Ak1 P G g avs r) (hk:K r [] []):AP8 P G g avs h K:=⟨r,[],[],hp _ _,hk⟩
section
variable {A B p:Prop} {a b:Bool} {α:Type} {e m:α} {K:α→Prop}
theorem br_b (hA:b=true→A) (hB:b=false→B):BrX b A B:=⟨hA,hB⟩
theorem Ao5 (h:b=true) (hA:A):BrX b A B:=⟨fun _=>hA,fun e=>(by rw [h] at e;cases e)⟩
theorem Ao6 (h:b=false) (hB:B):BrX b A B:=⟨fun e=>(by rw [h] at e;cases e),fun _=>hB⟩
theorem AL1 (hA:A):BrX true A B:=Ao5 rfl hA
theorem AL2 (hB:B):BrX false A B:=Ao6 rfl hB
theorem br_d [Decidable p] (hA:p→A) (hB:¬ p→B):BrX (decide p) A B:=br_b (fun h=>hA (of_decide_eq_true h)) fun h=>hB (of_decide_eq_false h)
theorem Aw7 (h:BrX b B A):BrX (!b) A B:=by
 cases b
 ·exact AL1 (h.out.2 rfl)
 ·exact AL2 (h.out.1 rfl)
theorem AC9 (h:BrX a (BrX b A B) B):BrX (a && b) A B:=by
 cases a
 ·exact AL2 (h.out.2 rfl)
 ·exact h.out.1 rfl
theorem AO8 (h:BrX a A (BrX b A B)):BrX (a || b) A B:=by
 cases a
 ·exact h.out.2 rfl
 ·exact AL1 (h.out.1 rfl)
theorem Aw5 (h:p) (hA:A):CkX p A:=⟨h,hA⟩
theorem AC0 (h:e=m) (hk:K m):EqX e K:=⟨m,h,hk⟩
theorem AF9 (hk:K e):EqX e K:=⟨e,rfl,hk⟩
theorem AC8 {e:Int} {K:Int→Prop} (h:-9223372036854775808≤e∧e≤9223372036854775807) (hk:K e):EqX (IntKind.i64.wrap e) K:=⟨e,IntWalk.i64_in e h,hk⟩
theorem AO3 {e:Int} {K:Int→Prop} (h:0≤e∧e≤255) (hk:K e):EqX (IntKind.u8.wrap e) K:=⟨e,IntWalk.u8_in e h,hk⟩
theorem AC5 {e:Int} {K:Int→Prop} (h:0≤e∧e≤65535) (hk:K e):EqX (IntKind.u16.wrap e) K:=⟨e,IntWalk.u16_in e h,hk⟩
theorem AO4 {b:Nat} {K:Nat→Prop} (hk:K b):EqX (Int.toNat (b:Int)) K:=⟨b,by simp,hk⟩
theorem AC7 {o b s:Nat} {K:Nat→Prop} (h:EqX (o+b * s) K):EqX (o+Int.toNat (b:Int) * s) K:=by simpa using h
theorem AC6 {b s:Nat} {K:Nat→Prop} (h:EqX (b * s) K):EqX (Int.toNat (b:Int) * s) K:=by simpa using h
theorem Aw3 {b:Nat} {K:Nat→Prop} (h:K b):EqX (0+b) K:=⟨b,by simp,h⟩
theorem AO6 {o b:Nat} {K:Nat→Prop} (h:EqX (o+b) K):EqX (o+b * 1) K:=by simpa using h
theorem AO5 {b:Nat} {K:Nat→Prop} (h:K b):EqX (b * 1) K:=⟨b,by simp,h⟩
theorem AO2 {b s:Nat} {K:Nat→Prop} (h:K (b * s)):EqX (0+b * s) K:=⟨b * s,by simp,h⟩
theorem AU1 {els:List (List AV)} {j sz:Nat} {K:List AV→Prop} {el:List AV} (h:els[j]? = some el) (hl:el.length=sz) (hk:K el):ElX els j sz K:=⟨el,h,hl,hk⟩
theorem AO7 {els:List (List AV)} {j sz:Nat} {K:List AV→Prop} (h:ElX els j sz K):ElX els (Int.toNat (j:Int)) sz K:=by simpa using h
theorem el_map {α:Type} {f:α→List AV} {l:List α} {j sz:Nat} {K:List AV→Prop} (d:α) (hf:∀ x,(f x).length=sz) (hj:j < l.length) (hk:K (f (Go.Pol.nth d l j))):ElX (l.map f) j sz K :=
 ⟨_,by rw [List.getElem?_map,List.getElem?_eq_getElem hj,Go.Pol.N8 hj];rfl,hf _,hk⟩
theorem Z9 {α:Type} {f:α→List AV} {l:List α} {j sz:Nat} {K:List AV→Prop} {d x:α} (hf:∀ x,(f x).length=sz) (hj:j < l.length) (hx:Go.Pol.nth d l j=x) (hk:K (f x)):ElX (l.map f) j sz K:=by subst hx;exact el_map d hf hj hk
theorem AC4 {id off len cp sz:Nat} {k:AV→Prop} (h:k (.int .i64 len)):LenX (.sl id off len cp sz) k:=⟨_,rfl,h⟩
theorem U5 {k:AV→Prop} (h:k (.int .i64 0)):LenX .nils k:=⟨_,rfl,h⟩
theorem M0 {α:Type} {f:α→List AV} {l:List α} {k:AV→Prop} (h:k (.int .i64 l.length)):LenX (.isl (l.map f)) k:=⟨_,by simp only [lenV,List.length_map],h⟩
theorem M4 {els:List (List AV)} {k:AV→Prop} (h:k (.int .i64 els.length)):LenX (.isl els) k:=⟨_,rfl,h⟩
theorem U4 {i sz m:Nat} {k:AV→Prop} (h:k (.int .i64 m)):LenX (AN9 i sz m) k:=⟨_,len_own,h⟩
theorem V5 {i sz m:Nat} {K:List AV→Prop} (h:K [AN9 i sz m]):flatK (AN9 i sz m) K:=by
 by_cases hz:m=0
 ·subst hz;exact h
 ·rw [AZ0 hz] at h ⊢;exact h
end
section
variable {l:List (Nat × AObj)} {nx sz bytes d len m:Nat} {x:AV} {src cs:List AV} {rd:List Nat} {k:AV→Up→List Nat→Prop} {ks:AV→Up→Prop}
theorem app_some {v:AV} {up:Up} {rd:List Nat} {s:AV} (h:BQ0 (lk l) nx sz bytes s x=some (v,up,rd)) (hk:k v up rd):AppX l nx sz bytes s x k:=⟨v,up,rd,h,hk⟩
theorem AJ7 {v:AV} {up:Up} {rd:List Nat} {s:AV} (h:BQ0 (lk l) nx sz bytes s x=some (v,up,rd)) (hk:ks v up):AppSX l nx sz bytes s x ks:=⟨v,up,up,rd,h,rfl,rfl,hk⟩
theorem appV_nil (hs:Ak4 (lk l) sz x=some (src,m,rd)) (h0:0 < m) (hb:m * bytes≤140737488355328∧m≤1000000000000):BQ0 (lk l) nx sz bytes .nils x=some (.sl nx 0 m m sz,[(nx,some (.cells src))],rd):=by
 simp only [BQ0,hs];rw [if_neg (by omega),if_pos hb]
theorem Ab6 (hs:Ak4 (lk l) sz x=some (src,m,rd)) (hd:lk l d=some (.cells cs)) (hc:cs.length=len * sz) (h0:0 < m) (hb:(len+m) * bytes≤140737488355328∧len+m≤1000000000000):BQ0 (lk l) nx sz bytes (.sl d 0 len len sz) x=some (.sl nx 0 (len+m) (len+m) sz,[(d,none),(nx,some (.cells (cs++src)))],d::rd):=by
 simp only [BQ0,hs,o8,hd]
 rw [if_pos ⟨trivial,by omega⟩,if_neg (by omega),if_pos hb,List.drop_zero,List.take_of_length_le (by omega)]
theorem appV_in {off cp:Nat} (hs:Ak4 (lk l) sz x=some (src,m,rd)) (hd:lk l d=some (.cells cs)) (hf:len+m≤cp) (hc:off+(len+m) * sz≤cs.length):BQ0 (lk l) nx sz bytes (.sl d off len cp sz) x=some (.sl d off (len+m) cp sz,[(d,some (.cells (over cs (off+len * sz) src)))],d::rd):=by
 have hle:off+len * sz≤cs.length:=Nat.le_trans (Nat.add_le_add_left (Nat.mul_le_mul_right sz (Nat.le_add_right len m)) off) hc
 simp only [BQ0,hs,o8,hd]
 rw [if_pos ⟨trivial,hle⟩,if_pos hf,if_pos hc]
theorem Y7 (hd:lk l d=some (.cells cs)) (hc:cs.length=m * sz):Ak4 (lk l) sz (.sl d 0 m m sz)=some (cs,m,[d]):=by
 simp only [Ak4,o8,hd]
 rw [if_pos ⟨trivial,by omega⟩,List.drop_zero,List.take_of_length_le (by omega)]
theorem appV_own {α:Type} {f:α→List AV} {L l2:List α} (hf:∀ x,(f x).length=sz) (hs:Ak4 (lk l) sz x=some (src,m,rd)) (hl:L.length ≠ 0→lk l d=some (.cells (flat f L))) (hsrc:src=flat f l2) (h0:0 < m) (hb:(L.length+m) * bytes≤140737488355328∧L.length+m≤1000000000000) :
  BQ0 (lk l) nx sz bytes (AN9 d sz L.length) x=if L.length=0 then some (.sl nx 0 (L.length+m) (L.length+m) sz,[(nx,some (.cells (flat f (L++l2))))],rd) else some (.sl nx 0 (L.length+m) (L.length+m) sz,[(d,none),(nx,some (.cells (flat f (L++l2))))],d::rd):=by
 subst hsrc
 by_cases hz:L.length=0
 ·rw [if_pos hz,hz,BD1,appV_nil hs h0 (by simpa [hz] using hb)]
  cases List.eq_nil_of_length_eq_zero hz
  simp
 ·rw [if_neg hz,AZ0 hz,Ab6 hs (hl hz) (I8 hf L) h0 hb,flat_app]
theorem AA2 {α:Type} {f:α→List AV} {L l2:List α} (hf:∀ x,(f x).length=sz) (hs:Ak4 (lk l) sz x=some (src,m,rd)) (hl:L.length ≠ 0→lk l d=some (.cells (flat f L))) (hl0:L.length=0→lk l d=none) (hsrc:src=flat f l2) (h0:0 < m) (hb:(L.length+m) * bytes≤140737488355328∧L.length+m≤1000000000000) (hd:Nat.beq d nx=false)
  (hk:ks (.sl nx 0 (L.length+m) (L.length+m) sz) [(d,none),(nx,some (.cells (flat f (L++l2))))]):AppSX l nx sz bytes (AN9 d sz L.length) x ks:=by
 have hne:=Av5 hd
 refine ⟨_,if L.length=0 then [(nx,some (.cells (flat f (L++l2))))] else [(d,none),(nx,some (.cells (flat f (L++l2))))],_,if L.length=0 then rd else d::rd,?_,?_,?_,hk⟩
 ·rw [appV_own hf hs hl hsrc h0 hb];split<;>rfl
 ·by_cases hz:L.length=0
  ·rw [if_pos hz]
   funext j
   simp only [upd]
   by_cases h1:j=d
   ·subst h1;rw [if_neg hne,if_pos rfl];exact hl0 hz
   ·rw [if_neg h1]
  ·rw [if_neg hz]
 ·by_cases hz:L.length=0
  ·rw [if_pos hz]
   have : (d == nx)=false:=by simpa using hne
   simp [AZ8,this]
  ·rw [if_neg hz]
theorem AB0 {α:Type} {f:α→List AV} {L:List α} {k:List (Nat × AObj)→Prop} (h:k []):BQ6 (AE8 d f L) d k:=by
 by_cases hz:L.length=0
 ·rw [AT7 hz];exact h
 ·rw [AM8 hz];simp only [BQ6];rw [show Nat.beq d d=true by simp];exact h
theorem Z4 {α:Type} {f:α→List AV} {L:List α} {i:Nat} {k:List (Nat × AObj)→Prop} (hi:Nat.beq i d=false) (h:k (AE8 d f L)):BQ6 (AE8 d f L) i k:=by
 by_cases hz:L.length=0
 ·rw [AT7 hz] at h ⊢;exact h
 ·rw [AM8 hz] at h ⊢;simp only [BQ6,hi];exact h
theorem j6 {α:Type} {f:α→List AV} {L:List α} (hz:L.length=0) {i:Nat}:lk (AE8 d f L) i=none:=by rw [AT7 hz];rfl
end
structure WkX (P:Program) (σ:Nat→Nat) (h h':Hp) (x y:AV):Prop where
 out:WkV P σ h h' x y
def WkF (P:Program) (σ:Nat→Nat) (h h':Hp) (sf:SF):SF→Prop
 | []=>True
 | (t,y)::r=>Ai4 sf t (fun x=>WkX P σ h h' x y)∧WkF P σ h h' sf r
theorem o9 {σ:Nat→Nat} {h h':Hp} {sf:SF}:∀ {sf':SF},WkF P σ h h' sf sf'→∀ t,WkV P σ h h' (Aw2 sf t) (Aw2 sf' t)
 | [],_,t=>fun c v _ _ _=>RR_undef
 | (i,y)::r,hw,t=>by
  rw [Ac4]
  by_cases e:i=t
  ·subst e;rw [if_pos rfl];exact (AE3 hw.1).out
  ·rw [if_neg e];exact o9 hw.2 t
theorem AL8 {σ:Nat→Nat} {h h':Hp} {sf sf':SF} (hw:∀ t,WkV P σ h h' (Aw2 sf t) (Aw2 sf' t)):WkL P σ h h' (sd n sf) (sd n sf'):=by
 have : ∀ l:List Nat,WkL P σ h h' (l.map (Aw2 sf)) (l.map (Aw2 sf')):=by
  intro l
  induction l with
  | nil=>trivial
  | cons t l ih=>exact ⟨hw t,ih⟩
 exact this _
structure WeakX (P:Program) (l:List (Nat × Nat)) (n:Nat) (sf:SF) (h:Hp) (sf':SF) (h':Hp):Prop where
 out:Weak P (rn l) (sd n sf) h (sd n sf') h'
theorem weak_x {ren:List (Nat × Nat)} {sf sf':SF} {h h':Hp} (hi:BH0 (rn ren) h'.l) (hf:WkF P (rn ren) h h' sf sf') (ho:WkO P (rn ren) h h' h'.l):WeakX P ren n sf h sf' h':=⟨Ap3 hi (AL8 (o9 hf)) ho⟩
def keepK:List Nat→SF→(SF→Prop)→Prop
 | [],_,k=>k []
 | t::ts,sf,k=>Ai4 sf t fun v=>keepK ts sf fun b=>k ((t,v)::b)
def keepF (live:List Nat) (sf:SF):SF:=live.map fun t=>(t,Aw2 sf t)
theorem Ai8 {sf:SF}:∀ {live:List Nat} {k:SF→Prop},keepK live sf k→k (keepF live sf)
 | [],_,h=>h
 | t::ts,k,h=>Ai8 (live:=ts) (k:=fun b=>k ((t,Aw2 sf t)::b)) (AE3 h)
structure NextX {ι:Type} (P:Program) (N n:Nat) (F:ι→SF) (H:ι→Hp) (ok:ι→Prop) (m:ι→Nat) (i:ι) (sf:SF) (h:Hp):Prop where
 out:∃ (j:ι) (l:List (Nat × Nat)),ok j∧m j < m i∧Ae2 N l=true∧WeakX P l n sf h (F j) (H j)
def nextK {ι:Type} (P:Program) (N n:Nat) (F:ι→SF) (H:ι→Hp) (ok:ι→Prop) (m:ι→Nat) (i:ι) (K:Exit→SF→Hp→Prop) (e:Exit) (sf:SF) (h:Hp):Prop:=match e with
 | .normal=>NextX P N n F H ok m i sf h
 | e=>K e sf h
theorem D8 {ι:Type} {N:Nat} {F:ι→SF} {H:ι→Hp} {ok:ι→Prop} {m:ι→Nat} {i:ι} {sf:SF} {h:Hp} (j:ι) (l:List (Nat × Nat)) (h1:ok j) (h2:m j < m i) (h3:Ae2 N l=true) (hw:WeakX P l n sf h (F j) (H j)):NextX P N n F H ok m i sf h:=⟨j,l,h1,h2,h3,hw⟩
theorem H9 {ι:Type} {rd:Option Nat} {N:Nat} {c:ACode} {K:Exit→SF→Hp→Prop} {sf:SF} {h:Hp} (live:List Nat) (ups:ι→SF) (H:ι→Hp) (ok:ι→Prop) (m:ι→Nat) (i0:ι) (l:List (Nat × Nat)) (hk:Ae2 N l=true) (hN:∀ i,N≤(H i).next) (h0:ok i0)
  (hw:keepK live sf fun b=>WeakX P l n sf h (ups i0++b) (H i0)) (hr:keepK live sf fun b=>∀ i,ok i→AK4 P G rd N n c (nextK P N n (fun i=>ups i++b) H ok m i K) (ups i++b) (H i)):AK4 P G rd N n (.loop c) K sf h:=by
 have hw:=Ai8 hw
 have hr:=Ai8 hr
 refine ⟨fun Q hQ h1 q=>loop_ix (fun i=>sd n (ups i++keepF live sf)) H ok m i0 l hk hN h0 (q.weak hw.out) fun i hi=>?_⟩
 refine (hr i hi).out _ (fun e sf' hx hk' h' q'=>?_) _ .refl
 cases e<;>try exact hQ _ _ _ hk' _ q'
 obtain ⟨j,l',k1,k2,k3,k4⟩:=hk'.out
 exact ⟨j,l',k1,k2,An1 k3,q'.weak k4.out⟩
theorem wko_own {α:Type} {f:α→List AV} {L:List α} {σ:Nat→Nat} {h h':Hp} {i:Nat} (hi:i < h'.next) (hp:∀ c,∀ x ∈ f c,Plain x) (hs:AG8 σ h h') (hl:L.length ≠ 0→lk h.l (σ i)=some (.cells (flat f L))):WkO P σ h h' (AE8 i f L):=by
 by_cases hz:L.length=0
 ·rw [AT7 hz];exact J8
 ·rw [AM8 hz];exact F5 hs hi (hl hz) rfl (K7 hp) J8
theorem Ap1 {σ:Nat→Nat} {h h':Hp} {i sz m:Nat} (e:m=0):WkV P σ h h' .nils (AN9 i sz m):=by
 subst e;exact fun _ _ _ _ hr=>RR_nils.2 (RR_nils.1 hr)
theorem Ag7 {σ:Nat→Nat} {h h':Hp}:∀ {l r:List (Nat × AObj)},WkO P σ h h' l→WkO P σ h h' r→WkO P σ h h' (l++r)
 | [],_,_,hr=>hr
 | (_,.cells _)::l,r,⟨h1,h2,h3⟩,hr=>⟨h1,h2,Ag7 h3 hr⟩
 | (_,.loop ..)::l,r,⟨h1,h2,h3⟩,hr=>⟨h1,h2,Ag7 h3 hr⟩
 | (_,.maps _)::l,r,⟨h1,h2,h3⟩,hr=>⟨h1,h2,Ag7 h3 hr⟩
theorem AR1 {α:Type} {f:α→List AV} {L:List α} {i j:Nat} {o:AObj} (h:lk (AE8 i f L) j=some o):j=i∧L.length ≠ 0:=by
 by_cases hz:L.length=0
 ·rw [AT7 hz] at h;cases h
 ·rw [AM8 hz] at h
  simp only [lk] at h
  split at h
  ·rename_i e;exact ⟨e,hz⟩
  ·cases h
theorem As4 {α:Type} {f:α→List AV} {L:List α} {i j:Nat} {o:AObj}:∀ {l0:List (Nat × AObj)},lk (l0++AE8 i f L) j=some o→∃ o',lk (l0++[(i,AObj.cells [])]) j=some o'
 | [],hj=>by
  obtain ⟨rfl,_⟩:=AR1 hj
  exact ⟨.cells [],by simp [lk]⟩
 | (q,x)::l0,hj=>by
  simp only [List.cons_append,lk] at hj ⊢
  split
  ·exact ⟨_,rfl⟩
  ·rename_i e;rw [if_neg e] at hj;exact As4 hj
theorem Ap4 {α:Type} {f:α→List AV} {L:List α} {ren:List (Nat × Nat)} {sf sf':SF} {h:Hp} {l0:List (Nat × AObj)} {i nx:Nat} (h1:Aa8 ((l0.map fun p=>rn ren p.1)++[rn ren i])=true) (h2:subB (rn ren) h.l l0=true) (h3:L.length ≠ 0→lk h.l (rn ren i)=some (.cells (flat f L))) (h4:Nat.blt i nx=true) (hp:∀ c,∀ x ∈ f c,Plain x)
  (hf:AG8 (rn ren) h ⟨l0++AE8 i f L,nx⟩→WkF P (rn ren) h ⟨l0++AE8 i f L,nx⟩ sf sf') (ho:AG8 (rn ren) h ⟨l0++AE8 i f L,nx⟩→WkO P (rn ren) h ⟨l0++AE8 i f L,nx⟩ l0):WeakX P ren n sf h sf' ⟨l0++AE8 i f L,nx⟩:=by
 have hs:AG8 (rn ren) h ⟨l0++AE8 i f L,nx⟩:=fun j o hj=>by
  rcases Al3 hj with hj|hj
  ·exact Aa4 (h:=h) (h':=⟨l0,nx⟩) h2 j o hj
  ·obtain ⟨rfl,hz⟩:=AR1 hj;exact ⟨_,h3 hz⟩
 have h5:BH0 (rn ren) (l0++[(i,.cells [])]):=P6 (by simpa using h1)
 have h6:BH0 (rn ren) (l0++AE8 i f L):=fun a b o o' ha hb e=>by
  obtain ⟨_,ha⟩:=As4 ha
  obtain ⟨_,hb⟩:=As4 hb
  exact h5 a b _ _ ha hb e
 exact ⟨Ap3 h6 (AL8 (o9 (hf hs))) (Ag7 (ho hs) (wko_own (Av4 h4) hp hs h3))⟩
theorem BH8 {ren:List (Nat × Nat)} {sf sf':SF} {h h':Hp} (hi:BH0 (rn ren) h'.l) (hs:AG8 (rn ren) h h') (hf:AG8 (rn ren) h h'→WkF P (rn ren) h h' sf sf') (ho:AG8 (rn ren) h h'→WkO P (rn ren) h h' h'.l):WeakX P ren n sf h sf' h':=weak_x hi (hf hs) (ho hs)
theorem Ac0 {σ:Nat→Nat} {h h':Hp} {i j sz a b:Nat} (e:σ i=j) (hi:i < h'.next) (h0:a ≠ 0) (hab:a=b):WkV P σ h h' (.sl j 0 a a sz) (AN9 i sz b):=by
 subst hab;rw [AZ0 h0];exact AE9 e hi rfl (Nat.le_refl _) (Nat.le_refl _)
end
end Go.Am
namespace Go.Am
section
variable {P:Program} {G:Gl} {n:Nat}
def AJ5 (ns:List Nat):List (Nat × AObj)→(List (Nat × AObj)→Prop)→Prop
 | [],k=>k []
 | (j,o)::r,k=>bif ns.contains j then AJ5 ns r k else AJ5 ns r fun r'=>k ((j,o)::r')
theorem Aj3 {ns:List Nat}:∀ {l:List (Nat × AObj)} {k:List (Nat × AObj)→Prop},AJ5 ns l k→k (l.filter fun q=>!ns.contains q.1)
 | [],k,h=>h
 | (j,o)::r,k,h=>by
  simp only [AJ5] at h
  simp only [List.filter_cons]
  cases e:ns.contains j with
  | true=>rw [e] at h;simpa using Aj3 (l:=r) h
  | false=>rw [e] at h;simpa using Aj3 (l:=r) (k:=fun r'=>k ((j,o)::r')) h
theorem An7 {α:Type} {f:α→List AV} {L:List α} {i:Nat} {ns:List Nat} {k:List (Nat × AObj)→Prop} (hi:ns.contains i=false) (h:k (AE8 i f L)):AJ5 ns (AE8 i f L) k:=by
 by_cases hz:L.length=0
 ·rw [AT7 hz] at h ⊢;exact h
 ·rw [AM8 hz] at h ⊢;simp only [AJ5,hi];exact h
theorem lk_app2 {l r:List (Nat × AObj)} (h:∀ i o o',lk l i=some o→lk r i=some o'→False):lk (l++r)=lk (r++l):=by
 have e:∀ (l r:List (Nat × AObj)) i,lk (l++r) i=(lk l i).or (lk r i):=by
  intro l r i
  induction l with
  | nil=>rfl
  | cons p l ih =>
   obtain ⟨j,o⟩:=p
   simp only [List.cons_append,lk]
   split
   ·rfl
   ·exact ih
 funext i
 rw [e,e]
 cases h1:lk l i with
 | none=>simp
 | some o =>
  cases h2:lk r i with
  | none=>simp
  | some o'=>exact (h i o o' h1 h2).elim
theorem AG2 {f m:Nat} {fs cs args args0:List AV} {l0 lr l1 l:List (Nat × AObj)} {nx:Nat} {r r':AV} {K:AV→Hp→Prop} (ns:List Nat) (hc:AT8 P G f args0 l0 ns.length fun x h1=>x=r∧h1=⟨lr,m⟩) (hGp:AX2 G) (hd:Aa8 ns=true) (hl0:Given (enter ns) ⟨l,nx⟩ l0)
  (ha:RnL (enter ns) (fs++args++cs) args0) (hlt:∀ n ∈ ns,n < nx) (hr:RnV (back ns nx) r r') (hS:RnS (back ns nx) lr l1) (hk:AJ5 ns l fun l2=>K r' ⟨l1++l2,nx+(m - ns.length)⟩):AG9 P G (.fn f fs cs) args ⟨l,nx⟩ K:=by
 have hk:=Aj3 hk
 refine ⟨fun c u vs hR hG hm hu hargs=>?_⟩
 refine callV_loc (h:=⟨l,nx⟩) (K:=fun v h'=>∃ hx,Hq h' hx∧K v hx) ns hc hGp hd hl0 ha hlt ?_ c u vs hR hG hm hu hargs
 rintro x h1 ⟨rfl,rfl⟩
 refine ⟨r',l1,hr,hS,⟨l1++l.filter (fun q=>!ns.contains q.1),nx+(m - ns.length)⟩,⟨?_,rfl⟩,hk⟩
 show lk (l.filter (fun q=>!ns.contains q.1)++l1)=lk (l1++l.filter fun q=>!ns.contains q.1)
 refine lk_app2 fun i o o' h1 h2=>?_
 obtain ⟨q1,q2⟩:=Ae1 h1
 have hlt:i < nx:=(hm.U i).1 (hR.used i o (by rw [hm.at_];exact q2))
 obtain ⟨i',cs,q3,_⟩:=hS.spec BG5 h2
 unfold back at q3
 split at q3
 ·rename_i e;subst q3;exact q1 (List.mem_of_getElem? e)
 ·omega
theorem AA1 {α:Type} {f:α→List AV} {L l2:List α} {l:List (Nat × AObj)} {nx sz bytes d m:Nat} {x:AV} {src:List AV} {rd:List Nat} {k:AV→Up→List Nat→Prop} (hf:∀ x,(f x).length=sz) (hs:Ak4 (lk l) sz x=some (src,m,rd)) (hl:L.length ≠ 0→lk l d=some (.cells (flat f L))) (hsrc:src=flat f l2) (h0:0 < m) (hb:(L.length+m) * bytes≤140737488355328∧L.length+m≤1000000000000)
  (hk1:L.length=0→k (.sl nx 0 (L.length+m) (L.length+m) sz) [(nx,some (.cells (flat f (L++l2))))] rd) (hk2:L.length ≠ 0→k (.sl nx 0 (L.length+m) (L.length+m) sz) [(d,none),(nx,some (.cells (flat f (L++l2))))] (d::rd)):AppX l nx sz bytes (AN9 d sz L.length) x k:=by
 have h:=appV_own (nx:=nx) hf hs hl hsrc h0 hb
 by_cases hz:L.length=0
 ·rw [if_pos hz] at h;exact ⟨_,_,_,h,hk1 hz⟩
 ·rw [if_neg hz] at h;exact ⟨_,_,_,h,hk2 hz⟩
structure RgX (l n:Nat) (sf:SF) (K:Exit→SF→Hp→Prop) (h2:Hp):Prop where
 out:∀ Q:Exit→List AV→Hp→Prop,(∀ e sf hx,K e sf hx→∀ h,Hq h hx→Q e (sd n sf) h)→∀ h,Hq h h2→rangeQ l (sd n sf) Q h
theorem BK2 {h:Hp} {l l':List (Nat × AObj)} {nx i:Nat} {o:AObj} (q:Hq h ⟨l,nx⟩) (e:lk l'=upd (lk l) [(i,some o)]):Hq ⟨put h.l i (some o),h.next⟩ ⟨l',nx⟩:=⟨by
 show lk (put h.l i (some o))=lk l'
 rw [BM1,e,show lk h.l=lk l from q.lk],q.next⟩
section
variable {l nx i:Nat} {sf:SF} {K:Exit→SF→Hp→Prop} {lh:List (Nat × AObj)} {fr':List AV} {ps:List Nat} {as bd:ACode} {st:LoopState}
theorem AH2 (hl:lk lh l=some (.loop .ready none fr' ps as bd)) (hk:repK lh l (.loop .exhausted none fr' ps as bd) fun l'=>K .normal sf ⟨l',nx⟩):RgX l n sf K ⟨lh,nx⟩:=by
 obtain ⟨l',h1,h2⟩:=AM3 hk
 exact ⟨fun Q hQ h q=>⟨.ready,none,fr',ps,as,bd,by rw [q.lk];exact hl,(fun e=>by cases e),hQ _ _ _ h2 _ (BK2 q h1)⟩⟩
theorem rg_ret (hl:lk lh l=some (.loop .done (some .ret) fr' ps as bd)) (hk:repK lh l (.loop .exhausted (some .ret) fr' ps as bd) fun l'=>K .ret sf ⟨l',nx⟩):RgX l n sf K ⟨lh,nx⟩:=by
 obtain ⟨l',h1,h2⟩:=AM3 hk
 exact ⟨fun Q hQ h q=>⟨.done,_,fr',ps,as,bd,by rw [q.lk];exact hl,(fun e=>by cases e),hQ _ _ _ h2 _ (BK2 q h1)⟩⟩
end
theorem AS1 {rd:Option Nat} {g n' nx:Nat} {fs cs:List AV} {ps:List Nat} {as bd ac:ACode} {rs:List ARes} {K:Exit→SF→Hp→Prop} {sf:SF} {l:List (Nat × AObj)} (D9:P.follows .mixedOrders=true) (hb:Body P g ac rs n') (hn:Nat.ble (fs++[AV.yld nx]++cs).length n'=true) (hin:inLoop ⟨l,nx⟩ rd)
  (hw:∀ frl asl bdl,frl=sd n sf→asl=as→bdl=bd→enumK 0 (fs++[AV.yld nx]++cs) fun sf'=>AK4 P G none (nx+1) n' ac (endK n' false P rs (nx+1) fun _ h2=>RgX nx n sf K h2) sf' ⟨(nx,.loop .ready none frl ps asl bdl)::l,nx+1⟩):RangeX P G rd n (.fn g fs cs) ps as bd K sf ⟨l,nx⟩:=by
 refine ⟨g,fs,cs,rfl,hb.ok,hin,fun Q hQ=>BA7 D9 hb ?_⟩
 rw [BC3 (Nat.le_of_ble_eq_true hn)]
 exact (AR4 (hw _ _ _ rfl rfl rfl)).out _ (fun e sf' hx hk h q=>Af5 (BO0 (fun v h' hk=>hk.out Q hQ h' .refl) hk) q) _ .refl
def psK:SF→List Nat→List AV→(SF→Prop)→Prop
 | sf,t::ts,x::xs,k=>psK ((t,x)::sf) ts xs k
 | sf,_,_,k=>k sf
theorem psK_spec:∀ {ts:List Nat} {xs:List AV} {sf:SF} {k:SF→Prop},psK sf ts xs k→∃ sf',Ax0 (sd n sf) ts xs=sd n sf'∧k sf'
 | [],[],sf,k,h=>⟨sf,rfl,h⟩
 | [],_::_,sf,k,h=>⟨sf,rfl,h⟩
 | _::_,[],sf,k,h=>⟨sf,rfl,h⟩
 | t::ts,x::xs,sf,k,h=>by
  obtain ⟨sf',h1,h2⟩:=psK_spec (ts:=ts) (xs:=xs) h
  exact ⟨sf',by rw [← h1,Ax0,sd_set],h2⟩
structure RdX (l:Nat) (K:AV→Hp→Prop) (e:Exit) (h:Hp):Prop where
 out:∀ fr h',Hq h' h→roundQ l (fun v h'=>∃ hx,Hq h' hx∧K v hx) e fr h'
def rdK (l:Nat) (K:AV→Hp→Prop) (e:Exit) (_:SF) (h:Hp):Prop:=RdX l K e h
structure AsX (P:Program) (G:Gl) (l N n:Nat) (bd:ACode) (K:AV→Hp→Prop) (sf1:SF) (h1:Hp):Prop where
 out:∀ h,Hq h h1→assignQ P G l N bd (fun v h'=>∃ hx,Hq h' hx∧K v hx) .normal (sd n sf1) h
def asK (P:Program) (G:Gl) (l N n:Nat) (bd:ACode) (K:AV→Hp→Prop) (e:Exit) (sf1:SF) (h1:Hp):Prop:=match e with
 | .normal=>AsX P G l N n bd K sf1 h1
 | _=>False
theorem cx_yld {l nx:Nat} {lh:List (Nat × AObj)} {pend:Option Code} {frl:List AV} {sf:SF} {ps:List Nat} {as bd:ACode} {args:List AV} {K:AV→Hp→Prop} (D9:P.follows .mixedOrders=true) (hl:lk lh l=some (.loop .ready pend frl ps as bd)) (hF:frl=sd n sf) (hlen:args.length=ps.length)
  (hw:psK sf ps args fun sf1=>AK4 P G (some l) nx n as (asK P G l nx n bd K) sf1 ⟨lh,nx⟩):AG9 P G (.yld l) args ⟨lh,nx⟩ K:=by
 subst hF
 obtain ⟨sf1,h1,h2⟩:=psK_spec (n:=n) hw
 refine ⟨callV_yld D9 hl hlen ?_⟩
 rw [h1]
 refine h2.out _ (fun e sf' hx hk h q=>?_) _ .refl
 cases e<;>first|exact hk.out h q|exact hk.elim
theorem AT2 {l nx:Nat} {lh:List (Nat × AObj)} {pend:Option Code} {frl:List AV} {sf:SF} {ps:List Nat} {asl bdl as bd:ACode} {args:List AV} {K:AV→Hp→Prop} (D9:P.follows .mixedOrders=true) (hl:lk lh l=some (.loop .ready pend frl ps asl bdl)) (hF:frl=sd n sf) (hA:asl=as) (hB:bdl=bd) (hlen:args.length=ps.length)
  (hw:psK sf ps args fun sf1=>AK4 P G (some l) nx n as (asK P G l nx n bd K) sf1 ⟨lh,nx⟩):AG9 P G (.yld l) args ⟨lh,nx⟩ K:=by
 subst hA;subst hB
 exact cx_yld D9 hl hF hlen hw
section
variable {l nx N:Nat} {lh:List (Nat × AObj)} {pend:Option Code} {fr:List AV} {ps:List Nat} {as bd bd':ACode} {K:AV→Hp→Prop} {sf1:SF}
theorem AU2 (hl:lk lh l=some (.loop .ready pend fr ps as bd')) (hw:repK lh l (.loop .busy pend fr ps as bd') fun l'=>AK4 P G (some l) N n bd (rdK l K) sf1 ⟨l',nx⟩):AsX P G l N n bd K sf1 ⟨lh,nx⟩:=by
 obtain ⟨l',h1,h2⟩:=AM3 hw
 refine ⟨fun h q=>⟨rfl,pend,fr,ps,as,bd',by rw [q.lk];exact hl,?_⟩⟩
 exact h2.out _ (fun e sf' hx hk h' q'=>hk.out _ h' q') _ (BK2 q h1)
theorem AT9 (hl:lk lh l=some (.loop .busy pend fr ps as bd)) (hw:repK lh l (.loop .ready none fr ps as bd) fun l'=>K (.bool true) ⟨l',nx⟩):RdX l K .normal ⟨lh,nx⟩:=by
 obtain ⟨l',h1,h2⟩:=AM3 hw
 exact ⟨fun _ h q=>⟨pend,fr,ps,as,bd,by rw [q.lk];exact hl,_,BK2 q h1,h2⟩⟩
theorem rd_ret (hl:lk lh l=some (.loop .busy pend fr ps as bd)) (hw:repK lh l (.loop .done (some .ret) fr ps as bd) fun l'=>K (.bool false) ⟨l',nx⟩):RdX l K .ret ⟨lh,nx⟩:=by
 obtain ⟨l',h1,h2⟩:=AM3 hw
 exact ⟨fun _ h q=>⟨pend,fr,ps,as,bd,by rw [q.lk];exact hl,_,BK2 q h1,h2⟩⟩
end
end
end Go.Am
namespace Go.Am
section
variable {P:Program} {G:Gl}
def BB4 (l:List (Nat × AObj)):Up:=l.map fun q=>(q.1,some q.2)
theorem upd_ups {at_:At} {j:Nat}:∀ {l:List (Nat × AObj)},upd at_ (BB4 l) j=match lk l j with|some o=>some o|none=>at_ j
 | []=>rfl
 | (i,o)::l=>by
  simp only [BB4,List.map_cons,upd,lk]
  by_cases e:i=j
  ·subst e;simp
  ·rw [if_neg (fun h=>e h.symm),if_neg (fun h=>e h.symm)];exact upd_ups
inductive GivenA (p:Nat→Nat→Prop) (at_:At):List (Nat × AObj)→Prop where
 | nil:GivenA p at_ []
 | cons {i j:Nat} {cs ds:List AV} {l:List (Nat × AObj)} (hp:p i j) (hi:at_ i=some (.cells cs)) (hc:RnL p cs ds) (t:GivenA p at_ l):GivenA p at_ ((j,.cells ds)::l)
 | maps {i j:Nat} {es:List (AV × AV)} {l:List (Nat × AObj)} (hp:p i j) (hi:at_ i=some (.maps es)) (hc:MapP es) (t:GivenA p at_ l):GivenA p at_ ((j,.maps es)::l)
theorem GivenA.spec {p:Nat→Nat→Prop} {at_:At}:∀ {l:List (Nat × AObj)} {j:Nat} {o:AObj},GivenA p at_ l→lk l j=some o→∃ i cs,p i j∧at_ i=some cs∧RnO p cs o
 | _,j,o,.nil,hl=>by cases hl
 | _,j,o,.cons hp hi hc t,hl=>by
  simp only [lk] at hl
  split at hl
  ·rename_i e;subst e;cases hl;exact ⟨_,_,hp,hi,.cells hc⟩
  ·exact t.spec hl
 | _,j,o,.maps hp hi hc t,hl=>by
  simp only [lk] at hl
  split at hl
  ·rename_i e;subst e;cases hl;exact ⟨_,_,hp,hi,.maps hc⟩
  ·exact t.spec hl
def S9 (ns:List Nat) (i j:Nat):Prop:=ns[i]? = some j
theorem BA2 {ns:List Nat}:∀ i j j',S9 ns i j→S9 ns i j'→j=j':=fun i j j' h h'=>by
 unfold S9 at h h';rw [h] at h';exact Option.some.inj h'
theorem fnU_loc {f:Nat} {args args0:List AV} {l0 lr l1:List (Nat × AObj)} {r r':AV} {at_:At} {id:Nat} (ns:List Nat) (hc:AT8 P G f args0 l0 ns.length fun x h1=>x=r∧h1=⟨lr,ns.length⟩) (hGp:AX2 G) (hd:Aa8 ns=true) (hl0:GivenA (enter ns) at_ l0) (hid1:id ∉ l1.map (·.1)) (hall:∀ n ∈ ns,∃ o,lk l1 n=some o)
  (hin:∀ (j n:Nat),ns[j]? = some n→∃ o,lk l0 j=some o) (ha:RnL (enter ns) args args0) (hr:RnV (S9 ns) r r') (hS:RnS (S9 ns) lr l1):FnU P G f args ns at_ r' (BB4 l1) id:=by
 refine ⟨hc.1,fun c vs hR hG hid hat hargs=>?_⟩
 let c0:Cx:={ U:=fun i=>i < ns.length,at_:=lk l0,mu:=fun i=>c.mu (ns.getD i 0),w:=c.w,hid:=fun b=>c.hid b∨∃ id o,c.at_ id=some o∧id ∉ ns∧(c.mu id).1=b }
 have getD_:∀ {j n},ns[j]? = some n→ns.getD j 0=n:=fun {j n} e=>by simp [List.getD_eq_getElem?_getD,e]
 have hlt':∀ {j n},ns[j]? = some n→j < ns.length:=fun {j n} e=>(List.getElem?_eq_some_iff.1 e).1
 have spec0:∀ j o,lk l0 j=some o→∃ i cs,ns[j]? = some i∧c.at_ i=some cs∧RnO (enter ns) cs o:=fun j o ho=>by
  obtain ⟨i,cs,k1,k2,k4⟩:=hl0.spec ho
  exact ⟨i,cs,k1,(hat i (List.mem_of_getElem? k1)).trans k2,k4⟩
 have sub0:Sub (enter ns) c c0:=by
  refine ⟨fun i j (hij:ns[j]? = some i) _=>⟨hlt' hij,by show c.mu (ns.getD j 0)=_;rw [getD_ hij]⟩,rfl,fun b hb=>⟨hb.1,fun j o ho=>?_,fun hh=>hh.elim hb.3 fun ⟨i,o,ho,_,e⟩=>hb.2 i o ho e⟩⟩
  obtain ⟨i,cs,k1,k2,_⟩:=spec0 j o ho
  show (c.mu (ns.getD j 0)).1 ≠ b
  rw [getD_ k1];exact hb.2 i _ k2
 have hR0:Rel P c0:=by
  refine ⟨fun j o ho=>?_,fun j j' o o' ho ho' e=>?_,fun j o ho=>?_,⟨ns.length,fun i hi=>hi⟩,fun j o ho hh=>?_,fun b hb=>hb.elim (hR.hidlt b) fun ⟨i,o,ho,_,e⟩=>e▸(hR.obj i o ho).lt⟩
  ·obtain ⟨i,cs,k1,_⟩:=spec0 j o ho;exact hlt' k1
  ·obtain ⟨i,cs,k1,k2,_⟩:=spec0 j o ho
   obtain ⟨i',cs',k1',k2',_⟩:=spec0 j' o' ho'
   have e':(c.mu (ns.getD j 0)).1=(c.mu (ns.getD j' 0)).1:=e
   rw [getD_ k1,getD_ k1'] at e'
   have:=hR.inj i i' _ _ k2 k2' e'
   subst this
   exact BD5 hd k1 k1'
  ·obtain ⟨i,cs,k1,k2,k4⟩:=spec0 j o ho
   show BQ3 P c0 (c.mu (ns.getD j 0)) _
   rw [getD_ k1]
   exact k4.obj sub0 (hR.obj i _ k2)
  ·obtain ⟨i,cs,k1,k2,_⟩:=spec0 j o ho
   have hh':c.hid (c.mu (ns.getD j 0)).1∨∃ id o,c.at_ id=some o∧id ∉ ns∧(c.mu id).1=(c.mu (ns.getD j 0)).1:=hh
   rw [getD_ k1] at hh'
   rcases hh' with hh' | ⟨id,o',ho',hn,e⟩
   ·exact hR.nohid i _ k2 hh'
   ·exact hn (hR.inj id i _ _ ho' k2 e▸List.mem_of_getElem? k1)
 have hG0:Aa1 G c0:=fun n cs hn=>C9 (AI2 (hGp n cs hn)) c c0 _ sub0 (hG n cs hn)
 have hm0:Mat c0 ⟨l0,ns.length⟩:=⟨rfl,fun i=>Iff.rfl⟩
 have ha0:AK1 c0 args0 vs:=⟨by rw [hargs.1,ha.spec.1],ha.rcs sub0 hargs.2⟩
 refine (hc.2 c0 _ hR0 hG0 hm0 ha0).mono ?_
 rintro e w' ⟨v,rfl,x,h1,c2,rfl,⟨rfl,rfl⟩,hrv,hR2,hm2,he2⟩
 have hat2:∀ i o,lk lr i=some o→c2.at_ i=some o:=fun i o hi=>by rw [hm2.at_];exact hi
 have hcU:∀ {j n},ns[j]? = some n→c.U n:=fun {j n} e=>by
  obtain ⟨o,ho⟩:=hin j n e
  obtain ⟨i,cs,k1,k2,_⟩:=spec0 j o ho
  rw [e] at k1;cases k1
  exact hR.used _ _ k2
 let c':Cx:={ c with at_:=upd c.at_ (BB4 l1),w:=c2.w }
 have hmuB:∀ i j,S9 ns i j→c2.U i→c'.U j∧c'.mu j=c2.mu i:=fun i j hb hi=>by
  have e:ns[i]? = some j:=hb
  refine ⟨hcU e,?_⟩
  rw [he2.mu i (hlt' e)]
  show c.mu j=c.mu (ns.getD i 0)
  rw [getD_ e]
 have spec1:∀ j o,c'.at_ j=some o→(j ∉ ns∧c.at_ j=some o)∨∃ i cs,S9 ns i j∧c2.at_ i=some cs∧RnO (S9 ns) cs o:=fun j o ho=>by
  have ho':upd c.at_ (BB4 l1) j=some o:=ho
  rw [upd_ups] at ho'
  cases hl:lk l1 j with
  | some o' =>
   rw [hl] at ho';cases ho'
   obtain ⟨i,cs,k1,k2,k4⟩:=hS.spec BA2 hl
   exact .inr ⟨i,cs,k1,hat2 _ _ k2,k4⟩
  | none =>
   rw [hl] at ho'
   refine .inl ⟨fun hj=>?_,ho'⟩
   obtain ⟨o',h'⟩:=hall j hj
   rw [hl] at h';cases h'
 have hidO:∀ j o,j ∉ ns→c.at_ j=some o→c2.hid (c.mu j).1:=fun j o hj ho=>(he2.hid _).2 (.inr ⟨j,o,ho,hj,rfl⟩)
 have hidC:∀ b,c.hid b→c2.hid b:=fun b hb=>(he2.hid b).2 (.inl hb)
 have hfroz:∀ b,c2.Froz b→c'.Froz b:=fun b hb=>by
  refine ⟨hb.1,fun j o ho=>?_,fun hh=>hb.3 (hidC b hh)⟩
  rcases spec1 j o ho with ⟨k1,k2⟩ | ⟨i,cs,k1,k2,_⟩
  ·exact fun e=>hb.3 (e▸hidO j o k1 k2)
  ·rw [(hmuB i j k1 (hR2.used i _ k2)).2];exact hb.2 i _ k2
 have sub1:Sub (S9 ns) c2 c':=⟨hmuB,rfl,hfroz⟩
 have he:Ext c c':=by
  refine ⟨fun i hi=>hi,fun i hi=>rfl,he2.csz,fun b hb=>?_,he2.size,fun _=>Iff.rfl,fun b hb=>he2.hidh b (.inl hb),he2.env⟩
  have k:=he2.froz b (sub0.froz b hb)
  exact ⟨hfroz b k.1,k.2⟩
 refine ⟨v,c',rfl,rfl,hr c2 c' v sub1 hrv,?_,he,rfl,fun i=>?_⟩
 ·refine ⟨fun j o ho=>?_,fun j j' o o' ho ho' e=>?_,fun j o ho=>?_,hR.many,fun j o ho hh=>?_,fun b hb=>Nat.lt_of_lt_of_le (hR.hidlt b hb) he2.size⟩
  ·rcases spec1 j o ho with ⟨k1,k2⟩ | ⟨i,cs,k1,k2,_⟩
   ·exact hR.used j o k2
   ·exact (hmuB i j k1 (hR2.used i _ k2)).1
  ·rcases spec1 j o ho with ⟨k1,k2⟩ | ⟨i,cs,k1,k2,_⟩
   ·rcases spec1 j' o' ho' with ⟨k1',k2'⟩ | ⟨i',cs',k1',k2',_⟩
    ·exact hR.inj j j' _ _ k2 k2' e
    ·rw [(hmuB i' j' k1' (hR2.used i' _ k2')).2] at e
     exact absurd (e▸hidO j o k1 k2) (hR2.nohid i' _ k2')
   ·rcases spec1 j' o' ho' with ⟨k1',k2'⟩ | ⟨i',cs',k1',k2',_⟩
    ·rw [(hmuB i j k1 (hR2.used i _ k2)).2] at e
     exact absurd (e▸hidO j' o' k1' k2') (hR2.nohid i _ k2)
    ·rw [(hmuB i j k1 (hR2.used i _ k2)).2,(hmuB i' j' k1' (hR2.used i' _ k2')).2] at e
     have:=hR2.inj i i' _ _ k2 k2' e
     subst this
     exact BA2 i j j' k1 k1'
  ·rcases spec1 j o ho with ⟨k1,k2⟩ | ⟨i,cs,k1,k2,k4⟩
   ·exact (hR.obj j o k2).ext he (he2.hidh _ (.inr ⟨j,o,k2,k1,rfl⟩))
   ·rw [(hmuB i j k1 (hR2.used i _ k2)).2]
    exact k4.obj sub1 (hR2.obj i _ k2)
  ·rcases spec1 j o ho with ⟨k1,k2⟩ | ⟨i,cs,k1,k2,_⟩
   ·exact hR.nohid j o k2 hh
   ·rw [(hmuB i j k1 (hR2.used i _ k2)).2] at hh;exact hR2.nohid i _ k2 (hidC _ hh)
 ·have : AE0 (BB4 l1) id=[]:=by
   unfold AE0
   rw [if_neg]
   simp only [BB4,List.any_map,List.any_eq_true,Function.comp_apply,beq_iff_eq,not_exists,not_and]
   exact fun q hq e=>hid1 (List.mem_map.2 ⟨q,hq,e⟩)
  rw [this];simp;rfl
theorem Ab3 {f:Nat} {args args0:List AV} {l0 lr l1:List (Nat × AObj)} {r r':AV} {h:Hp} {K:AV→Up→List Nat→Prop} (ns:List Nat) (hc:AT8 P G f args0 l0 ns.length fun x h1=>x=r∧h1=⟨lr,ns.length⟩) (hGp:AX2 G) (hd:Aa8 ns=true) (hl0:GivenA (enter ns) (lk h.l) l0) (hid1:h.next ∉ l1.map (·.1)) (hall:∀ n ∈ ns,∃ o,lk l1 n=some o)
  (hin:∀ (j n:Nat),ns[j]? = some n→∃ o,lk l0 j=some o) (ha:RnL (enter ns) args args0) (hr:RnV (S9 ns) r r') (hS:RnS (S9 ns) lr l1) (hk:K r' (BB4 l1) ns):AP8 P G f args h K:=⟨r',BB4 l1,ns,fnU_loc ns hc hGp hd hl0 hid1 hall hin ha hr hS,hk⟩
end
end Go.Am
namespace Go.Am
structure R7 (p:Prop):Prop where
 out:p
section
variable {p A B qa qb:Prop} {b:Bool}
theorem AO9 [Decidable p] (h:p) (hA:A):BrX (decide p) A B:=Ao5 (decide_eq_true h) hA
theorem AP0 [Decidable p] (h:¬ p) (hB:B):BrX (decide p) A B:=Ao6 (decide_eq_false h) hB
theorem L8 [Decidable p] (hq:R7 ((p→qa)∧(¬ p→qb))) (hA:p→R7 qa→A) (hB:¬ p→R7 qb→B):BrX (decide p) A B:=br_d (fun h=>hA h ⟨hq.out.1 h⟩) fun h=>hB h ⟨hq.out.2 h⟩
theorem L9 (hq:R7 ((b=true→qa)∧(b=false→qb))) (hA:b=true→R7 qa→A) (hB:b=false→R7 qb→B):BrX b A B:=br_b (fun h=>hA h ⟨hq.out.1 h⟩) fun h=>hB h ⟨hq.out.2 h⟩
theorem eqn_q {els:List (List AV)} {K:Bool→Prop} (hq:R7 (qa∧qb)) (hA:R7 qa→K true) (hB:R7 qb→K false):EqnX (.isl els) K:=by
 cases els with
 | nil=>exact ⟨hA ⟨hq.out.1⟩,hB ⟨hq.out.2⟩⟩
 | cons a l=>exact ⟨hB ⟨hq.out.2⟩⟩
theorem eqn_n {K:Bool→Prop} (hq:R7 (qa∧qb)) (hA:R7 qa→K true) (hB:R7 qb→K false):EqnX .nils K:=⟨hA ⟨hq.out.1⟩,hB ⟨hq.out.2⟩⟩
theorem BF5 {el:List AV} {els:List (List AV)} {K:Bool→Prop} (h:K false):EqnX (.isl (el::els)) K:=⟨h⟩
theorem BF4 {α:Type} {f:α→List AV} {x:α} {l:List α} {K:Bool→Prop} (h:K false):EqnX (.isl ((x::l).map f)) K:=⟨h⟩
theorem eqn_sl {id off len cp sz:Nat} {K:Bool→Prop} (h:K false):EqnX (.sl id off len cp sz) K:=⟨h⟩
end
theorem plw {p:Prop} (h:p:=by ((first|assumption|exact A8|exact A9|exact Ar3|exact AA6|exact AI1|exact plain_nilf|exact plain_str|fail);first|done|fail)):p:=h
theorem prx {p:Prop} (h:p:=by ((repeat' (first|exact plain_all0|refine plain_all2 ?_ ?_|exact A8|exact plx|fail));first|done|fail)):p:=h
theorem ppw {p:Prop} (h:p:=by ((first|with_reducible apply BL0 (fun _=>A8)|with_reducible apply BL0 (fun _=>A9)|exact prx|fail);first|done|fail)):p:=h
theorem Al7 {p:Prop} (h:p:=by ((first|exact Ab9|exact K8 (by first|rfl|omega|(dsimp only;omega))|exact AD0 rfl|exact R4 rfl (by first|decide|simp|omega)|exact AE9 rfl (by first|decide|simp|omega) (by first|rfl|omega|simp) (by first|omega|simp) (by first|omega|simp)|exact BH7 rfl (by first|decide|simp|omega)|exact Ap1 (by first|rfl|simp)|exact Ac0 rfl (by first|decide|omega|(simp;done)) (by first|omega|(simp;done)) (by first|rfl|omega|(simp;done)|(simp;omega))|exact M8 hs plx|(with_reducible refine wk_fn ?_ ?_<;>repeat' (first|with_reducible exact F8|with_reducible refine C8 ?_ ?_|exact R4 rfl (by first|decide|simp|omega)))|(with_reducible refine AE2 ?_;repeat' (first|with_reducible exact F8|with_reducible refine C8 ?_ ?_|exact K8 (by first|rfl|omega|(dsimp only;omega))|exact AD0 rfl))|exact BH6 rfl (by first|decide|simp|omega)|fail);first|done|fail)):p:=h
theorem Al6 {p:Prop} (h:p:=by ((first|exact Ab9|exact K8 (by first|rfl|omega|(dsimp only;omega))|exact AD0 rfl|exact R4 rfl (by first|decide|simp|omega)|exact wk_map rfl (by first|decide|simp|omega)|exact AE9 rfl (by first|decide|simp|omega) (by first|rfl|omega|simp) (by first|omega|simp) (by first|omega|simp)|exact BH7 rfl (by first|decide|simp|omega)|exact Ap1 (by first|rfl|simp)|exact Ac0 rfl (by first|decide|omega|(simp;done)) (by first|omega|(simp;done)) (by first|rfl|omega|(simp;done)|(simp;omega))|exact M8 hs plx|(with_reducible refine wk_fn ?_ ?_<;>repeat' (first|with_reducible exact F8|with_reducible refine C8 ?_ ?_|exact R4 rfl (by first|decide|simp|omega)))|(with_reducible refine AE2 ?_;repeat' (first|with_reducible exact F8|with_reducible refine C8 ?_ ?_|exact K8 (by first|rfl|omega|(dsimp only;omega))|exact AD0 rfl))|exact BH6 rfl (by first|decide|simp|omega)|(with_reducible refine AH0 ?_;repeat' (first|with_reducible exact F8|with_reducible refine C8 ?_ ?_|exact K8 (by first|rfl|omega|(dsimp only;omega))|exact AD0 rfl|exact R4 rfl (by first|decide|simp|omega)))|fail);first|done|fail)):p:=h
theorem wvxQ2 {p:Prop} (h:p:=by ((first|exact Ab9|exact K8 (by first|rfl|omega|(dsimp only;omega))|exact AD0 rfl|exact R4 rfl (by first|decide|simp|omega)|exact AE9 rfl (by first|decide|simp|omega) (by first|rfl|omega|simp) (by first|omega|simp) (by first|omega|simp)|exact wk_frz5 hs rfl (by omega) not5|exact wk_frz6 hs hnil rfl not5|exact BH7 rfl (by first|decide|simp|omega)|exact Ap1 (by first|rfl|simp)|exact Ac0 rfl (by first|decide|omega|(simp;done)) (by first|omega|(simp;done)) (by first|rfl|omega|(simp;done)|(simp;omega))|exact M8 hs plx|(with_reducible refine wk_fn ?_ ?_<;>repeat' (first|with_reducible exact F8|with_reducible refine C8 ?_ ?_|exact R4 rfl (by first|decide|simp|omega)))|(with_reducible refine AE2 ?_;repeat' (first|with_reducible exact F8|with_reducible refine C8 ?_ ?_|exact K8 (by first|rfl|omega|(dsimp only;omega))|exact AD0 rfl))|exact BH6 rfl (by first|decide|simp|omega)|fail);first|done|fail)):p:=h
theorem wvxQ3 {p:Prop} (h:p:=by ((first|exact Ab9|exact K8 (by first|rfl|omega|(dsimp only;omega))|exact AD0 rfl|exact R4 rfl (by first|decide|simp|omega)|exact AE9 rfl (by first|decide|simp|omega) (by first|rfl|omega|simp) (by first|omega|simp) (by first|omega|simp)|exact wk_frzW (fun hz=>by simp [lk,G5 hz]) not3 hs|exact BH7 rfl (by first|decide|simp|omega)|exact Ap1 (by first|rfl|simp)|exact Ac0 rfl (by first|decide|omega|(simp;done)) (by first|omega|(simp;done)) (by first|rfl|omega|(simp;done)|(simp;omega))|exact M8 hs plx|(with_reducible refine wk_fn ?_ ?_<;>repeat' (first|with_reducible exact F8|with_reducible refine C8 ?_ ?_|exact R4 rfl (by first|decide|simp|omega)))|(with_reducible refine AE2 ?_;repeat' (first|with_reducible exact F8|with_reducible refine C8 ?_ ?_|exact K8 (by first|rfl|omega|(dsimp only;omega))|exact AD0 rfl))|exact BH6 rfl (by first|decide|simp|omega)|fail);first|done|fail)):p:=h
theorem wvxQ4 {p:Prop} (h:p:=by ((first|exact Ab9|exact K8 (by first|rfl|omega|(dsimp only;omega))|exact AD0 rfl|exact R4 rfl (by first|decide|simp|omega)|exact AE9 rfl (by first|decide|simp|omega) (by first|rfl|omega|simp) (by first|omega|simp) (by first|omega|simp)|exact BQ9 (by omega) rfl rfl (tl_not (As5 (As5 (As5 lk_nil_in))) rfl) hs|exact wk_sl0|exact BH7 rfl (by first|decide|simp|omega)|exact Ap1 (by first|rfl|simp)|exact Ac0 rfl (by first|decide|omega|(simp;done)) (by first|omega|(simp;done)) (by first|rfl|omega|(simp;done)|(simp;omega))|exact M8 hs plx|(with_reducible refine wk_fn ?_ ?_<;>repeat' (first|with_reducible exact F8|with_reducible refine C8 ?_ ?_|exact R4 rfl (by first|decide|simp|omega)))|(with_reducible refine AE2 ?_;repeat' (first|with_reducible exact F8|with_reducible refine C8 ?_ ?_|exact K8 (by first|rfl|omega|(dsimp only;omega))|exact AD0 rfl))|exact BH6 rfl (by first|decide|simp|omega)|fail);first|done|fail)):p:=h
theorem R3 {p:Prop} (h:p:=by (refine BH8 (by exact P6 rfl) (by exact Aa4 rfl) (by intro hs;(repeat' ((try (conv=>whnf));first|with_reducible exact True.intro|with_reducible refine And.intro ?_ ?_|(with_reducible refine WkX.mk ?_;first|exact Al7|fail)))) (by intro hs;(try dsimp only);(repeat' (first|with_reducible exact J8|refine F5 hs (by first|decide|omega|simp) rfl (by first|rfl) (by (first|exact ppx|fail|((refine plain_app ?_ ?_)<;>(first|exact ppx|fail)))) ?_|refine I4 (by first|decide|omega|simp) rfl (by repeat' (first|with_reducible exact F8|with_reducible refine C8 ?_ ?_|(first|exact Al7|fail))) ?_|refine AD7 (by first|decide|omega|simp) rfl (by ((try subst hF);(try subst hF2);exact AL8 (o9 (by (repeat' ((try (conv=>whnf));first|with_reducible exact True.intro|with_reducible refine And.intro ?_ ?_|(with_reducible refine WkX.mk ?_;first|exact Al7|fail))))))) ?_|exact J8))))):p:=h
theorem Aw8 {p:Prop} (h:p:=by (refine BH8 (by exact P6 rfl) (by exact Aa4 rfl) (by intro hs;(repeat' ((try (conv=>whnf));first|with_reducible exact True.intro|with_reducible refine And.intro ?_ ?_|(with_reducible refine WkX.mk ?_;first|exact K8 (by first|rfl|omega|(dsimp only;omega))|exact AD0 rfl|exact R4 rfl (by first|decide|omega|simp)|exact AE9 rfl (by first|decide|omega|simp) (by first|rfl|omega|simp) (by first|omega|simp) (by first|omega|simp)|exact M8 hs plx)))) (by intro hs;(try dsimp only);(repeat' (first|with_reducible exact J8|refine F5 hs (by first|decide|omega|simp) rfl (by first|rfl) (by (first|exact ppx|fail|((refine plain_app ?_ ?_)<;>(first|exact ppx|fail)))) ?_|refine I4 (by first|decide|omega|simp) rfl (by repeat' (first|with_reducible exact F8|with_reducible refine C8 ?_ ?_|(first|exact K8 (by first|rfl|omega|(dsimp only;omega))|exact AD0 rfl|exact R4 rfl (by first|decide|omega|simp)|exact AE9 rfl (by first|decide|omega|simp) (by first|rfl|omega|simp) (by first|omega|simp) (by first|omega|simp)|exact M8 hs plx))) ?_|exact J8))))):p:=h
theorem wkxQ2 {p:Prop} (h:p:=by (refine BH8 (by exact P6 rfl) (by exact Aa4 rfl) (by intro hs;(repeat' ((try (conv=>whnf));first|with_reducible exact True.intro|with_reducible refine And.intro ?_ ?_|(with_reducible refine WkX.mk ?_;first|exact K8 (by first|rfl|omega|(dsimp only;omega))|exact AD0 rfl|exact R4 rfl (by first|decide|omega|simp)|exact AE9 rfl (by first|decide|omega|simp) (by first|rfl|omega|simp) (by first|omega|simp) (by first|omega|simp)|exact M8 hs plx)))) (by intro hs;(try dsimp only);(repeat' (first|with_reducible exact J8|refine AL7 hs (by first|decide|omega|simp) rfl rfl (by first|decide|omega|simp) rfl (by first|decide|omega|simp) ?_|refine AD6 hs (by first|decide|omega|simp) rfl rfl K3 ?_|refine F5 hs (by first|decide|omega|simp) rfl (by first|rfl) (by (first|exact ppx|fail|((refine plain_app ?_ ?_)<;>(first|exact ppx|fail)))) ?_|refine I4 (by first|decide|omega|simp) rfl (by repeat' (first|with_reducible exact F8|with_reducible refine C8 ?_ ?_|(first|exact K8 (by first|rfl|omega|(dsimp only;omega))|exact AD0 rfl|exact R4 rfl (by first|decide|omega|simp)|exact AE9 rfl (by first|decide|omega|simp) (by first|rfl|omega|simp) (by first|omega|simp) (by first|omega|simp)|exact M8 hs plx))) ?_|exact J8))))):p:=h
theorem wkxQ3 {p:Prop} (h:p:=by (refine Ap4 (by rfl) (by rfl) (fun hz=>by first|exact absurd rfl hz|(simp [lk,G5 hz];done)|exact G5 hz|rfl) (by rfl) (AA3) (by intro hs;(repeat' ((try (conv=>whnf));first|with_reducible exact True.intro|with_reducible refine And.intro ?_ ?_|(with_reducible refine WkX.mk ?_;first|exact Al6|fail)))) (by intro hs;(repeat' (first|with_reducible exact J8|refine AL7 hs (by first|decide|omega|simp) rfl rfl (by first|decide|omega|simp) rfl (by first|decide|omega|simp) ?_|refine AD6 hs (by first|decide|omega|simp) rfl rfl K3 ?_|refine F5 hs (by first|decide|omega|simp) rfl (by first|rfl) (by (first|exact ppx|fail|((refine plain_app ?_ ?_)<;>(first|exact ppx|fail)))) ?_|refine I4 (by first|decide|omega|simp) rfl (by repeat' (first|with_reducible exact F8|with_reducible refine C8 ?_ ?_|(first|exact Al6|fail))) ?_|refine AD7 (by first|decide|omega|simp) rfl (by ((try subst hF);(try subst hF2);exact AL8 (o9 (by (repeat' ((try (conv=>whnf));first|with_reducible exact True.intro|with_reducible refine And.intro ?_ ?_|(with_reducible refine WkX.mk ?_;first|exact Al6|fail))))))) ?_|exact J8))))):p:=h
theorem wkxQ4 {p:Prop} (h:p:=by (refine Ap4 (by rfl) (by rfl) (fun hz=>by first|exact absurd rfl hz|(simp [lk,G5 hz];done)|exact G5 hz|rfl) (by rfl) (AA3) (by intro hs;(repeat' ((try (conv=>whnf));first|with_reducible exact True.intro|with_reducible refine And.intro ?_ ?_|(with_reducible refine WkX.mk ?_;first|exact Al7|fail)))) (by intro hs;(repeat' (first|with_reducible exact J8|refine F5 hs (by first|decide|omega|simp) rfl (by first|rfl) (by (first|exact ppx|fail|((refine plain_app ?_ ?_)<;>(first|exact ppx|fail)))) ?_|refine I4 (by first|decide|omega|simp) rfl (by repeat' (first|with_reducible exact F8|with_reducible refine C8 ?_ ?_|(first|exact Al7|fail))) ?_|refine AD7 (by first|decide|omega|simp) rfl (by ((try subst hF);(try subst hF2);exact AL8 (o9 (by (repeat' ((try (conv=>whnf));first|with_reducible exact True.intro|with_reducible refine And.intro ?_ ?_|(with_reducible refine WkX.mk ?_;first|exact Al7|fail))))))) ?_|exact J8))))):p:=h
theorem V8 {p:Prop} (h:p:=by (refine BH8 (by exact P6 rfl) (by exact Aa4 rfl) (by intro hs;(repeat' ((try (conv=>whnf));first|with_reducible exact True.intro|with_reducible refine And.intro ?_ ?_|(with_reducible refine WkX.mk ?_;first|exact Al6|fail)))) (by intro hs;(try dsimp only);(repeat' (first|with_reducible exact J8|refine AL7 hs (by first|decide|omega|simp) rfl rfl (by first|decide|omega|simp) rfl (by first|decide|omega|simp) ?_|refine AD6 hs (by first|decide|omega|simp) rfl rfl K3 ?_|refine F5 hs (by first|decide|omega|simp) rfl (by first|rfl) (by (first|exact ppx|fail|((refine plain_app ?_ ?_)<;>(first|exact ppx|fail)))) ?_|refine I4 (by first|decide|omega|simp) rfl (by repeat' (first|with_reducible exact F8|with_reducible refine C8 ?_ ?_|(first|exact Al6|fail))) ?_|refine AD7 (by first|decide|omega|simp) rfl (by ((try subst hF);(try subst hF2);exact AL8 (o9 (by (repeat' ((try (conv=>whnf));first|with_reducible exact True.intro|with_reducible refine And.intro ?_ ?_|(with_reducible refine WkX.mk ?_;first|exact Al6|fail))))))) ?_|exact J8))))):p:=h
theorem wkxQ6 {p:Prop} (h:p:=by (refine Ap4 (by rfl) (by rfl) (fun hz=>by first|exact absurd rfl hz|(simp [lk,G5 hz];done)|exact G5 hz|rfl) (by rfl) (AI3) (by intro hs;(repeat' ((try (conv=>whnf));first|with_reducible exact True.intro|with_reducible refine And.intro ?_ ?_|(with_reducible refine WkX.mk ?_;first|exact Al6|fail)))) (by intro hs;(repeat' (first|with_reducible exact J8|refine AL7 hs (by first|decide|omega|simp) rfl rfl (by first|decide|omega|simp) rfl (by first|decide|omega|simp) ?_|refine AD6 hs (by first|decide|omega|simp) rfl rfl K3 ?_|refine F5 hs (by first|decide|omega|simp) rfl (by first|rfl) (by (first|exact ppx|fail|((refine plain_app ?_ ?_)<;>(first|exact ppx|fail)))) ?_|refine I4 (by first|decide|omega|simp) rfl (by repeat' (first|with_reducible exact F8|with_reducible refine C8 ?_ ?_|(first|exact Al6|fail))) ?_|refine AD7 (by first|decide|omega|simp) rfl (by ((try subst hF);(try subst hF2);exact AL8 (o9 (by (repeat' ((try (conv=>whnf));first|with_reducible exact True.intro|with_reducible refine And.intro ?_ ?_|(with_reducible refine WkX.mk ?_;first|exact Al6|fail))))))) ?_|exact J8))))):p:=h
theorem BQ8 {p:Prop} (h:p:=by (refine BH8 (by exact P6 rfl) (by exact Aa4 rfl) (by intro hs;(repeat' ((try (conv=>whnf));first|with_reducible exact True.intro|with_reducible refine And.intro ?_ ?_|(with_reducible refine WkX.mk ?_;first|exact wvxQ2|fail)))) (by intro hs;(try dsimp only);(repeat' (first|with_reducible exact J8|refine F5 hs (by first|decide|omega|simp) rfl (by first|rfl) (by (first|exact ppx|fail|((refine plain_app ?_ ?_)<;>(first|exact ppx|fail)))) ?_|refine I4 (by first|decide|omega|simp) rfl (by repeat' (first|with_reducible exact F8|with_reducible refine C8 ?_ ?_|(first|exact wvxQ2|fail))) ?_|refine AD7 (by first|decide|omega|simp) rfl (by ((try subst hF);(try subst hF2);exact AL8 (o9 (by (repeat' ((try (conv=>whnf));first|with_reducible exact True.intro|with_reducible refine And.intro ?_ ?_|(with_reducible refine WkX.mk ?_;first|exact wvxQ2|fail))))))) ?_|exact J8))))):p:=h
theorem Al8 {p:Prop} (h:p:=by (refine Ap4 (by rfl) (by rfl) (fun hz=>by first|exact absurd rfl hz|(simp [lk,G5 hz];done)|exact G5 hz|rfl) (by rfl) (AE4) (by intro hs;(repeat' ((try (conv=>whnf));first|with_reducible exact True.intro|with_reducible refine And.intro ?_ ?_|(with_reducible refine WkX.mk ?_;first|exact Al6|fail)))) (by intro hs;(repeat' (first|with_reducible exact J8|refine AL7 hs (by first|decide|omega|simp) rfl rfl (by first|decide|omega|simp) rfl (by first|decide|omega|simp) ?_|refine AD6 hs (by first|decide|omega|simp) rfl rfl K3 ?_|refine F5 hs (by first|decide|omega|simp) rfl (by first|rfl) (by (first|exact ppx|fail|((refine plain_app ?_ ?_)<;>(first|exact ppx|fail)))) ?_|refine I4 (by first|decide|omega|simp) rfl (by repeat' (first|with_reducible exact F8|with_reducible refine C8 ?_ ?_|(first|exact Al6|fail))) ?_|refine AD7 (by first|decide|omega|simp) rfl (by ((try subst hF);(try subst hF2);exact AL8 (o9 (by (repeat' ((try (conv=>whnf));first|with_reducible exact True.intro|with_reducible refine And.intro ?_ ?_|(with_reducible refine WkX.mk ?_;first|exact Al6|fail))))))) ?_|exact J8))))):p:=h
theorem wkxQ9 {p:Prop} (h:p:=by (refine Ap4 (by rfl) (by rfl) (fun hz=>by first|exact absurd rfl hz|(simp [lk,G5 hz];done)|exact G5 hz|rfl) (by rfl) (AA3) (by intro hs;(repeat' ((try (conv=>whnf));first|with_reducible exact True.intro|with_reducible refine And.intro ?_ ?_|(with_reducible refine WkX.mk ?_;first|exact wvxQ3|fail)))) (by intro hs;(repeat' (first|with_reducible exact J8|refine F5 hs (by first|decide|omega|simp) rfl (by first|rfl) (by (first|exact ppx|fail|((refine plain_app ?_ ?_)<;>(first|exact ppx|fail)))) ?_|refine I4 (by first|decide|omega|simp) rfl (by repeat' (first|with_reducible exact F8|with_reducible refine C8 ?_ ?_|(first|exact wvxQ3|fail))) ?_|refine AD7 (by first|decide|omega|simp) rfl (by ((try subst hF);(try subst hF2);exact AL8 (o9 (by (repeat' ((try (conv=>whnf));first|with_reducible exact True.intro|with_reducible refine And.intro ?_ ?_|(with_reducible refine WkX.mk ?_;first|exact wvxQ3|fail))))))) ?_|exact J8))))):p:=h
theorem wkxQ10 {p:Prop} (h:p:=by (refine Ap4 (by rfl) (by rfl) (fun hz=>by first|exact absurd rfl hz|(simp [lk,G5 hz];done)|exact G5 hz|rfl) (by rfl) (AI3) (by intro hs;(repeat' ((try (conv=>whnf));first|with_reducible exact True.intro|with_reducible refine And.intro ?_ ?_|(with_reducible refine WkX.mk ?_;first|exact wvxQ3|fail)))) (by intro hs;(repeat' (first|with_reducible exact J8|refine F5 hs (by first|decide|omega|simp) rfl (by first|rfl) (by (first|exact ppx|fail|((refine plain_app ?_ ?_)<;>(first|exact ppx|fail)))) ?_|refine I4 (by first|decide|omega|simp) rfl (by repeat' (first|with_reducible exact F8|with_reducible refine C8 ?_ ?_|(first|exact wvxQ3|fail))) ?_|refine AD7 (by first|decide|omega|simp) rfl (by ((try subst hF);(try subst hF2);exact AL8 (o9 (by (repeat' ((try (conv=>whnf));first|with_reducible exact True.intro|with_reducible refine And.intro ?_ ?_|(with_reducible refine WkX.mk ?_;first|exact wvxQ3|fail))))))) ?_|exact J8))))):p:=h
theorem Ap0 {p:Prop} (h:p:=by (refine Ap4 (by rfl) (by rfl) (fun hz=>by first|exact absurd rfl hz|(simp [lk,G5 hz];done)|exact G5 hz|rfl) (by rfl) (q9) (by intro hs;(repeat' ((try (conv=>whnf));first|with_reducible exact True.intro|with_reducible refine And.intro ?_ ?_|(with_reducible refine WkX.mk ?_;first|exact Al7|fail)))) (by intro hs;(repeat' (first|with_reducible exact J8|refine F5 hs (by first|decide|omega|simp) rfl (by first|rfl) (by (first|exact ppx|fail|((refine plain_app ?_ ?_)<;>(first|exact ppx|fail)))) ?_|refine I4 (by first|decide|omega|simp) rfl (by repeat' (first|with_reducible exact F8|with_reducible refine C8 ?_ ?_|(first|exact Al7|fail))) ?_|refine AD7 (by first|decide|omega|simp) rfl (by ((try subst hF);(try subst hF2);exact AL8 (o9 (by (repeat' ((try (conv=>whnf));first|with_reducible exact True.intro|with_reducible refine And.intro ?_ ?_|(with_reducible refine WkX.mk ?_;first|exact Al7|fail))))))) ?_|exact J8))))):p:=h
theorem Ao9 {p:Prop} (h:p:=by (refine weak_t (by rfl) (by rfl) (Aq1 AN1 (by rfl) (fun hz=>by first|exact absurd rfl hz|(simp [lk,rn,X4,X3 hz,G5 hz];done)|rfl) (Aq1 AN5 (by rfl) (fun hz=>by first|exact absurd rfl hz|(simp [lk,rn,X4,X3 hz,G5 hz];done)|rfl) tl_nil)) (by intro hs;(repeat' ((try (conv=>whnf));first|with_reducible exact True.intro|with_reducible refine And.intro ?_ ?_|(with_reducible refine WkX.mk ?_;first|exact Al7|fail)))) (by intro hs;(repeat' (first|with_reducible exact J8|refine F5 hs (by first|decide|omega|simp) rfl (by first|rfl) (by (first|exact ppx|fail|((refine plain_app ?_ ?_)<;>(first|exact ppx|fail)))) ?_|refine I4 (by first|decide|omega|simp) rfl (by repeat' (first|with_reducible exact F8|with_reducible refine C8 ?_ ?_|(first|exact Al7|fail))) ?_|refine AD7 (by first|decide|omega|simp) rfl (by ((try subst hF);(try subst hF2);exact AL8 (o9 (by (repeat' ((try (conv=>whnf));first|with_reducible exact True.intro|with_reducible refine And.intro ?_ ?_|(with_reducible refine WkX.mk ?_;first|exact Al7|fail))))))) ?_|exact J8))))):p:=h
theorem AJ2 {p:Prop} (h:p:=by (refine weak_t (by rfl) (by rfl) (Aq1 q9 (by rfl) (fun hz=>by first|exact absurd rfl hz|(simp [lk,rn,X4,X3 hz,G5 hz];done)|rfl) (Aq1 AN1 (by rfl) (fun hz=>by first|exact absurd rfl hz|(simp [lk,rn,X4,X3 hz,G5 hz];done)|rfl) (Aq1 AN5 (by rfl) (fun hz=>by first|exact absurd rfl hz|(simp [lk,rn,X4,X3 hz,G5 hz];done)|rfl) tl_nil))) (by intro hs;(repeat' ((try (conv=>whnf));first|with_reducible exact True.intro|with_reducible refine And.intro ?_ ?_|(with_reducible refine WkX.mk ?_;first|exact wvxQ4|fail)))) (by intro hs;(repeat' (first|with_reducible exact J8|refine F5 hs (by first|decide|omega|simp) rfl (by first|rfl) (by (first|exact ppx|fail|((refine plain_app ?_ ?_)<;>(first|exact ppx|fail)))) ?_|refine I4 (by first|decide|omega|simp) rfl (by repeat' (first|with_reducible exact F8|with_reducible refine C8 ?_ ?_|(first|exact wvxQ4|fail))) ?_|refine AD7 (by first|decide|omega|simp) rfl (by ((try subst hF);(try subst hF2);exact AL8 (o9 (by (repeat' ((try (conv=>whnf));first|with_reducible exact True.intro|with_reducible refine And.intro ?_ ?_|(with_reducible refine WkX.mk ?_;first|exact wvxQ4|fail))))))) ?_|exact J8))))):p:=h
theorem sxA {p q:Prop} (hq:q) (h:R7 q→p:=by (intro hA;((first|(with_reducible first|refine U3 ?_|refine P7 ?_|refine U6 ?_|refine U8 ?_|refine Q7 ?_|refine Z7 ?_|refine U1 ?_|refine Z6 rfl ?_|refine U2 ?_|refine M7 ?_|refine Q5 ?_|refine Q6 ?_|refine U7 ?_|refine M6 ?_|refine P8 (by decide +kernel) ?_|refine O8 (by decide +kernel) ?_|refine AL1 ?_|refine AL2 ?_|refine Aw7 ?_|refine AC9 ?_|refine AO8 ?_|refine Ao5 (by assumption) ?_|refine Ao6 (by assumption) ?_|refine AC8 (by omega) ?_|refine AO7 ?_|fail)|((with_reducible refine AO9 ?_ ?_);focus omega)|((with_reducible refine AP0 ?_ ?_);focus omega)|((with_reducible refine Aw5 ?_ ?_);focus (first|omega|rfl|assumption|decide|(simp only [List.length_map,List.length_cons,List.length_nil];omega)))|(with_reducible first|refine AO4 ?_|refine AC7 ?_|refine AC6 ?_|refine AO6 ?_|refine AO5 ?_|refine AO2 ?_|refine Aw3 ?_|refine M0 ?_|refine AC4 ?_|refine U5 ?_|refine U4 ?_|refine M4 ?_|refine AO3 (by omega) ?_|refine AC5 (by omega) ?_|fail)|fail);repeat' ((try (conv=>whnf));(first|(with_reducible first|refine U3 ?_|refine P7 ?_|refine U6 ?_|refine U8 ?_|refine Q7 ?_|refine Z7 ?_|refine U1 ?_|refine Z6 rfl ?_|refine U2 ?_|refine M7 ?_|refine Q5 ?_|refine Q6 ?_|refine U7 ?_|refine M6 ?_|refine P8 (by decide +kernel) ?_|refine O8 (by decide +kernel) ?_|refine AL1 ?_|refine AL2 ?_|refine Aw7 ?_|refine AC9 ?_|refine AO8 ?_|refine Ao5 (by assumption) ?_|refine Ao6 (by assumption) ?_|refine AC8 (by omega) ?_|refine AO7 ?_|fail)|((with_reducible refine AO9 ?_ ?_);focus omega)|((with_reducible refine AP0 ?_ ?_);focus omega)|((with_reducible refine Aw5 ?_ ?_);focus (first|omega|rfl|assumption|decide|(simp only [List.length_map,List.length_cons,List.length_nil];omega)))|(with_reducible first|refine AO4 ?_|refine AC7 ?_|refine AC6 ?_|refine AO6 ?_|refine AO5 ?_|refine AO2 ?_|refine Aw3 ?_|refine M0 ?_|refine AC4 ?_|refine U5 ?_|refine U4 ?_|refine M4 ?_|refine AO3 (by omega) ?_|refine AC5 (by omega) ?_|fail)|fail)));exact hA.out)):p:=h ⟨hq⟩
theorem sxF {p q:Prop} (hq:q) (h:R7 q→p:=by (intro hA;(with_reducible first|refine AF9 ?_|refine Ax5.mk (by kernel_rfl) ?_|refine AH4 rfl ?_|refine AG4 (by decide +kernel) ?_|refine AG1 rfl ?_|fail);exact hA.out)):p:=h ⟨hq⟩
theorem sxN {p q:Prop} (hq:q) (h:R7 q→p:=by (intro hA;(with_reducible first|refine AF9 ?_|refine Ax5.mk (by kernel_rfl) ?_|refine AG4 (by decide +kernel) ?_|refine AG1 rfl ?_|fail);exact hA.out)):p:=h ⟨hq⟩
theorem sxH {p q:Prop} (hq:q) (h:R7 q→p:=by (intro hA;(first|refine M0 ?_|refine M4 ?_|refine AU1 rfl rfl ?_|refine AB0 ?_|refine Z4 rfl ?_|refine AU2 rfl ?_|refine AT9 rfl ?_|refine AH2 rfl ?_|refine V5 ?_|refine BB1.mk ?_|fail);exact hA.out)):p:=h ⟨hq⟩
end Go.Am
