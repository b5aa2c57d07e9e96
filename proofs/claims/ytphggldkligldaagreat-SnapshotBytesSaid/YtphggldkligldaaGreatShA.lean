/-
 Pools of slots: their memory,as blocks of numbers.
 The calls of a pool that look: used,has,Get,Where,Step,End,Len.
 What changes a pool: tie,untie,least.
 Push,After,Take,Move of a pool.
 Plain law of pools: the numbers of slots and lists stand for lists of slots.
 The calls of a pool,told of lists of slots.
 New: a pool,and the document's lists.
 Values of any kind;memory by a function.
-/
import Derived.Test.YtphggldkligldaaGreatVmA
set_option linter.unusedSimpArgs false
set_option linter.unusedVariables false
namespace Go.Pol
open Go.Am
theorem updI_at (f:Nat→Int) (i:Nat) (v:Int):J9 f i v i=v:=by simp [J9]
theorem AL6 {f:Nat→Int} {i j:Nat} {v:Int} (h:j ≠ i):J9 f i v j=f j:=by simp [J9,h]
def BV3 (n:Nat) (F:Nat→Int):List AV:=(List.range n).map fun k=>.int .i64 (F k)
theorem BO6 (n:Nat) (F:Nat→Int):(BV3 n F).length=n:=by simp [BV3]
theorem AK3 {n:Nat} {F:Nat→Int} {i:Nat} (h:i < n):(BV3 n F)[i]? = some (.int .i64 (F i)):=by simp [BV3,h]
theorem AK2 (n:Nat) (F:Nat→Int) (i:Nat) (v:Int):(BV3 n F).set i (.int .i64 v)=BV3 n (J9 F i v):=by
 refine List.ext_getElem (by simp [BV3]) fun j h1 h2=>?_
 simp only [BV3,List.getElem_set,List.getElem_map,List.getElem_range,J9]
 by_cases e:i=j
 ·subst e;simp
 ·rw [if_neg e,if_neg (fun h=>e h.symm)]
theorem P5 (n:Nat) (F:Nat→Int):∀ x ∈ BV3 n F,Plain x:=fun x hx=>by obtain ⟨p,_,rfl⟩:=List.mem_map.1 hx;exact A8
def BM2 (V L N P:Nat→Int) (k:Nat):Int:=if k % 4=0 then V (k / 4) else if k % 4=1 then L (k / 4) else if k % 4=2 then N (k / 4) else P (k / 4)
def C9 (n:Nat) (V L N P:Nat→Int):List AV:=BV3 (n * 4) (BM2 V L N P)
def sel3 (A B C:Nat→Int) (k:Nat):Int:=if k % 3=0 then A (k / 3) else if k % 3=1 then B (k / 3) else C (k / 3)
def J5 (m:Nat) (A B C:Nat→Int):List AV:=BV3 (m * 3) (sel3 A B C)
section
variable {n m:Nat} {V L N P A B C:Nat→Int} {s:Nat} {v:Int}
theorem D8:(C9 n V L N P).length=n * 4:=BO6 ..
theorem AP9:(J5 m A B C).length=m * 3:=BO6 ..
theorem F5:∀ x ∈ C9 n V L N P,Plain x:=P5 _ _
theorem F8:∀ x ∈ J5 m A B C,Plain x:=P5 _ _
theorem sel4_0:BM2 V L N P (s * 4)=V s:=by unfold BM2;rw [if_pos (by omega),show s * 4 / 4=s by omega]
theorem sel4_1:BM2 V L N P (s * 4+1)=L s:=by unfold BM2;rw [if_neg (by omega),if_pos (by omega),show (s * 4+1) / 4=s by omega]
theorem sel4_2:BM2 V L N P (s * 4+2)=N s:=by unfold BM2;rw [if_neg (by omega),if_neg (by omega),if_pos (by omega),show (s * 4+2) / 4=s by omega]
theorem sel4_3:BM2 V L N P (s * 4+3)=P s:=by unfold BM2;rw [if_neg (by omega),if_neg (by omega),if_neg (by omega),show (s * 4+3) / 4=s by omega]
theorem sel3_0:sel3 A B C (s * 3)=A s:=by unfold sel3;rw [if_pos (by omega),show s * 3 / 3=s by omega]
theorem sel3_1:sel3 A B C (s * 3+1)=B s:=by unfold sel3;rw [if_neg (by omega),if_pos (by omega),show (s * 3+1) / 3=s by omega]
theorem sel3_2:sel3 A B C (s * 3+2)=C s:=by unfold sel3;rw [if_neg (by omega),if_neg (by omega),show (s * 3+2) / 3=s by omega]
theorem gc0 (h:s < n):(C9 n V L N P)[s * 4]? = some (.int .i64 (V s)):=by rw [C9,AK3 (by omega),sel4_0]
theorem gc1 (h:s < n):(C9 n V L N P)[s * 4+1]? = some (.int .i64 (L s)):=by rw [C9,AK3 (by omega),sel4_1]
theorem gc2 (h:s < n):(C9 n V L N P)[s * 4+2]? = some (.int .i64 (N s)):=by rw [C9,AK3 (by omega),sel4_2]
theorem gc3 (h:s < n):(C9 n V L N P)[s * 4+3]? = some (.int .i64 (P s)):=by rw [C9,AK3 (by omega),sel4_3]
theorem ge0 (h:s < m):(J5 m A B C)[s * 3]? = some (.int .i64 (A s)):=by rw [J5,AK3 (by omega),sel3_0]
theorem ge1 (h:s < m):(J5 m A B C)[s * 3+1]? = some (.int .i64 (B s)):=by rw [J5,AK3 (by omega),sel3_1]
theorem ge2 (h:s < m):(J5 m A B C)[s * 3+2]? = some (.int .i64 (C s)):=by rw [J5,AK3 (by omega),sel3_2]
theorem sc0:(C9 n V L N P).set (s * 4) (.int .i64 v)=C9 n (J9 V s v) L N P:=by
 rw [C9,AK2,C9];congr 1;funext k;simp only [J9,BM2]
 by_cases h:k=s * 4
 ·subst h;rw [if_pos rfl,if_pos (by omega),if_pos (by omega)]
 ·rw [if_neg h]
  by_cases h0:k % 4=0
  ·rw [if_pos h0,if_pos h0,if_neg (by omega)]
  ·rw [if_neg h0,if_neg h0]
theorem sc1:(C9 n V L N P).set (s * 4+1) (.int .i64 v)=C9 n V (J9 L s v) N P:=by
 rw [C9,AK2,C9];congr 1;funext k;simp only [J9,BM2]
 by_cases h:k=s * 4+1
 ·subst h;rw [if_pos rfl,if_neg (by omega),if_pos (by omega),if_pos (by omega)]
 ·rw [if_neg h]
  by_cases h0:k % 4=1
  ·rw [if_neg (by omega),if_pos h0,if_neg (by omega),if_pos h0,if_neg (by omega)]
  ·rw [if_neg h0,if_neg h0]
theorem sc2:(C9 n V L N P).set (s * 4+2) (.int .i64 v)=C9 n V L (J9 N s v) P:=by
 rw [C9,AK2,C9];congr 1;funext k;simp only [J9,BM2]
 by_cases h:k=s * 4+2
 ·subst h;rw [if_pos rfl,if_neg (by omega),if_neg (by omega),if_pos (by omega),if_pos (by omega)]
 ·rw [if_neg h]
  by_cases h0:k % 4=2
  ·rw [if_neg (by omega),if_neg (by omega),if_pos h0,if_neg (by omega),if_neg (by omega),if_pos h0,if_neg (by omega)]
  ·rw [if_neg h0,if_neg h0]
theorem sc3:(C9 n V L N P).set (s * 4+3) (.int .i64 v)=C9 n V L N (J9 P s v):=by
 rw [C9,AK2,C9];congr 1;funext k;simp only [J9,BM2]
 by_cases h:k=s * 4+3
 ·subst h;rw [if_pos rfl,if_neg (by omega),if_neg (by omega),if_neg (by omega),if_pos (by omega)]
 ·rw [if_neg h]
  by_cases h0:k % 4=3
  ·rw [if_neg (by omega),if_neg (by omega),if_neg (by omega),if_neg (by omega),if_neg (by omega),if_neg (by omega),if_neg (by omega)]
  ·by_cases h1:k % 4=0
   ·rw [if_pos h1,if_pos h1]
   ·by_cases h2:k % 4=1
    ·rw [if_neg h1,if_pos h2,if_neg h1,if_pos h2]
    ·rw [if_neg h1,if_neg h2,if_pos (by omega),if_neg h1,if_neg h2,if_pos (by omega)]
theorem se0:(J5 m A B C).set (s * 3) (.int .i64 v)=J5 m (J9 A s v) B C:=by
 rw [J5,AK2,J5];congr 1;funext k;simp only [J9,sel3]
 by_cases h:k=s * 3
 ·subst h;rw [if_pos rfl,if_pos (by omega),if_pos (by omega)]
 ·rw [if_neg h]
  by_cases h0:k % 3=0
  ·rw [if_pos h0,if_pos h0,if_neg (by omega)]
  ·rw [if_neg h0,if_neg h0]
theorem se1:(J5 m A B C).set (s * 3+1) (.int .i64 v)=J5 m A (J9 B s v) C:=by
 rw [J5,AK2,J5];congr 1;funext k;simp only [J9,sel3]
 by_cases h:k=s * 3+1
 ·subst h;rw [if_pos rfl,if_neg (by omega),if_pos (by omega),if_pos (by omega)]
 ·rw [if_neg h]
  by_cases h0:k % 3=1
  ·rw [if_neg (by omega),if_pos h0,if_neg (by omega),if_pos h0,if_neg (by omega)]
  ·rw [if_neg h0,if_neg h0]
theorem se2:(J5 m A B C).set (s * 3+2) (.int .i64 v)=J5 m A B (J9 C s v):=by
 rw [J5,AK2,J5];congr 1;funext k;simp only [J9,sel3]
 by_cases h:k=s * 3+2
 ·subst h;rw [if_pos rfl,if_neg (by omega),if_neg (by omega),if_pos (by omega)]
 ·rw [if_neg h]
  by_cases h0:k % 3=2
  ·rw [if_neg (by omega),if_neg (by omega),if_neg (by omega),if_neg (by omega),if_neg (by omega)]
  ·by_cases h1:k % 3=0
   ·rw [if_pos h1,if_pos h1]
   ·rw [if_neg h1,if_pos (by omega),if_neg h1,if_pos (by omega)]
end
def O9 (n m:Nat) (fr:Int) (V L N P A B C:Nat→Int):List (Nat × AObj):=[(0,.cells [.sl 1 0 n n 4,.sl 2 0 m m 3,.int .i64 fr]),(1,.cells (C9 n V L N P)),(2,.cells (J5 m A B C))]
end Go.Pol
namespace Go.Proofs.YtphggldkligldaaGreat
open Go Go.Am Go.Pol
end Go.Proofs.YtphggldkligldaaGreat
namespace Go.Proofs.YtphggldkligldaaGreat
open Go Go.Am Go.Pol
section
variable {n m:Nat} {fr:Int} {V L N P A B C:Nat→Int}
structure AE1 (f:Nat) (avs:List AV) (n m:Nat) (l0:List (Nat × AObj)) (r:AV) (lr:List (Nat × AObj)):Prop where
 out:AQ1 Tryz.prog G0 f (.ptr 0 0::avs) l0 3 fun x h1=>x=r∧h1=⟨lr,3⟩
theorem I8 {top:Bool} {h:Hp} {N0:Nat} {x r:AV} {fr':Int} (hr:WkV Tryz.prog (rn []) h ⟨O9 n m fr V L N P A B C,3⟩ x r) (h0:lk h.l 0=some (.cells [.sl 1 0 n n 4,.sl 2 0 m m 3,.int .i64 fr'])) (h1:lk h.l 1=some (.cells (C9 n V L N P))) (h2:lk h.l 2=some (.cells (J5 m A B C))) (e:fr'=fr:=by rfl) (hN0:N0≤3:=by decide) :
  AR3 top Tryz.prog N0 h x (fun r' h'=>r'=r∧h'=⟨O9 n m fr V L N P A B C,3⟩):=by
 subst e
 have hs:AI3 (rn []) h ⟨O9 n m fr' V L N P A B C,3⟩:=fun i o hi=>by
  simp only [O9,lk] at hi
  show ∃ o',lk h.l i=some o'
  split at hi
  ·rename_i e;subst e;exact ⟨_,h0⟩
  ·split at hi
   ·rename_i e;subst e;exact ⟨_,h1⟩
   ·split at hi
    ·rename_i e;subst e;exact ⟨_,h2⟩
    ·cases hi
 exact j6 [] rfl hN0 (L6 rfl) hr (J3 (show 0 < 3 by decide) h0 (D5 (j4 rfl (show 1 < 3 by decide) rfl (Nat.le_refl _) (Nat.le_refl _)) (D5 (j4 rfl (show 2 < 3 by decide) rfl (Nat.le_refl _) (Nat.le_refl _)) (D5 (L8 rfl) J4)))
  (E8 hs (show 1 < 3 by decide) h1 rfl F5 (E8 hs (show 2 < 3 by decide) h2 rfl F8 J6))) ⟨rfl,rfl⟩
theorem AE6 {σ:Nat→Nat} {h h':Hp} {a b a' b':Int} (e1:a=a') (e2:b=b'):WkV Tryz.prog σ h h' (.tup [.int .i64 a,.int .i64 b]) (.tup [.int .i64 a',.int .i64 b']):=AI5 ⟨L8 e1,L8 e2,trivial⟩
theorem V5 {f:Nat} {avs:List AV} {fr':Int} {V' L' N' P' A' B' C':Nat→Int} {a b c nx:Nat} {l:List (Nat × AObj)} {r:AV} {K:AV→Hp→Prop} (hc:AE1 f avs n m (O9 n m fr V L N P A B C) r (O9 n m fr' V' L' N' P' A' B' C'))
  (hl0:lk l a=some (.cells [.sl b 0 n n 4,.sl c 0 m m 3,.int .i64 fr])) (hl1:lk l b=some (.cells (C9 n V L N P))) (hl2:lk l c=some (.cells (J5 m A B C))) (hlt:a < nx∧b < nx∧c < nx)
  (ha:∀ x ∈ avs,Plain x) (hr:Plain r) (hd:AY6 [a,b,c]=true)
  (hk:AG1 [a,b,c] l fun l2=>K r ⟨[(a,.cells [.sl b 0 n n 4,.sl c 0 m m 3,.int .i64 fr']),(b,.cells (C9 n V' L' N' P')),(c,.cells (J5 m A' B' C'))]++l2,nx⟩):AB8 Tryz.prog G0 (.fn f [] []) (.ptr a 0::avs) ⟨l,nx⟩ K:=by
 have e0:enter [a,b,c] a 0:=rfl
 have e1:enter [a,b,c] b 1:=rfl
 have e2:enter [a,b,c] c 2:=rfl
 have k0:back [a,b,c] nx 0 a:=rfl
 have k1:back [a,b,c] nx 1 b:=rfl
 have k2:back [a,b,c] nx 2 c:=rfl
 refine AA9 (l1:=[(a,.cells [.sl b 0 n n 4,.sl c 0 m m 3,.int .i64 fr']),(b,.cells (C9 n V' L' N' P')),(c,.cells (J5 m A' B' C'))]) [a,b,c] hc.out I7 hd
  (.cons e0 hl0 ⟨J7 e1,J7 e2,D6 A8,trivial⟩ (.cons e1 hl1 (C8 F5) (.cons e2 hl2 (C8 F8) .nil)))
  ?_ (by intro x hx;simp only [List.mem_cons,List.not_mem_nil,or_false] at hx;omega) (D6 hr)
  (.cons k0 ⟨J7 k1,J7 k2,D6 A8,trivial⟩ (.cons k1 (C8 F5) (.cons k2 (C8 F8) .nil))) hk
 simp only [List.nil_append,List.append_nil]
 exact ⟨H8 e0,C8 ha⟩
end
end Go.Proofs.YtphggldkligldaaGreat
namespace Go.Pol
def BS3 (N:Nat→Int) (x:Nat) (p q:Int):Nat→Int:=if p = -1 then J9 N x q else J9 (J9 N x q) p.toNat x
def BX3 (P:Nat→Int) (x:Nat) (p q:Int):Nat→Int:=if q = -1 then J9 P x p else J9 (J9 P x p) q.toNat x
def Ao9 (A:Nat→Int) (i x:Nat) (p:Int):Nat→Int:=if p = -1 then J9 A i x else A
def unN (N:Nat→Int) (s:Nat) (p q:Int):Nat→Int:=J9 (if p = -1 then N else J9 N p.toNat q) s (-1)
def unP (P:Nat→Int) (s:Nat) (p q:Int):Nat→Int:=J9 (if q = -1 then P else J9 P q.toNat p) s (-1)
def unA (A:Nat→Int) (i:Nat) (p q:Int):Nat→Int:=if p = -1 then J9 A i q else A
end Go.Pol
namespace Go.Proofs.YtphggldkligldaaGreat
open Go Go.Am Go.Pol
section
variable {n m:Nat} {fr:Int} {V L N P A B C:Nat→Int}
theorem AH8 {σ:Nat→Nat} {h h':Hp}:WkV Tryz.prog σ h h' (.tup []) (.tup []):=AI5 trivial
theorem M0:Plain (.tup []):=G7 fun _ h=>by cases h
end
end Go.Proofs.YtphggldkligldaaGreat
namespace Go.Proofs.YtphggldkligldaaGreat
open Go Go.Am Go.Pol
section
variable {n m:Nat} {V L N P A B C:Nat→Int}
end
end Go.Proofs.YtphggldkligldaaGreat
namespace Go.Pol
def hd:List Nat→Int
 | [] => -1
 | x::_=>x
def lst (l:List Nat):Int:=match l.getLast? with
 | none=>-1
 | some x=>x
def AG6 (Q:Nat→List Nat) (i:Nat) (l:List Nat):Nat→List Nat:=fun j=>if j=i then l else Q j
section
variable {X Y Z:List Nat} {x s:Nat}
theorem AK4:lst (X++[x])=x:=by simp [lst]
theorem Ag5:lst (X++Y)=if Y=[] then lst X else lst Y:=by
 by_cases h:Y=[]
 ·subst h;simp
 ·rw [if_neg h];unfold lst;rw [List.getLast?_append];cases hl:Y.getLast? with
  | none=>simp at hl;exact absurd hl h
  | some y=>rfl
theorem AP5:lst (X++x::Y)=if Y=[] then (x:Int) else lst Y:=by
 rw [show X++x::Y=(X++[x])++Y by simp,Ag5,AK4]
theorem BP3:hd (X++Y)=if X=[] then hd Y else hd X:=by cases X<;>simp [hd]
theorem AM8 (h:lst X=(s:Int)):s ∈ X:=by
 unfold lst at h
 cases hl:X.getLast? with
 | none=>rw [hl] at h;dsimp only at h;omega
 | some y =>
  rw [hl] at h;dsimp only at h
  have e:y=s:=by omega
  subst e;exact List.mem_of_getLast? hl
theorem An1 (h:hd X=(s:Int)):s ∈ X:=by
 cases X with
 | nil=>simp only [hd] at h;omega
 | cons y Y =>
  simp only [hd] at h
  have e:y=s:=by omega
  subst e;exact List.mem_cons_self ..
theorem Ar1:lst X = -1 ↔ X=[]:=by
 unfold lst
 cases hl:X.getLast? with
 | none=>simp at hl;simp [hl]
 | some y =>
  dsimp only
  constructor
  ·intro h;omega
  ·intro h;subst h;simp at hl
theorem BP2:hd X = -1 ↔ X=[]:=by
 cases X with
 | nil=>simp [hd]
 | cons y Y =>
  simp only [hd]
  constructor
  ·intro h;omega
  ·intro h;cases h
theorem Am4:lst X = -1∨∃ a:Nat,a ∈ X∧lst X=(a:Int):=by
 cases hl:X.getLast? with
 | none=>left;unfold lst;rw [hl]
 | some y=>right;exact ⟨y,List.mem_of_getLast? hl,by unfold lst;rw [hl]⟩
theorem hd_ge:hd X = -1∨∃ a:Nat,a ∈ X∧hd X=(a:Int):=by
 cases X with
 | nil=>exact .inl rfl
 | cons y Y=>exact .inr ⟨y,List.mem_cons_self ..,rfl⟩
end
theorem split2 {X Y X' Y':List Nat} {s:Nat} (h:X++Y=X'++s::Y'):(∃ Z,X=X'++s::Z∧Y'=Z++Y)∨∃ Z,Y=Z++s::Y'∧X'=X++Z:=by
 rcases List.append_eq_append_iff.1 h with ⟨Z,h1,h2⟩ | ⟨Z,h1,h2⟩
 ·exact .inr ⟨Z,h2,h1⟩
 ·cases Z with
  | nil=>exact .inr ⟨[],by simpa using h2.symm,by simpa using h1.symm⟩
  | cons z Z=>rw [List.cons_append] at h2;injection h2 with h3 h4;subst h3;exact .inl ⟨Z,h1,h4⟩
theorem split3 {X Y X' Y':List Nat} {x s:Nat} (h:X++x::Y=X'++s::Y'):(X=X'∧x=s∧Y=Y')∨(∃ Z,X=X'++s::Z∧Y'=Z++x::Y)∨∃ Z,Y=Z++s::Y'∧X'=X++x::Z:=by
 rcases split2 h with ⟨Z,h1,h2⟩ | ⟨Z,h1,h2⟩
 ·exact .inr (.inl ⟨Z,h1,h2⟩)
 ·cases Z with
  | nil=>rw [List.nil_append] at h1;injection h1 with h3 h4;exact .inl ⟨by simpa using h2.symm,h3,h4⟩
  | cons z Z=>rw [List.cons_append] at h1;injection h1 with h3 h4;subst h3;exact .inr (.inr ⟨Z,h4,h2⟩)
theorem Az1:∀ (n:Nat) (l:List Nat),l.Nodup→(∀ x ∈ l,x < n)→l.length≤n
 | 0,l,_,h=>by cases l with
  | nil=>exact Nat.le_refl _
  | cons x l=>exact absurd (h x (List.mem_cons_self ..)) (by omega)
 | n+1,l,hd,h=>by
  by_cases hm:n ∈ l
  ·have:=Az1 n (l.erase n) (hd.erase n) fun x hx=>by
    have h1:=(hd.mem_erase_iff).1 hx
    have:=h x h1.2;have:=h1.1;omega
   rw [List.length_erase_of_mem hm] at this;omega
  ·have:=Az1 n l hd fun x hx=>by
    have h1:=h x hx
    have : x ≠ n:=fun e=>hm (e▸hx)
    omega
   omega
structure St (n m:Nat) (L N P A B C:Nat→Int) (Q:Nat→List Nat):Prop where
 out:∀ i,m≤i→Q i=[]
 us:∀ i s,s ∈ Q i→s < n∧L s=(i:Nat)
 fre:∀ s,s < n→(L s = -1∧N s = -1∧P s = -1)∨∃ i,i < m∧L s=(i:Nat)∧s ∈ Q i
 nd:∀ i,(Q i).Nodup
 ch:∀ i X s Y,Q i=X++s::Y→N s=hd Y∧P s=lst X
 en:∀ i,i < m→A i=hd (Q i)∧B i=lst (Q i)∧C i=((Q i).length:Nat)
theorem BE2 {N:Nat→Int} {x s:Nat} {p q:Int} (hp:p = -1∨∃ a:Nat,a ≠ x∧p=(a:Int)):BS3 N x p q s=if s=x then q else if p=(s:Int) then (x:Int) else N s:=by
 unfold BS3 J9
 rcases hp with rfl | ⟨a,ha,rfl⟩
 ·rw [if_pos rfl,if_neg (show ¬ (-1:Int)=(s:Int) by omega)]
 ·rw [if_neg (by omega)]
  simp only [Int.toNat_natCast]
  by_cases h1:s=a
  ·subst h1;rw [if_pos rfl,if_neg ha,if_pos rfl]
  ·rw [if_neg h1,if_neg (show ¬ (a:Int)=(s:Int) by omega)]
theorem tieP_at {P:Nat→Int} {x s:Nat} {p q:Int} (hq:q = -1∨∃ a:Nat,a ≠ x∧q=(a:Int)):BX3 P x p q s=if s=x then p else if q=(s:Int) then (x:Int) else P s:=BE2 (N:=P) (x:=x) (s:=s) (p:=q) (q:=p) hq
theorem unN_at {N:Nat→Int} {s t:Nat} {p q:Int} (hp:p = -1∨∃ a:Nat,a ≠ s∧p=(a:Int)):unN N s p q t=if t=s then -1 else if p=(t:Int) then q else N t:=by
 unfold unN J9
 by_cases h1:t=s
 ·rw [if_pos h1,if_pos h1]
 ·rw [if_neg h1,if_neg h1]
  rcases hp with rfl | ⟨a,ha,rfl⟩
  ·rw [if_pos rfl,if_neg (by omega)]
  ·rw [if_neg (by omega)]
   simp only [Int.toNat_natCast]
   by_cases h2:t=a
   ·subst h2;rw [if_pos rfl,if_pos rfl]
   ·rw [if_neg h2,if_neg (by omega)]
theorem unP_at {P:Nat→Int} {s t:Nat} {p q:Int} (hq:q = -1∨∃ a:Nat,a ≠ s∧q=(a:Int)):unP P s p q t=if t=s then -1 else if q=(t:Int) then p else P t:=unN_at (N:=P) (p:=q) (q:=p) hq
section
variable {n m:Nat} {L N P A B C:Nat→Int} {Q:Nat→List Nat}
theorem St.free (h:St n m L N P A B C Q) {x:Nat} (hL:L x = -1) (j:Nat):x ∉ Q j:=fun hx=>by have:=(h.us j x hx).2;omega
theorem St.one (h:St n m L N P A B C Q) {x i j:Nat} (hi:x ∈ Q i) (hj:x ∈ Q j):i=j:=by have:=(h.us i x hi).2;have:=(h.us j x hj).2;omega
theorem St.unused (h:St n m L N P A B C Q) {x:Nat} (hx:x < n) (hn:∀ j,x ∉ Q j):L x = -1:=by
 rcases h.fre x hx with h1 | ⟨i,_,_,h3⟩
 ·exact h1.1
 ·exact absurd h3 (hn i)
theorem St.tie (h:St n m L N P A B C Q) {x i:Nat} {X Y:List Nat} (hx:x < n) (hL:L x = -1) (hi:i < m) (hQ:Q i=X++Y) :
  St n m (J9 L x i) (BS3 N x (lst X) (hd Y)) (BX3 P x (lst X) (hd Y)) (Ao9 A i x (lst X)) (Ao9 B i x (hd Y)) (J9 C i (C i+1)) (AG6 Q i (X++x::Y)):=by
 have hf:=h.free hL
 have hXm:∀ a,a ∈ X→a ∈ Q i:=fun a ha=>by rw [hQ];exact List.mem_append_left _ ha
 have hYm:∀ a,a ∈ Y→a ∈ Q i:=fun a ha=>by rw [hQ];exact List.mem_append_right _ ha
 have hp:lst X = -1∨∃ a:Nat,a ≠ x∧lst X=(a:Int):=by
  rcases Am4 (X:=X) with h1 | ⟨a,h1,h2⟩
  ·exact .inl h1
  ·exact .inr ⟨a,fun e=>hf i (e▸hXm a h1),h2⟩
 have hq:hd Y = -1∨∃ a:Nat,a ≠ x∧hd Y=(a:Int):=by
  rcases hd_ge (X:=Y) with h1 | ⟨a,h1,h2⟩
  ·exact .inl h1
  ·exact .inr ⟨a,fun e=>hf i (e▸hYm a h1),h2⟩
 have hnd:=h.nd i
 rw [hQ] at hnd
 obtain ⟨nd1,nd2,nd3⟩:=List.nodup_append.1 hnd
 refine ⟨fun j hj=>?_,fun j s hs=>?_,fun s hs=>?_,fun j=>?_,fun j X' s Y' hj=>?_,fun j hj=>?_⟩
 ·unfold AG6;rw [if_neg (by omega)];exact h.out j hj
 ·unfold AG6 at hs;unfold J9
  split at hs
  ·rename_i e;subst e
   rcases List.mem_append.1 hs with h1|h1
   ·have h2:=h.us _ s (hXm s h1)
    exact ⟨h2.1,by split;rfl;exact h2.2⟩
   ·rcases List.mem_cons.1 h1 with rfl|h1
    ·exact ⟨hx,if_pos rfl⟩
    ·have h2:=h.us _ s (hYm s h1)
     exact ⟨h2.1,by split;rfl;exact h2.2⟩
  ·have h2:=h.us _ s hs
   exact ⟨h2.1,by rw [if_neg (show ¬ s=x from fun e=>hf j (e▸hs))];exact h2.2⟩
 ·by_cases e:s=x
  ·right;subst e
   exact ⟨i,hi,by simp [J9],by simp [AG6]⟩
  ·rcases h.fre s hs with ⟨h1,h2,h3⟩ | ⟨j,h1,h2,h3⟩
   ·left
    have hX:¬ lst X=(s:Int):=fun e2=>h.free h1 i (hXm s (AM8 e2))
    have hY:¬ hd Y=(s:Int):=fun e2=>h.free h1 i (hYm s (An1 e2))
    rw [BE2 hp,tieP_at hq,if_neg e,if_neg hX,if_neg e,if_neg hY]
    exact ⟨by unfold J9;rw [if_neg e];exact h1,h2,h3⟩
   ·right
    refine ⟨j,h1,by unfold J9;rw [if_neg e];exact h2,?_⟩
    unfold AG6
    split
    ·rename_i e2;subst e2;rw [hQ] at h3
     rcases List.mem_append.1 h3 with h4|h4
     ·exact List.mem_append_left _ h4
     ·exact List.mem_append_right _ (List.mem_cons_of_mem _ h4)
    ·exact h3
 ·unfold AG6;split
  ·refine List.nodup_append.2 ⟨nd1,List.nodup_cons.2 ⟨fun hm=>hf i (hYm x hm),nd2⟩,fun a ha b hb=>?_⟩
   rcases List.mem_cons.1 hb with rfl|hb
   ·exact fun e=>hf i (e▸hXm a ha)
   ·exact nd3 a ha b hb
  ·exact h.nd j
 ·rw [BE2 hp,tieP_at hq]
  by_cases e:j=i
  ·subst e
   rw [AG6,if_pos rfl] at hj
   rcases split3 hj with ⟨rfl,rfl,rfl⟩ | ⟨Z,rfl,rfl⟩ | ⟨Z,rfl,rfl⟩
   ·rw [if_pos rfl,if_pos rfl];exact ⟨rfl,rfl⟩
   ·have hsX:s ∈ X'++s::Z:=by simp
    have hne:¬ s=x:=fun e=>hf j (e▸hXm s hsX)
    have hc:=h.ch j X' s (Z++Y) (by rw [hQ];simp)
    have hY:¬ hd Y=(s:Int):=fun e2=>nd3 s hsX s (An1 e2) rfl
    rw [if_neg hne,if_neg hne,if_neg hY]
    refine ⟨?_,hc.2⟩
    cases Z with
    | nil=>rw [if_pos (by rw [AK4])];rfl
    | cons z Z =>
     have h1:¬ lst (X'++s::z::Z)=(s:Int):=fun e2=>by
      rw [AP5,if_neg (by simp)] at e2
      have:=AM8 e2
      have h2:=(List.nodup_append.1 nd1).2.1
      exact (List.nodup_cons.1 h2).1 this
     rw [if_neg h1,hc.1];rfl
   ·have hsY:s ∈ Z++s::Y':=by simp
    have hne:¬ s=x:=fun e=>hf j (e▸hYm s hsY)
    have hc:=h.ch j (X++Z) s Y' (by rw [hQ];simp)
    have hX:¬ lst X=(s:Int):=fun e2=>nd3 s (AM8 e2) s hsY rfl
    rw [if_neg hne,if_neg hne,if_neg hX]
    refine ⟨hc.1,?_⟩
    cases Z with
    | nil=>rw [if_pos (show hd ([]++s::Y')=(s:Int) from rfl),AK4]
    | cons z Z =>
     have h1:¬ hd (z::Z++s::Y')=(s:Int):=fun e2=>by
      simp only [List.cons_append,hd] at e2
      have h2:z=s:=by omega
      subst h2
      exact (List.nodup_cons.1 nd2).1 (by simp)
     rw [if_neg h1,hc.2,Ag5,AP5,if_neg (by simp),if_neg (by simp)]
  ·rw [AG6,if_neg e] at hj
   have hs:s ∈ Q j:=by rw [hj];simp
   have hne:¬ s=x:=fun e=>hf j (e▸hs)
   have hX:¬ lst X=(s:Int):=fun e2=>e (h.one hs (hXm s (AM8 e2)))
   have hY:¬ hd Y=(s:Int):=fun e2=>e (h.one hs (hYm s (An1 e2)))
   rw [if_neg hne,if_neg hne,if_neg hX,if_neg hY]
   exact h.ch j X' s Y' hj
 ·have h1:=h.en j hj
  unfold Ao9 J9 AG6
  by_cases e:j=i
  ·subst e
   rw [hQ] at h1
   obtain ⟨h2,h3,h4⟩:=h1
   simp only [if_true]
   refine ⟨?_,?_,by rw [h4];simp [List.length_append];omega⟩
   ·by_cases hX:X=[]
    ·subst hX;simp [Ar1.2 rfl];rfl
    ·rw [if_neg (fun e=>hX (Ar1.1 e)),h2,BP3,BP3,if_neg hX,if_neg hX]
   ·by_cases hY:Y=[]
    ·subst hY;simp [BP2.2 rfl,AK4]
    ·rw [if_neg (fun e=>hY (BP2.1 e)),h3,Ag5,AP5,if_neg hY,if_neg hY]
  ·have e1:∀ (q:Int) (f:Nat→Int),(if q = -1 then fun k=>if k=i then (x:Int) else f k else f) j=f j:=fun q f=>by split;exact if_neg e;rfl
   rw [if_neg e,if_neg e]
   exact ⟨by rw [e1];exact h1.1,by rw [e1];exact h1.2.1,h1.2.2⟩
theorem St.untie (h:St n m L N P A B C Q) {s i:Nat} {X Y:List Nat} (hi:i < m) (hQ:Q i=X++s::Y) :
  St n m (J9 L s (-1)) (unN N s (lst X) (hd Y)) (unP P s (lst X) (hd Y)) (unA A i (lst X) (hd Y)) (unA B i (hd Y) (lst X)) (J9 C i (C i - 1)) (AG6 Q i (X++Y)):=by
 have hXm:∀ a,a ∈ X→a ∈ Q i:=fun a ha=>by rw [hQ];exact List.mem_append_left _ ha
 have hYm:∀ a,a ∈ Y→a ∈ Q i:=fun a ha=>by rw [hQ];exact List.mem_append_right _ (List.mem_cons_of_mem _ ha)
 have hsm:s ∈ Q i:=by rw [hQ];simp
 have hnd:=h.nd i
 rw [hQ] at hnd
 obtain ⟨nd1,nd2,nd3⟩:=List.nodup_append.1 hnd
 obtain ⟨nd4,nd5⟩:=List.nodup_cons.1 nd2
 have hsX:s ∉ X:=fun hm=>nd3 s hm s (List.mem_cons_self ..) rfl
 have hp:lst X = -1∨∃ a:Nat,a ≠ s∧lst X=(a:Int):=by
  rcases Am4 (X:=X) with h1 | ⟨a,h1,h2⟩
  ·exact .inl h1
  ·exact .inr ⟨a,fun e=>hsX (e▸h1),h2⟩
 have hq:hd Y = -1∨∃ a:Nat,a ≠ s∧hd Y=(a:Int):=by
  rcases hd_ge (X:=Y) with h1 | ⟨a,h1,h2⟩
  ·exact .inl h1
  ·exact .inr ⟨a,fun e=>nd4 (e▸h1),h2⟩
 have hmem:∀ t,t ∈ X++Y→t ∈ Q i∧t ≠ s:=fun t ht=>by
  rcases List.mem_append.1 ht with h1|h1
  ·exact ⟨hXm t h1,fun e=>hsX (e▸h1)⟩
  ·exact ⟨hYm t h1,fun e=>nd4 (e▸h1)⟩
 refine ⟨fun j hj=>?_,fun j t ht=>?_,fun t ht=>?_,fun j=>?_,fun j X' t Y' hj=>?_,fun j hj=>?_⟩
 ·unfold AG6;rw [if_neg (by omega)];exact h.out j hj
 ·unfold AG6 at ht;unfold J9
  split at ht
  ·rename_i e;subst e
   obtain ⟨h1,h2⟩:=hmem t ht
   rw [if_neg h2];exact h.us _ t h1
  ·rename_i e
   rw [if_neg (show ¬ t=s from fun e2=>e (h.one ht (e2▸hsm)))];exact h.us _ t ht
 ·rw [unN_at hp,unP_at hq]
  by_cases e:t=s
  ·left;subst e;rw [if_pos rfl,if_pos rfl];exact ⟨by simp [J9],rfl,rfl⟩
  ·rw [if_neg e,if_neg e]
   rcases h.fre t ht with ⟨h1,h2,h3⟩ | ⟨j,h1,h2,h3⟩
   ·left
    have hX:¬ lst X=(t:Int):=fun e2=>h.free h1 i (hXm t (AM8 e2))
    have hY:¬ hd Y=(t:Int):=fun e2=>h.free h1 i (hYm t (An1 e2))
    rw [if_neg hX,if_neg hY]
    exact ⟨by unfold J9;rw [if_neg e];exact h1,h2,h3⟩
   ·right
    refine ⟨j,h1,by unfold J9;rw [if_neg e];exact h2,?_⟩
    unfold AG6
    split
    ·rename_i e2;subst e2;rw [hQ] at h3
     rcases List.mem_append.1 h3 with h4|h4
     ·exact List.mem_append_left _ h4
     ·rcases List.mem_cons.1 h4 with h4|h4
      ·exact absurd h4 e
      ·exact List.mem_append_right _ h4
    ·exact h3
 ·unfold AG6;split
  ·exact List.nodup_append.2 ⟨nd1,nd5,fun a ha b hb=>nd3 a ha b (List.mem_cons_of_mem _ hb)⟩
  ·exact h.nd j
 ·rw [unN_at hp,unP_at hq]
  by_cases e:j=i
  ·subst e
   rw [AG6,if_pos rfl] at hj
   have hts:=(hmem t (by rw [hj];simp)).2
   rw [if_neg hts,if_neg hts]
   rcases split2 hj with ⟨Z,rfl,rfl⟩ | ⟨Z,rfl,rfl⟩
   ·have hc:=h.ch j X' t (Z++s::Y) (by rw [hQ];simp)
    have hY:¬ hd Y=(t:Int):=fun e2=>nd3 t (by simp) t (List.mem_cons_of_mem _ (An1 e2)) rfl
    rw [if_neg hY]
    refine ⟨?_,hc.2⟩
    cases Z with
    | nil=>rw [if_pos (by rw [AK4])];rfl
    | cons z Z =>
     have h1:¬ lst (X'++t::z::Z)=(t:Int):=fun e2=>by
      rw [AP5,if_neg (by simp)] at e2
      have:=AM8 e2
      have h2:=(List.nodup_append.1 nd1).2.1
      exact (List.nodup_cons.1 h2).1 this
     rw [if_neg h1,hc.1];rfl
   ·have hc:=h.ch j (X++s::Z) t Y' (by rw [hQ];simp)
    have hX:¬ lst X=(t:Int):=fun e2=>nd3 t (AM8 e2) t (by simp) rfl
    rw [if_neg hX]
    refine ⟨hc.1,?_⟩
    cases Z with
    | nil=>rw [if_pos (show hd ([]++t::Y')=(t:Int) from rfl),List.append_nil]
    | cons z Z =>
     have h1:¬ hd (z::Z++t::Y')=(t:Int):=fun e2=>by
      simp only [List.cons_append,hd] at e2
      have h2:z=t:=by omega
      subst h2
      exact (List.nodup_cons.1 nd5).1 (by simp)
     rw [if_neg h1,hc.2,AP5,if_neg (by simp),Ag5,if_neg (by simp)]
  ·rw [AG6,if_neg e] at hj
   have ht:t ∈ Q j:=by rw [hj];simp
   have hne:¬ t=s:=fun e2=>e (h.one ht (e2▸hsm))
   have hX:¬ lst X=(t:Int):=fun e2=>e (h.one ht (hXm t (AM8 e2)))
   have hY:¬ hd Y=(t:Int):=fun e2=>e (h.one ht (hYm t (An1 e2)))
   rw [if_neg hne,if_neg hne,if_neg hX,if_neg hY]
   exact h.ch j X' t Y' hj
 ·have h1:=h.en j hj
  unfold unA J9 AG6
  by_cases e:j=i
  ·subst e
   rw [hQ] at h1
   obtain ⟨h2,h3,h4⟩:=h1
   simp only [if_true]
   refine ⟨?_,?_,by rw [h4];simp [List.length_append];omega⟩
   ·by_cases hX:X=[]
    ·subst hX;simp [Ar1.2 rfl]
    ·rw [if_neg (fun e=>hX (Ar1.1 e)),h2,BP3,BP3,if_neg hX,if_neg hX]
   ·by_cases hY:Y=[]
    ·subst hY;simp [BP2.2 rfl]
    ·rw [if_neg (fun e=>hY (BP2.1 e)),h3,AP5,if_neg hY,Ag5,if_neg hY]
  ·have e1:∀ (q r:Int) (f:Nat→Int),(if q = -1 then fun k=>if k=i then r else f k else f) j=f j:=fun q r f=>by split;exact if_neg e;rfl
   rw [if_neg e,if_neg e]
   exact ⟨by rw [e1];exact h1.1,by rw [e1];exact h1.2.1,h1.2.2⟩
end
end Go.Pol
namespace Go.Pol
structure PS where
 fr:Nat
 L:Nat→Int
 N:Nat→Int
 P:Nat→Int
 A:Nat→Int
 B:Nat→Int
 C:Nat→Int
def X0 (n m:Nat) (V:Nat→Int) (S:PS):List (Nat × Go.Am.AObj):=O9 n m (S.fr:Nat) V S.L S.N S.P S.A S.B S.C
structure Inv (n m:Nat) (V:Nat→Int) (Q:Nat→List Nat) (S:PS):Prop where
 st:St n m S.L S.N S.P S.A S.B S.C Q
 val:∀ s,s < n→S.L s = -1→V s=0
 frn:S.fr≤n
 fru:∀ t,t < S.fr→S.L t ≠ -1
def Ah7 (n:Nat) (Q:Nat→List Nat) (s:Nat):Prop:=s < n∧(∀ i,s ∉ Q i)∧∀ t,t < s→∃ i,t ∈ Q i
def fullAt (n:Nat) (Q:Nat→List Nat):Prop:=∀ t,t < n→∃ i,t ∈ Q i
structure AtQ (m:Nat) (Q:Nat→List Nat) (s i:Nat) (X Y:List Nat):Prop where
 i_lt:i < m
 eq:Q i=X++s::Y
theorem AX2 (Q:Nat→List Nat) (i:Nat) (l:List Nat):AG6 Q i l i=l:=by simp [AG6]
section
variable {n m:Nat} {V:Nat→Int} {Q:Nat→List Nat} {S:PS}
theorem St.usedI {n m:Nat} {L N P A B C:Nat→Int} {Q:Nat→List Nat} (h:St n m L N P A B C Q) {t:Nat} (ht:∃ i,t ∈ Q i):L t ≠ -1:=fun e=>by
 obtain ⟨i,hi⟩:=ht
 exact h.free e i hi
theorem Inv.len (h:Inv n m V Q S) (i:Nat):(Q i).length≤n:=Az1 n _ (h.st.nd i) fun x hx=>(h.st.us i x hx).1
theorem lst_lt (h:Inv n m V Q S) {i:Nat} {X Y:List Nat} (hQ:Q i=X++Y):lst X = -1∨∃ a:Nat,a < n∧lst X=(a:Int):=by
 rcases Am4 (X:=X) with h1 | ⟨a,h1,h2⟩
 ·exact .inl h1
 ·exact .inr ⟨a,(h.st.us i a (by rw [hQ];exact List.mem_append_left _ h1)).1,h2⟩
theorem hd_lt (h:Inv n m V Q S) {i:Nat} {X Y:List Nat} (hQ:Q i=X++Y):hd Y = -1∨∃ a:Nat,a < n∧hd Y=(a:Int):=by
 rcases hd_ge (X:=Y) with h1 | ⟨a,h1,h2⟩
 ·exact .inl h1
 ·exact .inr ⟨a,(h.st.us i a (by rw [hQ];exact List.mem_append_right _ h1)).1,h2⟩
theorem Inv.tied (h:Inv n m V Q S) {x i:Nat} {X Y:List Nat} (v:Int) (hx:Ah7 n Q x) (hi:i < m) (hQ:Q i=X++Y) :
  Inv n m (J9 V x v) (AG6 Q i (X++x::Y)) ⟨x,J9 S.L x i,BS3 S.N x (lst X) (hd Y),BX3 S.P x (lst X) (hd Y),Ao9 S.A i x (lst X),Ao9 S.B i x (hd Y),J9 S.C i (S.C i+1)⟩:=by
 have hL:=h.st.unused hx.1 hx.2.1
 refine ⟨h.st.tie hx.1 hL hi hQ,fun s hs hl=>?_,Nat.le_of_lt hx.1,fun t ht=>?_⟩
 ·dsimp only at hl
  by_cases e:s=x
  ·subst e;rw [updI_at] at hl;omega
  ·rw [AL6 e] at hl ⊢;exact h.val s hs hl
 ·dsimp only at ht ⊢
  rw [AL6 (by omega)]
  exact h.st.usedI (hx.2.2 t ht)
end
end Go.Pol
namespace Go.Proofs.YtphggldkligldaaGreat
open Go Go.Am Go.Pol
section
variable {n m:Nat} {V:Nat→Int} {Q:Nat→List Nat} {S:PS}
theorem AT4 (h:Inv n m V Q S) {s i:Nat} {X Y:List Nat} (hx:AtQ m Q s i X Y):s < n∧S.L s=(i:Nat)∧S.N s=hd Y∧S.P s=lst X∧(lst X = -1∨∃ a:Nat,a < n∧a ≠ s∧lst X=(a:Int))∧(hd Y = -1∨∃ a:Nat,a < n∧hd Y=(a:Int))∧0 < S.C i∧S.C i≤n:=by
 have hu:=h.st.us i s (by rw [hx.eq];simp)
 have hc:=h.st.ch i X s Y hx.eq
 have hnd:=h.st.nd i
 have hlen:=h.len i
 have hen:=(h.st.en i hx.i_lt).2.2
 rw [hx.eq] at hnd hen hlen
 refine ⟨hu.1,hu.2,hc.1,hc.2,?_,hd_lt h (X:=X++[s]) (by rw [hx.eq];simp),by rw [hen];simp;omega,by rw [hen];omega⟩
 rcases Am4 (X:=X) with h1 | ⟨a,h1,h2⟩
 ·exact .inl h1
 ·exact .inr ⟨a,(h.st.us i a (by rw [hx.eq];simp [h1])).1,fun e=>(List.nodup_append.1 hnd).2.2 a h1 s (List.mem_cons_self ..) e,h2⟩
def BV0 (p:Int) (e:Int):AV:=.tup [.int .i64 (if p = -1 then 0 else p),.int .i64 (if p = -1 then e else 0)]
end
end Go.Proofs.YtphggldkligldaaGreat
namespace Go.Pol
open Go.Am
theorem Ay7 (n:Nat):List.replicate n (AV.int .i64 0)=BV3 n fun _=>0:=by
 unfold BV3;rw [List.map_const',List.length_range]
theorem BM8 (n k:Nat):(List.replicate n (List.replicate k (AV.int .i64 0))).flatten=List.replicate (n * k) (AV.int .i64 0):=by
 induction n with
 | zero=>simp
 | succ n ih=>rw [List.replicate_succ,List.flatten_cons,ih,List.replicate_append_replicate,show k+n * k=(n+1) * k by rw [Nat.succ_mul];omega]
theorem Aa3 (n:Nat):(List.replicate n [AV.int .i64 0,AV.int .i64 0,AV.int .i64 0,AV.int .i64 0]).flatten=C9 n (fun _=>0) (fun _=>0) (fun _=>0) fun _=>0:=by
 rw [show [AV.int .i64 0,AV.int .i64 0,AV.int .i64 0,AV.int .i64 0]=List.replicate 4 (AV.int .i64 0) from rfl,BM8,Ay7,C9]
 congr 1;funext k;unfold BM2;split<;>(try rfl);split<;>(try rfl);split<;>rfl
theorem BB0 (n:Nat):(List.replicate n [AV.int .i64 0,AV.int .i64 0,AV.int .i64 0]).flatten=J5 n (fun _=>0) (fun _=>0) fun _=>0:=by
 rw [show [AV.int .i64 0,AV.int .i64 0,AV.int .i64 0]=List.replicate 3 (AV.int .i64 0) from rfl,BM8,Ay7,J5]
 congr 1;funext k;unfold sel3;split<;>(try rfl);split<;>rfl
def upTo (k:Nat) (v:Int):Nat→Int:=fun s=>if s < k then v else 0
theorem upTo_0 (v:Int):upTo 0 v=fun _=>0:=by funext s;unfold upTo;rw [if_neg (by omega)]
theorem upTo_s (k:Nat) (v:Int):J9 (upTo k v) k v=upTo (k+1) v:=by
 funext s;unfold J9 upTo
 by_cases e:s=k
 ·rw [if_pos e,if_pos (by omega)]
 ·rw [if_neg e]
  by_cases h:s < k
  ·rw [if_pos h,if_pos (by omega)]
  ·rw [if_neg h,if_neg (by omega)]
theorem upd_zero (k:Nat):J9 (fun _=>0) k 0=fun _=>0:=by funext s;unfold J9;split<;>rfl
def S0 (n m:Nat):PS:=⟨0,upTo n (-1),upTo n (-1),upTo n (-1),upTo m (-1),upTo m (-1),fun _=>0⟩
end Go.Pol
namespace Go.Proofs.YtphggldkligldaaGreat
open Go Go.Am Go.Pol
end Go.Proofs.YtphggldkligldaaGreat
namespace Go.Pol
open Go.Am
abbrev PV:={ x:AV // Plain x }
theorem AM3 {v:PV}:Plain v.1:=v.2
abbrev IP:={ cs:List AV // ∀ x ∈ cs,Plain x }
theorem Ab2 {v:IP}:Plain (.iptr v.1):=AE4 v.2
def I6 {α:Type} (f:Nat→α) (i:Nat) (v:α):Nat→α:=fun j=>if j=i then v else f j
theorem AX0 {α:Type} (f:Nat→α) (i:Nat) (v:α):I6 f i v i=v:=by simp [I6]
theorem q9 {α:Type} {f:Nat→α} {i j:Nat} {v:α} (h:j ≠ i):I6 f i v j=f j:=by simp [I6,h]
def BX5 (n:Nat) (F:Nat→AV):List AV:=(List.range n).map F
theorem memV_len (n:Nat) (F:Nat→AV):(BX5 n F).length=n:=by simp [BX5]
theorem AH2 {n:Nat} {F:Nat→AV} {i:Nat} (h:i < n):(BX5 n F)[i]? = some (F i):=by simp [BX5,h]
theorem AA5 (n:Nat) (F:Nat→AV) (i:Nat) (v:AV):(BX5 n F).set i v=BX5 n fun j=>if j=i then v else F j:=by
 refine List.ext_getElem (by simp [BX5]) fun j h1 h2=>?_
 simp only [BX5,List.getElem_set,List.getElem_map,List.getElem_range]
 by_cases e:i=j
 ·subst e;simp
 ·rw [if_neg e,if_neg (fun h=>e h.symm)]
theorem U6 {n:Nat} {F G:Nat→AV} (h:∀ i < n,F i=G i):BX5 n F=BX5 n G:=List.map_congr_left fun i hi=>h i (List.mem_range.1 hi)
theorem BV2 {n:Nat} {F:Nat→AV} (h:∀ i,Plain (F i)):∀ x ∈ BX5 n F,Plain x:=fun x hx=>by obtain ⟨p,_,rfl⟩:=List.mem_map.1 hx;exact h p
theorem BM7 {z:List AV} (hz:0 < z.length):∀ {n i:Nat},i < n * z.length→((List.replicate n z).flatten)[i]? = z[i % z.length]?
 | 0,i,h=>by omega
 | n+1,i,h=>by
  rw [List.replicate_succ,List.flatten_cons]
  by_cases hi:i < z.length
  ·rw [List.getElem?_append_left hi,Nat.mod_eq_of_lt hi]
  ·rw [List.getElem?_append_right (by omega),BM7 hz (by rw [Nat.succ_mul] at h;omega)]
   congr 1
   conv=>rhs;rw [show i=(i - z.length)+z.length by omega,Nat.add_mod_right]
theorem rep_lenL {z:List AV} {n:Nat}:((List.replicate n z).flatten).length=n * z.length:=by simp
end Go.Pol
