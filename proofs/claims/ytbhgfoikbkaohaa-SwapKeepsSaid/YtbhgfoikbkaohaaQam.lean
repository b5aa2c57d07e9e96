/-
 Saved states,plain: runs,huge pages,data of a state.
 Loading of states,plain: what is saved is loaded;what is loaded is saved.
 The document's system: page,kinds,set,change and the calls,Join,Split.
 The document's system: change and the calls,Join,Split over the plain state.
 The document's system: Join,Split,bytes,kinds,counts,plans over the plain state.
 Are two states equal? (SamePlan,SameState,Same of the document.)
 New,Plan,Write,Read,Kind of both systems over the plain state.
 Write,Read,Kind of both systems over the plain state.
 Counts of both systems.
 Systems and sums: what stores use. Plain.
-/
import Derived.Test.YtbhgfoikbkaohaaVmB
set_option linter.unusedSimpArgs false
set_option linter.unusedVariables false
set_option maxHeartbeats 1600000
namespace Go.Pol
open Go.Am
structure Rn where
 p:Int
 n:Int
 k:Int
def rnA (r:Rn):List AV:=[.int .i64 r.p,.int .i64 r.n,.int .i64 r.k]
theorem AW5 (r:Rn):(rnA r).length=3:=rfl
theorem S9 (r:Rn):∀ x ∈ rnA r,Plain x:=fun x hx=>by
 simp only [rnA,List.mem_cons,List.not_mem_nil,or_false] at hx
 rcases hx with rfl|rfl|rfl<;>exact A8
@[irreducible] def byA (b:Nat→Int):List AV:=(List.range 64).map fun j=>.int .u8 (b j)
@[simp] theorem by_len (b:Nat→Int):(byA b).length=64:=by unfold byA;simp
theorem byA_plain (b:Nat→Int):∀ x ∈ byA b,Plain x:=fun x hx=>by
 unfold byA at hx
 obtain ⟨i,_,rfl⟩:=List.mem_map.1 hx
 exact A8
structure Dt where
 p:Int
 b:Nat→Int
def dtA (d:Dt):List AV:=.int .i64 d.p::byA d.b
theorem Ai2 (d:Dt):(dtA d).length=65:=by unfold dtA;rw [List.length_cons,by_len]
theorem AL1 (d:Dt):∀ x ∈ dtA d,Plain x:=fun x hx=>by
 rcases List.mem_cons.1 hx with rfl|hx
 ·exact A8
 ·exact byA_plain _ x hx
def inA (u:Int):List AV:=[.int .i64 u]
theorem BG0 (u:Int):(inA u).length=1:=rfl
theorem AK5 (u:Int):∀ x ∈ inA u,Plain x:=fun x hx=>by
 obtain rfl:=List.mem_singleton.1 hx;exact A8
def bump:List Rn→List Rn
 | [] => []
 | [r]=>[⟨r.p,r.n+1,r.k⟩]
 | r::r'::L=>r::bump (r'::L)
theorem AZ1:∀ {L:List Rn} {r:Rn},bump (L++[r])=L++[⟨r.p,r.n+1,r.k⟩]
 | [],_=>rfl
 | [_],_=>rfl
 | _::b::L,r=>congrArg _ (AZ1 (L:=b::L) (r:=r))
def K7 (K:Nat→Int):Nat→List Rn
 | 0 => []
 | n+1=>if K n=0 then K7 K n else if 0 < n∧K (n - 1)=K n then bump (K7 K n) else K7 K n++[⟨(n:Nat),1,K n⟩]
def u7 (G:Nat→Bool):Nat→List Int
 | 0 => []
 | n+1=>if n % 16=0∧G (n / 16)=true then u7 G n++[((n:Nat):Int)] else u7 G n
def BI9 (f:Nat→Int):Prop:=∀ j,j < 64→f j=0
instance (f:Nat→Int):Decidable (BI9 f):=by unfold BI9;infer_instance
def AH6 (B:Nat→Nat→Int):Nat→List Dt
 | 0 => []
 | n+1=>if BI9 (B n) then AH6 B n else AH6 B n++[⟨(n:Nat),B n⟩]
section
variable {K:Nat→Int} {G:Nat→Bool} {B:Nat→Nat→Int} {n p j:Nat}
theorem Aq9:∀ {n:Nat},0 < n→K (n - 1) ≠ 0→∃ L m,K7 K n=L++[⟨((n - m:Nat):Int),(m:Nat),K (n - 1)⟩]∧1≤m∧m≤n
 | n+1,_,h=>by
  have h:K n ≠ 0:=h
  by_cases h1:0 < n∧K (n - 1)=K n
  ·obtain ⟨L,m,e,h2,h3⟩:=Aq9 h1.1 (by rw [h1.2];exact h)
   refine ⟨L,m+1,?_,by omega,by omega⟩
   show (if K n=0 then _ else if 0 < n∧K (n - 1)=K n then bump (K7 K n) else _)=_
   rw [if_neg h,if_pos h1,e,AZ1,show n+1 - (m+1)=n - m by omega,h1.2]
   rfl
  ·refine ⟨K7 K n,1,?_,by omega,by omega⟩
   show (if K n=0 then _ else if 0 < n∧K (n - 1)=K n then bump (K7 K n) else _)=_
   rw [if_neg h,if_neg h1,Nat.add_sub_cancel]
   rfl
theorem Ak1:∀ {n:Nat},(K7 K n).length≤n
 | 0=>Nat.le_refl _
 | n+1=>by
  have:=Ak1 (n:=n)
  show List.length (if K n=0 then _ else if 0 < n∧K (n - 1)=K n then bump (K7 K n) else _)≤_
  split
  ·omega
  ·rename_i h0
   split
   ·rename_i h
    obtain ⟨L,m,e,_,_⟩:=Aq9 (K:=K) h.1 (by rw [h.2];exact h0)
    rw [e] at this ⊢;rw [AZ1]
    simp only [List.length_append,List.length_cons,List.length_nil] at this ⊢;omega
   ·simp only [List.length_append,List.length_cons,List.length_nil];omega
theorem Am1:∀ {n:Nat},(u7 G n).length≤n
 | 0=>Nat.le_refl _
 | n+1=>by
  have:=Am1 (n:=n)
  show List.length (if n % 16=0∧G (n / 16)=true then _ else _)≤_
  split
  ·simp only [List.length_append,List.length_cons,List.length_nil];omega
  ·omega
theorem An7:∀ {n:Nat},(AH6 B n).length≤n
 | 0=>Nat.le_refl _
 | n+1=>by
  have:=An7 (n:=n)
  show List.length (if BI9 (B n) then _ else _)≤_
  split
  ·omega
  ·simp only [List.length_append,List.length_cons,List.length_nil];omega
theorem Aa7:∀ {j:Nat},(∀ i,i < j→K (p+i)=0)→K7 K (p+j)=K7 K p
 | 0,_=>rfl
 | j+1,h=>by
  show (if K (p+j)=0 then _ else _)=_
  rw [if_pos (h j (by omega))];exact Aa7 fun i hi=>h i (by omega)
theorem Ak0:∀ {j:Nat},(p=0∨K (p - 1) ≠ K p)→K p ≠ 0→(∀ i,i < j+1→K (p+i)=K p)→K7 K (p+(j+1))=K7 K p++[⟨(p:Nat),((j+1:Nat):Int),K p⟩]
 | 0,h0,h1,_=>by
  show (if K p=0 then _ else if 0 < p∧K (p - 1)=K p then bump (K7 K p) else _)=_
  rw [if_neg h1,if_neg fun h=>by rcases h0 with h0|h0;exact absurd h.1 (by omega);exact h0 h.2];rfl
 | j+1,h0,h1,h=>by
  have e:=Ak0 (j:=j) h0 h1 fun i hi=>h i (by omega)
  have e1:K (p+(j+1))=K p:=h (j+1) (by omega)
  have e2:K (p+(j+1) - 1)=K p:=h j (by omega)
  show (if K (p+(j+1))=0 then _ else if 0 < p+(j+1)∧K (p+(j+1) - 1)=K (p+(j+1)) then bump (K7 K (p+(j+1))) else _)=_
  rw [if_neg (by rw [e1];exact h1),if_pos ⟨by omega,by rw [e1,e2]⟩,e,AZ1]
  rfl
end
structure Vs where
 R:List Rn
 U:List Int
 D:List Dt
 l:List Rl
 C:Nat→Int
 H:Nat→Int
def vsA (x:Vs):List AV:=.isl (x.R.map rnA) :: .isl (x.U.map inA) :: .isl (x.D.map dtA)::stA x.l x.C x.H
theorem G5 {α:Type} {f:α→List AV} {L:List α} (h:∀ a,∀ x ∈ f a,Plain x):Plain (.isl (L.map f)):=AJ7 fun e he=>by
 obtain ⟨b,_,rfl⟩:=List.mem_map.1 he
 exact h b
theorem AQ5 (x:Vs):∀ y ∈ vsA x,Plain y:=fun y hy=>by
 rcases List.mem_cons.1 hy with rfl|hy
 ·exact G5 S9
 rcases List.mem_cons.1 hy with rfl|hy
 ·exact G5 AK5
 rcases List.mem_cons.1 hy with rfl|hy
 ·exact G5 AL1
 ·exact C8 y hy
theorem AR2 {x:Vs}:Plain (.agg (vsA x)):=J2 (AQ5 x)
def Sy.save (s:Sy):Vs:=⟨K7 s.K 1024,u7 s.G 1024,AH6 s.B 1024,s.l,s.C,s.H⟩
end Go.Pol
namespace Go.Pol
open Go.Am
section fold
variable {σ α:Type} {f:σ→α→Option σ}
def fo (f:σ→α→Option σ):List α→σ→Option σ
 | [],s=>some s
 | a::l,s=>match f s a with|none=>none|some s'=>fo f l s'
end fold
structure Sr where
 nx:Int
 la:Int
 K:Nat→Int
def badRn (s:Sr) (r:Rn):Prop:=r.p < s.nx∨r.n < 1∨1024 - r.p < r.n∨r.k < 1∨3 < r.k∨(r.p=s.nx∧r.k=s.la)
instance (s:Sr) (r:Rn):Decidable (badRn s r):=by unfold badRn;infer_instance
structure Sd where
 lo:Int
 B:Nat→Nat→Int
def r0:Sr:=⟨0,0,fun _=>0⟩
def d0:Sd:=⟨-1,fun _ _=>0⟩
section
variable {K K':Nat→Int} {n:Nat}
end
def badL (r:Rn):Prop:=r.p < 0∨1024≤r.p∨r.n < 1∨1024 - r.p < r.n∨r.k < 1∨3 < r.k
instance (r:Rn):Decidable (badL r):=by unfold badL;infer_instance
end Go.Pol
namespace Go.Pol
open Go.Am
def okV (K:Nat→Int) (a n:Nat) (v:Int):Prop:=∀ i,i < n→K (a+i)=v
instance (K:Nat→Int) (a n:Nat) (v:Int):Decidable (okV K a n v):=by unfold okV;infer_instance
end Go.Pol
namespace Go.Proofs.Ytbhgfoikbkaohaa
open Go Go.Am Go.Pol
section
variable {K:Nat→Int} {M G:Nat→Bool} {B:Nat→Nat→Int} {P:List AV}
end
end Go.Proofs.Ytbhgfoikbkaohaa
namespace Go.Pol
open Go.Am
end Go.Pol
namespace Go.Proofs.Ytbhgfoikbkaohaa
open Go Go.Am Go.Pol
section
variable {s:Sy} {a n:Int}
theorem AL3:∀ x ∈ s.b,Plain x:=by unfold Sy.b;exact AE4 C8
theorem F3:∀ x ∈ s.a,Plain x:=by unfold Sy.a;exact D9 C8
end
end Go.Proofs.Ytbhgfoikbkaohaa
namespace Go.Pol
open Go.Am
def Sy.write (s:Sy) (a b:Int):Int × Sy :=
 if a < 0∨65536≤a then (7,s) else if s.K (a.toNat / 64)=2 then (0,{ s with B:=AD9 s.B (a.toNat / 64) (E9 (s.B (a.toNat / 64)) (a.toNat % 64) b) }) else (61,s)
def Sy.read (s:Sy) (a:Int):Int × Int :=
 if a < 0∨65536≤a then (0,7) else if s.K (a.toNat / 64)=2 then (s.B (a.toNat / 64) (a.toNat % 64),0) else (0,61)
def Sy.kind (s:Sy) (a:Int):List AV :=
 if a < 0∨1024≤a then [.int .i64 0,.bool false,.int .i64 7] else [.int .i64 (s.K a.toNat),.bool (s.M a.toNat),.int .i64 0]
def Sy.new (l:List Rl):Sy:=⟨fun _=>0,fun _=>false,fun _ _=>0,l,fun _=>0,fun _=>0⟩
def Sy.plan (s:Sy) (l:List Rl):Int × Sy:=if (AF6 l).2=0 then (0,{ s with l:=l,C:=fun _=>0,H:=fun _=>0 }) else ((AF6 l).2,s)
theorem BH8 {l:List Rl} (h:(AF6 l).2=0):Aw5 l (fun _=>0) (fun _=>0)=0:=by
 unfold Aw5
 rw [if_neg (by rw [h];simp),if_pos]
 intro k hk
 exact ⟨Int.le_refl _,by show (0:Int)≤1000000;decide,rfl⟩
theorem Am3 {l:List Rl} (h:(AF6 l).2=0):GoodS (Sy.new l):=⟨BH8 h,fun _=>⟨Int.le_refl _,(by show (0:Int)≤3;decide)⟩,fun p hp=>(by cases hp),fun _ _=>rfl,fun _ _=>rfl,fun _ _ _=>rfl⟩
theorem good_plan {s:Sy} {l:List Rl} (h:GoodS s):GoodS (s.plan l).2:=by
 unfold Sy.plan
 split
 ·exact ⟨BH8 (by assumption),h.kind,h.huge,h.zero,h.cK,h.cB⟩
 ·exact h
theorem BL8 {s:Sy} {a b:Int} (h:GoodS s):GoodS (s.write a b).2:=by
 unfold Sy.write
 split
 ·exact h
 ·split
  ·rename_i hk
   refine ⟨h.hv,h.kind,h.huge,fun p hp=>?_,h.cK,fun p j hj=>?_⟩
   ·show AD9 s.B _ _ p=_
    unfold AD9
    rw [if_neg fun e=>hp (by rw [e];exact hk)]
    exact h.zero p hp
   ·show AD9 s.B _ _ p j=0
    unfold AD9
    split
    ·unfold E9;rw [if_neg (by omega)];exact h.cB _ _ hj
    ·exact h.cB _ _ hj
  ·exact h
def AS7 (K:Nat→Int) (v:Int):Nat→Nat
 | 0 => 0
 | n+1=>AS7 K v n+if K n=v then 1 else 0
def cntG (G:Nat→Bool):Nat→Nat
 | 0 => 0
 | n+1=>cntG G n+if G n=true then 1 else 0
theorem Ad7 {K:Nat→Int} {v:Int}:∀ n,AS7 K v n≤n
 | 0=>Nat.le_refl _
 | n+1=>by have:=Ad7 (K:=K) (v:=v) n;unfold AS7;split<;>omega
def Sy.counts (s:Sy):List AV:=[.int .i64 (AS7 s.K 0 1024:Nat),.int .i64 (AS7 s.K 1 1024:Nat),.int .i64 (AS7 s.K 2 1024:Nat),.int .i64 (AS7 s.K 3 1024:Nat),.int .i64 (cntG s.G 64:Nat)]
theorem quo64 {a:Int} (h:0≤a) (h2:a < 100000):IntKind.i64.wrap (a.tdiv 64)=((a.toNat / 64:Nat):Int):=by
 rw [Int.tdiv_eq_ediv_of_nonneg h,IntWalk.i64_in _ ⟨by omega,by omega⟩];omega
theorem rem64 {a:Int} (h:0≤a):a.tmod 64=((a.toNat % 64:Nat):Int):=by
 rw [Int.tmod_eq_emod_of_nonneg h];omega
end Go.Pol
namespace Go.Proofs.Ytbhgfoikbkaohaa
open Go Go.Am Go.Pol
section
variable {s:Sy} {a:Int}
end
end Go.Proofs.Ytbhgfoikbkaohaa
namespace Go.Pol
open Go.Am
theorem AS4:∀ ks:List (IntKind × Int × Int),∃ t,eqL (List.replicate ks.length 0) (ks.map fun q=>AV.int q.1 q.2.1) (ks.map fun q=>AV.int q.1 q.2.2)=some t∧(t=true ↔ (ks.map fun q=>AV.int q.1 q.2.1)=ks.map fun q=>AV.int q.1 q.2.2)
 | []=>⟨true,rfl,⟨fun _=>rfl,fun _=>rfl⟩⟩
 | (k,a,b)::ks=>by
  obtain ⟨t,h1,h2⟩:=AS4 ks
  refine ⟨(a == b) && t,?_,?_⟩
  ·simp only [List.length_cons,List.replicate_succ,List.map_cons,eqL,eq1,if_true,Option.bind_some,h1,Option.map_some]
  ·rw [Bool.and_eq_true,beq_iff_eq,h2,List.map_cons,List.map_cons,List.cons.injEq,AV.int.injEq]
   simp
theorem eq_rn (r r':Rn):∃ t,eqL [0,0,0] (rnA r) (rnA r')=some t∧(t=true ↔ rnA r=rnA r'):=AS4 [(.i64,r.p,r'.p),(.i64,r.n,r'.n),(.i64,r.k,r'.k)]
theorem eq_rl (r r':Rl):∃ t,eqL [0,0,0,0] (rlA r) (rlA r')=some t∧(t=true ↔ rlA r=rlA r'):=AS4 [(.i64,r.k,r'.k),(.i64,r.f,r'.f),(.i64,r.e,r'.e),(.i64,r.t,r'.t)]
theorem eq_7 (C D:Nat→Int):∃ t,eqL [0,0,0,0,0,0,0] (arr7 C) (arr7 D)=some t∧(t=true ↔ arr7 C=arr7 D):=AS4 [(.i64,C 0,D 0),(.i64,C 1,D 1),(.i64,C 2,D 2),(.i64,C 3,D 3),(.i64,C 4,D 4),(.i64,C 5,D 5),(.i64,C 6,D 6)]
theorem eq_dt (d e:Dt):∃ t,eqL (List.replicate 65 0) (dtA d) (dtA e)=some t∧(t=true ↔ dtA d=dtA e):=by
 have h:=AS4 ((.i64,d.p,e.p)::(List.range 64).map fun j=>(.u8,d.b j,e.b j))
 have e1:∀ (f:Nat→Int) (g:Nat→IntKind × Int × Int),((List.range 64).map g).map (fun q=>AV.int q.1 q.2.1)=(List.range 64).map fun j=>AV.int (g j).1 (g j).2.1:=fun f g=>by rw [List.map_map];rfl
 simp only [List.length_cons,List.length_map,List.length_range,List.map_cons,List.map_map] at h
 unfold dtA byA
 exact h
theorem Al7 {α:Type} {f:α→List AV} (d:α) {l m:List α} (hl:l.length=m.length) (h:∀ j,j < l.length→f (nth d l j)=f (nth d m j)):l.map f=m.map f:=by
 refine List.ext_getElem (by simpa using hl) fun j h1 h2=>?_
 simp only [List.getElem_map]
 have:=h j (by simpa using h1)
 rw [p9 (by simpa using h1),p9 (by simpa using h2)] at this
 exact this
theorem Al6 {α:Type} {f:α→List AV} (d:α) {l m:List α} {j:Nat} (hj:j < l.length) (hj2:j < m.length) (h:f (nth d l j) ≠ f (nth d m j)):l.map f ≠ m.map f:=fun e=>h (by
 have:=congrArg (fun x:List (List AV)=>x[j]?) e
 simp only [List.getElem?_map,List.getElem?_eq_getElem hj,List.getElem?_eq_getElem hj2,Option.map_some,Option.some.injEq] at this
 rw [p9 hj,p9 hj2];exact this)
theorem AY4 {α:Type} {f:α→List AV} {l m:List α} (h:l.map f=m.map f):l.length=m.length:=by have:=congrArg List.length h;simpa using this
theorem BH1 {α:Type} {f:α→List AV} {l:List α} {j sz:Nat} {K:List AV→Prop} {d:α} {row:List AV} (hf:∀ x,(f x).length=sz) (hj:j < l.length) (hx:f (Go.Pol.nth d l j)=row) (hk:K row):ElX (l.map f) j sz K:=AD5 hf hj rfl (by rw [hx];exact hk)
theorem row_drop {y:List AV}:y.drop 0=y:=rfl
theorem row_take {y:List AV} {n:Nat} (h:y.length=n):y.take n=y:=List.take_of_length_le (by omega)
def Aq8 (l:List Rl) (C H:Nat→Int) (l':List Rl) (C' H':Nat→Int):Prop:=l.map rlA=l'.map rlA∧arr7 C=arr7 C'∧arr7 H=arr7 H'
def sameV (x y:Vs):Prop:=(x.R.map rnA=y.R.map rnA∧x.U.map inA=y.U.map inA∧x.D.map dtA=y.D.map dtA)∧Aq8 x.l x.C x.H y.l y.C y.H
theorem BS0 {x:Vs}:sameV x x:=⟨⟨rfl,rfl,rfl⟩,rfl,rfl,rfl⟩
def dRn:Rn:=⟨0,0,0⟩
def dDt:Dt:=⟨0,fun _=>0⟩
end Go.Pol
namespace Go.Proofs.Ytbhgfoikbkaohaa
open Go Go.Am Go.Pol
theorem plx_Tl {p:Prop} (h:p:=by ((first|exact plw|(with_reducible first|apply AG5|apply O5|apply K8|apply AA3|apply U4|apply AE7|apply AE6|apply AB0|apply AR4|apply AY1|apply AC2|apply AE5|apply G5 S9|apply G5 AK5|apply G5 AL1|apply AR2|fail)|fail);first|done|fail)):p:=h
theorem ppx_Tl {p:Prop} (h:p:=by ((first|with_reducible assumption|(with_reducible first|apply K3 _|apply Q9 K3|apply C8|apply AQ5 _|fail)|exact ppw|fail);first|done|fail)):p:=h
open Go.Proofs.Ytbhgfoikbkaohaa renaming plx_Tl → plx
open Go.Proofs.Ytbhgfoikbkaohaa renaming ppx_Tl → ppx
theorem wtl {p q:Prop} (hq:q) (h:X4 q→p:=by (intro hQz;((repeat' ((try (conv=>whnf));first|(with_reducible first|refine M5 ?_|refine J4 ?_|refine M9 ?_|refine N8 ?_|refine J8 ?_|refine R4 ?_|refine M0 ?_|refine R3 rfl ?_|refine M4 ?_|refine H6 ?_|refine J6 ?_|refine J7 ?_|refine N7 ?_|refine G9 ?_|refine J5 (by decide +kernel) ?_|refine I9 (by decide +kernel) ?_|refine AF3 ?_|refine AF4 ?_|refine Ap5 ?_|refine Z5 ?_|refine AI6 ?_|refine Ai6 (by assumption) ?_|refine Ai7 (by assumption) ?_|refine Z0 (by omega) ?_|refine AI5 ?_)|((with_reducible refine AI7 ?_ ?_);focus omega)|((with_reducible refine AI8 ?_ ?_);focus omega)|((with_reducible apply V4 hQz)<;>(try intro hsp hQz))|((with_reducible refine Ap4 ?_ ?_);focus (first|omega|rfl|assumption|decide|(simp only [List.length_map,List.length_cons,List.length_nil];omega)))|(with_reducible first|refine AI0 ?_|refine Y9 ?_|refine Y8 ?_|refine AI2 ?_|refine AI1 ?_|refine AH8 ?_|refine Ap3 ?_|refine G7 ?_|refine Y6 ?_|refine M8 ?_|refine M7 ?_|refine G8 ?_|refine AH9 (by omega) ?_|refine Y7 (by omega) ?_)|refine BH1 Aa8 (by first|assumption|omega) (by with_reducible assumption) ?_|refine BH1 AW5 (by first|assumption|omega) (by with_reducible assumption) ?_|refine BH1 Ai2 (by first|assumption|omega) (by with_reducible assumption) ?_|refine BH1 BG0 (by first|assumption|omega) (by with_reducible assumption) ?_|refine An0 (by with_reducible assumption) ?_|refine Y0 (Nat.zero_le _) row_drop ?_|refine V8 (by omega) (row_take (by with_reducible assumption)) ?_|(with_reducible first|refine x9 ?_|refine Ap6.mk (by kernel_rfl) ?_|refine AC6 rfl ?_|refine AA0 (by decide +kernel) ?_|refine z8 rfl ?_)|refine K4 (by assumption) ?_|refine Q0 (by assumption) ?_|refine P7 (by assumption) ?_|refine G7 ?_|refine G8 ?_|refine AP9 rfl rfl ?_|refine V9 ?_|refine Q7 rfl ?_|refine AQ2 rfl ?_|refine AP0 rfl ?_|refine AC0 rfl ?_|refine L8 ?_|refine Aw2.mk ?_|((with_reducible apply V5 hQz)<;>(try intro hsp hQz))|exact hQz.out))<;>(try (conv=>whnf))))):p:=h ⟨hq⟩
section
variable {l m:List Rl} {C H C' H':Nat→Int}
theorem BK6 (hlen:l.length≤100000) {b:Bool} (hb:b=true ↔ l.map rlA=m.map rlA):J3 61 [.agg [.isl (l.map rlA)],.agg [.isl (m.map rlA)]] (.bool b):=by
 refine J3.mk (Q5 F6 b61 H8 ⟨K8,K8,trivial⟩ D8 rfl ?_)
 unfold c61
 by_cases hl:l.length=m.length
 ·(refine wtl ?_;repeat' (first|with_reducible refine And.intro ?_ ?_|intro hsp))
  all_goals first|(exfalso;omega)|skip
  (refine O9 [2,3] (fun (i:Nat)=>[(5,.int .i64 (i:Nat))]) (fun (i:Nat)=>⟨[(0,.cells [.isl (l.map rlA)]),(1,.cells [.isl (m.map rlA)])],2⟩) (fun (i:Nat)=>i≤l.length∧∀ j,j < i→rlA (nth dR l j)=rlA (nth dR m j)) (fun (i:Nat)=>l.length - i) (0) [] rfl (fun _=>by first|exact Nat.zero_le _|(dsimp only;omega)) ?_ (by ((try (conv=>whnf));exact U9)) ?_)
  ·exact ⟨Nat.zero_le _,fun j hj=>by omega⟩
  rintro i ⟨hi,h0⟩
  by_cases hil:i < l.length
  ·obtain ⟨t,he,ht⟩:=eq_rl (nth dR l i) (nth dR m i)
   have hil2:i < m.length:=by omega
   have hn1:=Aa8 (nth dR l i)
   have hn2:=Aa8 (nth dR m i)
   have hne:=Al6 (f:=rlA) dR hil hil2
   generalize g1:rlA (nth dR l i)=r1 at *
   generalize g2:rlA (nth dR m i)=r2 at *
   cases t with
   | true =>
    have e:=ht.1 rfl
    (refine wtl ?_;repeat' (first|with_reducible refine And.intro ?_ ?_|intro hsp))
    all_goals exact G6 (i+1) [] ⟨by omega,fun j hj=>if e2:j=i then by rw [e2,g1,g2];exact e else h0 j (by omega)⟩ (by first|omega|(dsimp only;omega)) rfl (by exact U9)
   | false =>
    have hbf:b=false:=by
     cases b with
     | false=>rfl
     | true=>exact absurd (hb.1 rfl) (hne fun e=>by have:=ht.2 e;cases this)
    rw [hbf]
    (refine wtl ?_;repeat' (first|with_reducible refine And.intro ?_ ?_|intro hsp))
    all_goals exact F8 rfl
  ·have hbt:b=true:=hb.2 (Al7 dR hl fun j hj=>h0 j (by omega))
   rw [hbt]
   (refine wtl ?_;repeat' (first|with_reducible refine And.intro ?_ ?_|intro hsp))
   all_goals exact F8 rfl
 ·have hbf:b=false:=by
   cases b with
   | false=>rfl
   | true=>exact absurd (AY4 (hb.1 rfl)) hl
  rw [hbf]
  (refine wtl ?_;repeat' (first|with_reducible refine And.intro ?_ ?_|intro hsp))
  all_goals first|exact F8 rfl|(exfalso;omega)
theorem r_sameSt (hlen:l.length≤100000) {b:Bool} (hb:b=true ↔ Aq8 l C H m C' H'):J3 42 [.agg (stA l C H),.agg (stA m C' H')] (.bool b):=by
 refine J3.mk (Q5 F6 b42 H8 ⟨U4,U4,trivial⟩ D8 rfl ?_)
 unfold c42
 obtain ⟨t1,e1,h1⟩:=eq_7 C C'
 obtain ⟨t2,e2,h2⟩:=eq_7 H H'
 unfold arr7 at e1 e2
 obtain ⟨t0,h0⟩:∃ t0:Bool,t0=true ↔ l.map rlA=m.map rlA:=by
  by_cases h:l.map rlA=m.map rlA
  ·exact ⟨true,fun _=>h,fun _=>rfl⟩
  ·exact ⟨false,fun e=>(by cases e),fun e=>absurd e h⟩
 have z:=BK6 hlen h0
 have hb2:b=(t0 && t1 && t2):=by
  rw [Bool.eq_iff_iff,hb,Bool.and_eq_true,Bool.and_eq_true,h0,h1,h2];exact ⟨fun h=>⟨⟨h.1,h.2.1⟩,h.2.2⟩,fun h=>⟨h.1.1,h.1.2,h.2⟩⟩
 rw [hb2]
 cases t0 with
 | false =>
  (refine wtl ?_;repeat' (first|with_reducible refine And.intro ?_ ?_|intro hsp))
  all_goals exact F8 rfl
 | true =>
  cases t1 with
  | false =>
   (refine wtl ?_;repeat' (first|with_reducible refine And.intro ?_ ?_|intro hsp))
   all_goals exact F8 rfl
  | true =>
   cases t2 with
   | false =>
    (refine wtl ?_;repeat' (first|with_reducible refine And.intro ?_ ?_|intro hsp))
    all_goals exact F8 rfl
   | true =>
    (refine wtl ?_;repeat' (first|with_reducible refine And.intro ?_ ?_|intro hsp))
    all_goals exact F8 rfl
theorem r_same {x y:Vs} (hR:x.R.length≤100000) (hU:x.U.length≤100000) (hD:x.D.length≤100000) (hlen:x.l.length≤100000) {b:Bool} (hb:b=true ↔ sameV x y):J3 20 [.agg (vsA x),.agg (vsA y)] (.bool b):=by
 refine J3.mk (Q5 F6 b20 H8 ⟨AR2,AR2,trivial⟩ D8 rfl ?_)
 unfold c20
 obtain ⟨R,U,D,l,C,H⟩:=x
 obtain ⟨R',U',D',l',C',H'⟩:=y
 dsimp only at hR hU hD hlen
 simp only [vsA,stA]
 obtain ⟨ts,hts⟩:∃ ts:Bool,ts=true ↔ Aq8 l C H l' C' H':=by
  by_cases h:Aq8 l C H l' C' H'
  ·exact ⟨true,fun _=>h,fun _=>rfl⟩
  ·exact ⟨false,fun e=>(by cases e),fun e=>absurd e h⟩
 have z:=r_sameSt hlen hts
 unfold sameV at hb
 dsimp only at hb
 have no:¬ ((R.map rnA=R'.map rnA∧U.map inA=U'.map inA∧D.map dtA=D'.map dtA)∧Aq8 l C H l' C' H')→b=false:=fun h=>by
  cases b with
  | false=>rfl
  | true=>exact absurd (hb.1 rfl) h
 by_cases h1:R.length=R'.length
 case neg =>
  rw [no fun h=>h1 (AY4 h.1.1)]
  (refine wtl ?_;repeat' (first|with_reducible refine And.intro ?_ ?_|intro hsp))
  all_goals first|exact F8 rfl|(exfalso;omega)
 by_cases h2:U.length=U'.length
 case neg =>
  rw [no fun h=>h2 (AY4 h.1.2.1)]
  (refine wtl ?_;repeat' (first|with_reducible refine And.intro ?_ ?_|intro hsp))
  all_goals first|exact F8 rfl|(exfalso;omega)
 by_cases h3:D.length=D'.length
 case neg =>
  rw [no fun h=>h3 (AY4 h.1.2.2)]
  (refine wtl ?_;repeat' (first|with_reducible refine And.intro ?_ ?_|intro hsp))
  all_goals first|exact F8 rfl|(exfalso;omega)
 cases ts with
 | false =>
  rw [no fun h=>by have:=hts.2 h.2;cases this]
  (refine wtl ?_;repeat' (first|with_reducible refine And.intro ?_ ?_|intro hsp))
  all_goals first|exact F8 rfl|(exfalso;omega)
 | true =>
 (refine wtl ?_;repeat' (first|with_reducible refine And.intro ?_ ?_|intro hsp))
 all_goals first|(exfalso;omega)|skip
 (refine O9 [2,3] (fun (i:Nat)=>[(5,.int .i64 (i:Nat))]) (fun (i:Nat)=>⟨[(0,.cells [.isl (R.map rnA),.isl (U.map inA),.isl (D.map dtA),.isl (l.map rlA),.int .i64 (C 0),.int .i64 (C 1),.int .i64 (C 2),.int .i64 (C 3),.int .i64 (C 4),.int .i64 (C 5),.int .i64 (C 6),.int .i64 (H 0),.int .i64 (H 1),.int .i64 (H 2),.int .i64 (H 3),.int .i64 (H 4),.int .i64 (H 5),.int .i64 (H 6)]),(1,.cells [.isl (R'.map rnA),.isl (U'.map inA),.isl (D'.map dtA),.isl (l'.map rlA),.int .i64 (C' 0),.int .i64 (C' 1),.int .i64 (C' 2),.int .i64 (C' 3),.int .i64 (C' 4),.int .i64 (C' 5),.int .i64 (C' 6),.int .i64 (H' 0),.int .i64 (H' 1),.int .i64 (H' 2),.int .i64 (H' 3),.int .i64 (H' 4),.int .i64 (H' 5),.int .i64 (H' 6)])],2⟩) (fun (i:Nat)=>i≤R.length∧∀ j,j < i→rnA (nth dRn R j)=rnA (nth dRn R' j)) (fun (i:Nat)=>R.length - i) (0) [] rfl (fun _=>by first|exact Nat.zero_le _|(dsimp only;omega)) ?_ (by ((try (conv=>whnf));exact U9)) ?_)
 ·exact ⟨Nat.zero_le _,fun j hj=>by omega⟩
 rintro i ⟨hi,h0⟩
 by_cases hil:i < R.length
 ·obtain ⟨t,he,ht⟩:=eq_rn (nth dRn R i) (nth dRn R' i)
  have hil2:i < R'.length:=by omega
  have hn1:=AW5 (nth dRn R i)
  have hn2:=AW5 (nth dRn R' i)
  have hne:=Al6 (f:=rnA) dRn hil hil2
  generalize g1:rnA (nth dRn R i)=r1 at *
  generalize g2:rnA (nth dRn R' i)=r2 at *
  cases t with
  | true =>
   have e:=ht.1 rfl
   (refine wtl ?_;repeat' (first|with_reducible refine And.intro ?_ ?_|intro hsp))
   all_goals exact G6 (i+1) [] ⟨by omega,fun j hj=>if e2:j=i then by rw [e2,g1,g2];exact e else h0 j (by omega)⟩ (by first|omega|(dsimp only;omega)) rfl (by exact U9)
  | false =>
   rw [no fun h=>hne (fun e=>by have:=ht.2 e;cases this) h.1.1]
   (refine wtl ?_;repeat' (first|with_reducible refine And.intro ?_ ?_|intro hsp))
   all_goals exact F8 rfl
 have eR:=Al7 (f:=rnA) dRn h1 fun j hj=>h0 j (by omega)
 (refine wtl ?_;repeat' (first|with_reducible refine And.intro ?_ ?_|intro hsp))
 (refine O9 [2,3] (fun (i:Nat)=>[(6,.int .i64 (i:Nat))]) (fun (i:Nat)=>⟨[(0,.cells [.isl (R.map rnA),.isl (U.map inA),.isl (D.map dtA),.isl (l.map rlA),.int .i64 (C 0),.int .i64 (C 1),.int .i64 (C 2),.int .i64 (C 3),.int .i64 (C 4),.int .i64 (C 5),.int .i64 (C 6),.int .i64 (H 0),.int .i64 (H 1),.int .i64 (H 2),.int .i64 (H 3),.int .i64 (H 4),.int .i64 (H 5),.int .i64 (H 6)]),(1,.cells [.isl (R'.map rnA),.isl (U'.map inA),.isl (D'.map dtA),.isl (l'.map rlA),.int .i64 (C' 0),.int .i64 (C' 1),.int .i64 (C' 2),.int .i64 (C' 3),.int .i64 (C' 4),.int .i64 (C' 5),.int .i64 (C' 6),.int .i64 (H' 0),.int .i64 (H' 1),.int .i64 (H' 2),.int .i64 (H' 3),.int .i64 (H' 4),.int .i64 (H' 5),.int .i64 (H' 6)])],2⟩) (fun (i:Nat)=>i≤U.length∧∀ j,j < i→inA (nth 0 U j)=inA (nth 0 U' j)) (fun (i:Nat)=>U.length - i) (0) [] rfl (fun _=>by first|exact Nat.zero_le _|(dsimp only;omega)) ?_ (by ((try (conv=>whnf));exact U9)) ?_)
 ·exact ⟨Nat.zero_le _,fun j hj=>by omega⟩
 rintro i ⟨hi,h0⟩
 by_cases hil:i < U.length
 ·have hil2:i < U'.length:=by omega
  have hne:=Al6 (f:=inA) (0:Int) hil hil2
  have hn1:inA (nth 0 U i)=[.int .i64 (nth 0 U i)]:=rfl
  have hn2:inA (nth 0 U' i)=[.int .i64 (nth 0 U' i)]:=rfl
  by_cases e:nth 0 U i=nth 0 U' i
  ·(refine wtl ?_;repeat' (first|with_reducible refine And.intro ?_ ?_|intro hsp))
   all_goals first|(exfalso;exact absurd e (by assumption))|skip
   all_goals exact G6 (i+1) [] ⟨by omega,fun j hj=>if e2:j=i then by rw [e2,e] else h0 j (by omega)⟩ (by first|omega|(dsimp only;omega)) rfl (by exact U9)
  ·rw [no fun h=>hne (fun e2=>by rw [hn1,hn2] at e2;injection e2 with e3;injection e3 with _ e4;exact e e4) h.1.2.1]
   (refine wtl ?_;repeat' (first|with_reducible refine And.intro ?_ ?_|intro hsp))
   all_goals first|exact F8 rfl|(exfalso;exact e (by assumption))
 have eU:=Al7 (f:=inA) (0:Int) h2 fun j hj=>h0 j (by omega)
 (refine wtl ?_;repeat' (first|with_reducible refine And.intro ?_ ?_|intro hsp))
 (refine O9 [2,3] (fun (i:Nat)=>[(7,.int .i64 (i:Nat))]) (fun (i:Nat)=>⟨[(0,.cells [.isl (R.map rnA),.isl (U.map inA),.isl (D.map dtA),.isl (l.map rlA),.int .i64 (C 0),.int .i64 (C 1),.int .i64 (C 2),.int .i64 (C 3),.int .i64 (C 4),.int .i64 (C 5),.int .i64 (C 6),.int .i64 (H 0),.int .i64 (H 1),.int .i64 (H 2),.int .i64 (H 3),.int .i64 (H 4),.int .i64 (H 5),.int .i64 (H 6)]),(1,.cells [.isl (R'.map rnA),.isl (U'.map inA),.isl (D'.map dtA),.isl (l'.map rlA),.int .i64 (C' 0),.int .i64 (C' 1),.int .i64 (C' 2),.int .i64 (C' 3),.int .i64 (C' 4),.int .i64 (C' 5),.int .i64 (C' 6),.int .i64 (H' 0),.int .i64 (H' 1),.int .i64 (H' 2),.int .i64 (H' 3),.int .i64 (H' 4),.int .i64 (H' 5),.int .i64 (H' 6)])],2⟩) (fun (i:Nat)=>i≤D.length∧∀ j,j < i→dtA (nth dDt D j)=dtA (nth dDt D' j)) (fun (i:Nat)=>D.length - i) (0) [] rfl (fun _=>by first|exact Nat.zero_le _|(dsimp only;omega)) ?_ (by ((try (conv=>whnf));exact U9)) ?_)
 ·exact ⟨Nat.zero_le _,fun j hj=>by omega⟩
 rintro i ⟨hi,h0⟩
 by_cases hil:i < D.length
 ·obtain ⟨t,he,ht⟩:=eq_dt (nth dDt D i) (nth dDt D' i)
  have hil2:i < D'.length:=by omega
  have hn1:=Ai2 (nth dDt D i)
  have hn2:=Ai2 (nth dDt D' i)
  have hne:=Al6 (f:=dtA) dDt hil hil2
  generalize g1:dtA (nth dDt D i)=r1 at *
  generalize g2:dtA (nth dDt D' i)=r2 at *
  cases t with
  | true =>
   have e:=ht.1 rfl
   (refine wtl ?_;repeat' (first|with_reducible refine And.intro ?_ ?_|intro hsp))
   all_goals exact G6 (i+1) [] ⟨by omega,fun j hj=>if e2:j=i then by rw [e2,g1,g2];exact e else h0 j (by omega)⟩ (by first|omega|(dsimp only;omega)) rfl (by exact U9)
  | false =>
   rw [no fun h=>hne (fun e=>by have:=ht.2 e;cases this) h.1.2.2]
   (refine wtl ?_;repeat' (first|with_reducible refine And.intro ?_ ?_|intro hsp))
   all_goals exact F8 rfl
 have eD:=Al7 (f:=dtA) dDt h3 fun j hj=>h0 j (by omega)
 rw [hb.2 ⟨⟨eR,eU,eD⟩,hts.1 rfl⟩]
 (refine wtl ?_;repeat' (first|with_reducible refine And.intro ?_ ?_|intro hsp))
 all_goals exact F8 rfl
end
end Go.Proofs.Ytbhgfoikbkaohaa
namespace Go.Pol
open Go.Am
theorem BS4 {z:List AV} (hz:0 < z.length):∀ {n i:Nat},i < n * z.length→((List.replicate n z).flatten)[i]? = z[i % z.length]?
 | 0,i,h=>by omega
 | n+1,i,h=>by
  rw [List.replicate_succ,List.flatten_cons]
  by_cases hi:i < z.length
  ·rw [List.getElem?_append_left hi,Nat.mod_eq_of_lt hi]
  ·rw [List.getElem?_append_right (by omega),BS4 hz (by rw [Nat.succ_mul] at h;omega)]
   congr 1
   conv=>rhs;rw [show i=(i - z.length)+z.length by omega,Nat.add_mod_right]
theorem Ak2 {z:List AV} {n:Nat}:((List.replicate n z).flatten).length=n * z.length:=by simp
def zP:List AV:=.nils::List.replicate 14 (.int .i64 0)
theorem zP_len:zP.length=15:=rfl
theorem zP_get {m:Nat} (h:m < 15):zP[m]? = some (zP[m]?.getD .undef):=by
 rw [List.getElem?_eq_getElem (by rw [zP_len];exact h)];rfl
theorem Ab2:pg0.length=66:=rfl
theorem pg0_get {j:Nat} (h:j < 66):pg0[j]? = some (Ab4 (fun _=>0) (fun _=>false) (fun _ _=>0) 0 j):=by
 unfold Ab4 pg0
 match j with
 | 0=>rfl
 | 1=>rfl
 | j+2=>rw [if_neg (by omega),if_neg (by omega),List.getElem?_cons_succ,List.getElem?_cons_succ,List.getElem?_replicate,if_pos (by omega)]
theorem BD5:sysZ.length=67600:=by unfold sysZ;rw [List.length_cons,List.length_append,Ak2];rfl
theorem sysZ_0:sysZ.set 0 (.bool true)=sysB (fun _=>0) (fun _=>false) (fun _ _=>0) zP:=by
 refine List.ext_getElem? fun i=>?_
 by_cases hi:i < 67600
 ·unfold sysB
  rw [X9 hi]
  unfold sysZ sysF
  rw [List.set_cons_zero]
  by_cases h0:i=0
  ·rw [if_pos h0,h0];rfl
  ·rw [if_neg h0]
   obtain ⟨k,rfl⟩:∃ k,i=k+1:=⟨i - 1,by omega⟩
   rw [List.getElem?_cons_succ]
   by_cases h1:k+1 < 67585
   ·rw [if_pos h1,List.getElem?_append_left (by rw [Ak2,Ab2];omega),BS4 (by decide) (by rw [Ab2];omega),Ab2,pg0_get (by omega)]
    rw [Nat.add_sub_cancel];rfl
   ·rw [if_neg h1,List.getElem?_append_right (by rw [Ak2,Ab2];omega),Ak2,Ab2,show k - 1024 * 66=k+1 - 67585 by omega]
    have hm:k+1 - 67585 < 15:=by omega
    generalize k+1 - 67585=m at *
    exact zP_get hm
 ·rw [List.getElem?_eq_none (by rw [List.length_set,BD5];omega),List.getElem?_eq_none (by rw [AG2];omega)]
theorem new_a {l:List Rl} {o:Nat} {z:List AV} (hz:z=sysZ) (h:o=67585):over (z.set 0 (.bool true)) o (stA l (fun _=>0) fun _=>0)=(Sy.new l).a:=by
 rw [hz,sysZ_0,AJ1 h rfl];unfold Sy.a;rfl
theorem plan_a {s:Sy} {l:List Rl} {o:Nat} (h:o=67585):over s.a o (stA l (fun _=>0) fun _=>0)=(Sy.mk s.K s.G s.B l (fun _=>0) fun _=>0).a:=by
 unfold Sy.a;exact AJ1 h rfl
theorem a_len {s:Sy}:s.a.length=67600:=by unfold Sy.a;exact AG2
theorem a_made {s:Sy}:s.a[0]? = some (.bool true):=by unfold Sy.a;exact AG1
theorem BP8 {z:List AV} (hz:z=sysZ):z.length=67600:=by rw [hz,BD5]
end Go.Pol
namespace Go.Proofs.Ytbhgfoikbkaohaa
open Go Go.Am Go.Pol
theorem AS2:∀ {l:List (Nat × AObj)} {k:List (Nat × AObj)→Prop},k l→AV1 [] l k
 | [],_,h=>h
 | a::l,k,h=>AS2 (l:=l) (k:=fun r=>k (a::r)) h
structure LocN (f:Nat) (avs:List AV) (e:Int) (ds:List AV):Prop where
 out:AO7 Try.prog G0 f avs [] 0 fun x h=>x = .tup [.ptr 0 0,.int .i64 e]∧h=⟨[(0,.cells ds)],1⟩
 pd:∀ x ∈ ds,Plain x
 pa:∀ x ∈ avs,Plain x
theorem end_new {top:Bool} {h:Hp} {x:AV} {i:Nat} {cs ds:List AV} {e:Int} (hx:x = .tup [.ptr i 0,.int .i64 e]) (hc:cs=ds) (h0:lk h.l i=some (.cells cs)) (pd:∀ x ∈ ds,Plain x):AT0 top Try.prog 0 h x (fun r' h'=>r' = .tup [.ptr 0 0,.int .i64 e]∧h'=⟨[(0,.cells ds)],1⟩):=by
 subst hx;subst hc
 have e0:rn [(0,i)] 0=i:=rfl
 have hs:AF7 (rn [(0,i)]) h ⟨[(0,.cells cs)],1⟩:=fun j o hj=>by
  simp only [lk] at hj
  split at hj
  ·rename_i e;subst e;exact ⟨_,h0⟩
  ·cases hj
 exact r9 [(0,i)] rfl (Nat.zero_le _) (M6 rfl) (Ag0 (A9 (X6 e0 (show 0 < 1 by decide)) (A9 (N9 rfl) J9))) (H7 hs (show 0 < 1 by decide) (by rw [e0];exact h0) rfl pd I8) ⟨rfl,rfl⟩
theorem cx_locN {f nx:Nat} {avs:List AV} {e:Int} {ds:List AV} {l:List (Nat × AObj)} {K:AV→Hp→Prop} (hc:LocN f avs e ds) (hk:K (.tup [.ptr nx 0,.int .i64 e]) ⟨(nx,.cells ds)::l,nx+1⟩):AH3 Try.prog G0 (.fn f [] []) avs ⟨l,nx⟩ K:=by
 have k0:back [] nx 0 nx:=rfl
 refine AO5 (r':=.tup [.ptr nx 0,.int .i64 e]) (l1:=[(nx,.cells ds)]) [] hc.out H8 rfl .nil (by simpa using D7 hc.pa) (by simp) (BE2 ⟨P6 k0,F4 A8,trivial⟩)
  (.cons k0 (D7 hc.pd) .nil) (AS2 hk)
theorem wtf {p q:Prop} (hq:q) (h:X4 q→p:=by (intro hQz;((repeat' ((try (conv=>whnf));first|(with_reducible first|refine M5 ?_|refine J4 ?_|refine M9 ?_|refine N8 ?_|refine J8 ?_|refine R4 ?_|refine M0 ?_|refine R3 rfl ?_|refine M4 ?_|refine H6 ?_|refine J6 ?_|refine J7 ?_|refine N7 ?_|refine G9 ?_|refine J5 (by decide +kernel) ?_|refine I9 (by decide +kernel) ?_|refine AF3 ?_|refine AF4 ?_|refine Ap5 ?_|refine Z5 ?_|refine AI6 ?_|refine Ai6 (by assumption) ?_|refine Ai7 (by assumption) ?_|refine Z0 (by omega) ?_|refine AI5 ?_)|((with_reducible refine AI7 ?_ ?_);focus omega)|((with_reducible refine AI8 ?_ ?_);focus omega)|((with_reducible apply V4 hQz)<;>(try intro hsp hQz))|((with_reducible refine Ap4 ?_ ?_);focus (first|omega|rfl|assumption|decide|(simp only [List.length_map,List.length_cons,List.length_nil];omega)))|(with_reducible first|refine AI0 ?_|refine Y9 ?_|refine Y8 ?_|refine AI2 ?_|refine AI1 ?_|refine AH8 ?_|refine Ap3 ?_|refine G7 ?_|refine Y6 ?_|refine M8 ?_|refine M7 ?_|refine G8 ?_|refine AH9 (by omega) ?_|refine Y7 (by omega) ?_)|refine K6 (by with_reducible assumption) ?_|refine K6 a_made ?_|refine AF2 (by with_reducible assumption) ?_|refine AM1 (by first|(simp only [List.length_cons,List.length_nil,List.length_set];omega)|fail) (by with_reducible assumption) ?_|(with_reducible first|refine x9 ?_|refine Ap6.mk (by kernel_rfl) ?_|refine AC6 rfl ?_|refine AA0 (by decide +kernel) ?_|refine z8 rfl ?_)|refine Q8 (by assumption) rfl (by omega) ?_|refine AS6 (by assumption) rfl rfl ?_|refine K4 (by assumption) ?_|refine Q0 (by assumption) ?_|refine P7 (by assumption) ?_|(refine AA9 F6 b37 rfl ?_;unfold c37)|refine G7 ?_|refine G8 ?_|refine AP9 rfl rfl ?_|refine V9 ?_|refine Q7 rfl ?_|refine AQ2 rfl ?_|refine AP0 rfl ?_|refine AC0 rfl ?_|refine L8 ?_|refine Aw2.mk ?_|((with_reducible apply V5 hQz)<;>(try intro hsp hQz))|exact hQz.out))<;>(try (conv=>whnf))))):p:=h ⟨hq⟩
section
variable {s:Sy} {l:List Rl} {i e:Int}
theorem p_new_no (hc:AF6 l=(i,e)) (he:e ≠ 0):J3 29 [.agg [.isl (l.map rlA)]] (.tup [.nilp,.int .i64 e]):=by
 have z:=Ah4 hc he
 refine J3.mk (Q5 F6 b29 H8 ⟨K8,trivial⟩ (F5 (AP1 P9 A8)) rfl ?_)
 unfold c29
 (refine wtf ?_;repeat' (first|with_reducible refine And.intro ?_ ?_|intro hsp))
 all_goals exact L9 rfl (F5 (AP1 P9 A8))
theorem p_new (hc:AF6 l=(i,0)):LocN 29 [.agg [.isl (l.map rlA)]] 0 (Sy.new l).a:=by
 have z:=BW7 hc (by have:=(Av2 hc).2;omega)
 refine LocN.mk (I6 F6 b29 rfl ?_) F3 (T9 K8)
 unfold c29
 obtain ⟨o,ho⟩:∃ o,o=67585:=⟨_,rfl⟩
 obtain ⟨y,hy⟩:∃ y,y=sysZ:=⟨_,rfl⟩
 rw [← ho,← hy]
 have hl:=BP8 hy
 have hov:=new_a (l:=l) hy ho
 unfold stA at hov
 (refine wtf ?_;repeat' (first|with_reducible refine And.intro ?_ ?_|intro hsp))
 rw [show Nat.ble (0+1) y.length=true from Nat.ble_eq_true_of_le (by omega)]
 (refine wtf ?_;repeat' (first|with_reducible refine And.intro ?_ ?_|intro hsp))
 refine AD0 (by omega) rfl ?_
 (refine wtf ?_;repeat' (first|with_reducible refine And.intro ?_ ?_|intro hsp))
 rw [show Nat.ble (o+15) (y.set 0 (.bool true)).length=true from Nat.ble_eq_true_of_le (by rw [List.length_set];omega)]
 (refine wtf ?_;repeat' (first|with_reducible refine And.intro ?_ ?_|intro hsp))
 all_goals exact end_new rfl rfl rfl F3
theorem p_plan (s:Sy) (l:List Rl):AD8 24 [.agg [.isl (l.map rlA)]] s.a (.int .i64 (s.plan l).1) (s.plan l).2.a:=by
 refine AD8.mk (I6 F6 b24 rfl ?_) F3 F3 (T9 K8) A8
 unfold c24
 obtain ⟨o,ho⟩:∃ o,o=67585:=⟨_,rfl⟩
 rw [← ho]
 have hc:AF6 l=((AF6 l).1,(AF6 l).2):=rfl
 unfold Sy.plan
 by_cases he:(AF6 l).2=0
 ·rw [if_pos he]
  rw [he] at hc
  have z:=BW7 hc (by have:=(Av2 hc).2;omega)
  have hl:=a_len (s:=s)
  have hov:=plan_a (s:=s) (l:=l) ho
  unfold stA at hov
  (refine wtf ?_;repeat' (first|with_reducible refine And.intro ?_ ?_|intro hsp))
  all_goals exact AI4 rfl A8 rfl F3
 ·rw [if_neg he]
  have z:=Ah4 hc he
  (refine wtf ?_;repeat' (first|with_reducible refine And.intro ?_ ?_|intro hsp))
  all_goals exact AI4 rfl A8 rfl F3
end
end Go.Proofs.Ytbhgfoikbkaohaa
namespace Go.Pol
open Go.Am
theorem q64 {t:Nat} (h:t < 100000):IntKind.i64.wrap (((t:Nat):Int).tdiv 64)=((t / 64:Nat):Int):=quo64 (a:=(t:Nat)) (by omega) (by omega)
theorem m64 {t:Nat}:((t:Nat):Int).tmod 64=((t % 64:Nat):Int):=rem64 (a:=(t:Nat)) (by omega)
theorem Ak7 {v:Int} {b:Bool} {e:Int}:∀ x ∈ [AV.int .i64 v,.bool b,.int .i64 e],Plain x:=fun x hx=>by
 simp only [List.mem_cons,List.not_mem_nil,or_false] at hx
 rcases hx with rfl|rfl|rfl
 ·exact A8
 ·exact D8
 ·exact A8
theorem BL5 {s:Sy} {a:Int}:∀ x ∈ s.kind a,Plain x:=by unfold Sy.kind;split<;>exact Ak7
end Go.Pol
namespace Go.Proofs.Ytbhgfoikbkaohaa
open Go Go.Am Go.Pol
theorem wtw {p q:Prop} (hq:q) (h:X4 q→p:=by (intro hQz;((repeat' ((try (conv=>whnf));first|(with_reducible first|refine M5 ?_|refine J4 ?_|refine M9 ?_|refine N8 ?_|refine J8 ?_|refine R4 ?_|refine M0 ?_|refine R3 rfl ?_|refine M4 ?_|refine H6 ?_|refine J6 ?_|refine J7 ?_|refine N7 ?_|refine G9 ?_|refine J5 (by decide +kernel) ?_|refine I9 (by decide +kernel) ?_|refine AF3 ?_|refine AF4 ?_|refine Ap5 ?_|refine Z5 ?_|refine AI6 ?_|refine Ai6 (by assumption) ?_|refine Ai7 (by assumption) ?_|refine Z0 (by omega) ?_|refine AI5 ?_)|((with_reducible refine AI7 ?_ ?_);focus omega)|((with_reducible refine AI8 ?_ ?_);focus omega)|((with_reducible apply V4 hQz)<;>(try intro hsp hQz))|((with_reducible refine Ap4 ?_ ?_);focus (first|omega|rfl|assumption|decide|(simp only [List.length_map,List.length_cons,List.length_nil];omega)))|(with_reducible first|refine AI0 ?_|refine Y9 ?_|refine Y8 ?_|refine AI2 ?_|refine AI1 ?_|refine AH8 ?_|refine Ap3 ?_|refine G7 ?_|refine Y6 ?_|refine M8 ?_|refine M7 ?_|refine G8 ?_|refine AH9 (by omega) ?_|refine Y7 (by omega) ?_)|refine K6 (by with_reducible assumption) ?_|refine K6 AG1 ?_|refine AF2 (by with_reducible assumption) ?_|refine AD0 (by rw [AG2];omega) (by with_reducible assumption) ?_|refine AD0 (by rw [Ak4];omega) (by with_reducible assumption) ?_|(with_reducible first|refine x9 ?_|refine Ap6.mk (by kernel_rfl) ?_|refine AC6 rfl ?_|refine AA0 (by decide +kernel) ?_|refine z8 rfl ?_)|refine Q8 (by assumption) rfl (by omega) ?_|refine AS6 (by assumption) rfl rfl ?_|refine K4 (by assumption) ?_|refine Q0 (by assumption) ?_|refine P7 (by assumption) ?_|(refine AA9 F6 b37 rfl ?_;unfold c37)|(refine AA9 F6 b55 rfl ?_;unfold c55)|refine G7 ?_|refine G8 ?_|refine AP9 rfl rfl ?_|refine V9 ?_|refine Q7 rfl ?_|refine AQ2 rfl ?_|refine AP0 rfl ?_|refine AC0 rfl ?_|refine L8 ?_|refine Aw2.mk ?_|((with_reducible apply V5 hQz)<;>(try intro hsp hQz))|exact hQz.out))<;>(try (conv=>whnf))))):p:=h ⟨hq⟩
section
variable {s:Sy} {a b:Int}
theorem BE6 {a b:Int}:∀ x ∈ [AV.int .i64 a,.int .u8 b],Plain x:=AP1 A8 A8
theorem BU7:AD8 47 [.int .i64 a,.int .u8 b] s.a (.int .i64 (s.write a b).1) (s.write a b).2.a:=by
 refine AD8.mk (I6 F6 b47 rfl ?_) F3 F3 BE6 A8
 unfold c47
 unfold Sy.write
 by_cases h1:a < 0∨65536≤a
 ·rw [if_pos h1];unfold Sy.a
  (refine wtw ?_;repeat' (first|with_reducible refine And.intro ?_ ?_|intro hsp))
  all_goals first|exact AI4 rfl A8 rfl (D9 C8)|(exfalso;omega)
 ·rw [if_neg h1]
  obtain ⟨t,rfl⟩:∃ t:Nat,a=(t:Nat):=⟨a.toNat,by omega⟩
  simp only [Int.toNat_natCast]
  have hw:=q64 (t:=t) (by omega)
  have hr:=m64 (t:=t)
  have hk:(sysB s.K s.M s.B (stA s.l s.C s.H))[1+t / 64 * 66+0]? = some (.int .i64 (s.K (t / 64))):=AG3 (by omega)
  by_cases h2:s.K (t / 64)=2
  ·rw [if_pos h2]
   have hs:(sysB s.K s.M s.B (stA s.l s.C s.H)).set (1+t / 64 * 66+2+t % 64) (.int .u8 b)=sysB s.K s.M (AD9 s.B (t / 64) (E9 (s.B (t / 64)) (t % 64) b)) (stA s.l s.C s.H):=Ax4 (by omega) (by omega)
   unfold Sy.a
   (refine wtw ?_;repeat' (first|with_reducible refine And.intro ?_ ?_|intro hsp))
   all_goals first|exact AI4 rfl A8 rfl (D9 C8)|(exfalso;omega)|trace_state
  ·rw [if_neg h2]
   unfold Sy.a
   (refine wtw ?_;repeat' (first|with_reducible refine And.intro ?_ ?_|intro hsp))
   all_goals first|exact AI4 rfl A8 rfl (D9 C8)|(exfalso;exact absurd (by assumption) h2)|(exfalso;exact h2 (by assumption))|trace_state
theorem AR3 {v e:Int}:Plain (.tup [.int .u8 v,.int .i64 e]):=F5 (AP1 A8 A8)
theorem p_read:AD8 33 [.int .i64 a] s.a (.tup [.int .u8 (s.read a).1,.int .i64 (s.read a).2]) s.a:=by
 refine AD8.mk (I6 F6 b33 rfl ?_) F3 F3 (T9 A8) AR3
 unfold c33
 unfold Sy.read
 by_cases h1:a < 0∨65536≤a
 ·rw [if_pos h1];unfold Sy.a
  (refine wtw ?_;repeat' (first|with_reducible refine And.intro ?_ ?_|intro hsp))
  all_goals first|exact AI4 rfl AR3 rfl (D9 C8)|(exfalso;omega)
 ·rw [if_neg h1]
  obtain ⟨t,rfl⟩:∃ t:Nat,a=(t:Nat):=⟨a.toNat,by omega⟩
  simp only [Int.toNat_natCast]
  have hw:=q64 (t:=t) (by omega)
  have hr:=m64 (t:=t)
  have hk:(sysB s.K s.M s.B (stA s.l s.C s.H))[1+t / 64 * 66+0]? = some (.int .i64 (s.K (t / 64))):=AG3 (by omega)
  by_cases h2:s.K (t / 64)=2
  ·rw [if_pos h2]
   have hs:(sysB s.K s.M s.B (stA s.l s.C s.H))[1+t / 64 * 66+2+t % 64]? = some (.int .u8 (s.B (t / 64) (t % 64))):=sys_byte (by omega) (by omega)
   unfold Sy.a
   (refine wtw ?_;repeat' (first|with_reducible refine And.intro ?_ ?_|intro hsp))
   all_goals first|exact AI4 rfl AR3 rfl (D9 C8)|(exfalso;omega)|trace_state
  ·rw [if_neg h2]
   unfold Sy.a
   (refine wtw ?_;repeat' (first|with_reducible refine And.intro ?_ ?_|intro hsp))
   all_goals first|exact AI4 rfl AR3 rfl (D9 C8)|(exfalso;exact absurd (by assumption) h2)|(exfalso;exact h2 (by assumption))|trace_state
theorem p_kind:AD8 43 [.int .i64 a] s.a (.tup (s.kind a)) s.a:=by
 refine AD8.mk (I6 F6 b43 rfl ?_) F3 F3 (T9 A8) (F5 BL5)
 unfold c43
 unfold Sy.kind
 by_cases h1:a < 0∨1024≤a
 ·rw [if_pos h1];unfold Sy.a
  (refine wtw ?_;repeat' (first|with_reducible refine And.intro ?_ ?_|intro hsp))
  all_goals first|exact AI4 rfl (F5 Ak7) rfl (D9 C8)|(exfalso;omega)
 ·rw [if_neg h1]
  obtain ⟨t,rfl⟩:∃ t:Nat,a=(t:Nat):=⟨a.toNat,by omega⟩
  simp only [Int.toNat_natCast]
  have hk:(sysB s.K s.M s.B (stA s.l s.C s.H))[1+t * 66+0]? = some (.int .i64 (s.K t)):=AG3 (by omega)
  have hh:(sysB s.K s.M s.B (stA s.l s.C s.H))[1+t * 66+1]? = some (.bool (s.M t)):=AX6 (by omega)
  unfold Sy.a
  (refine wtw ?_;repeat' (first|with_reducible refine And.intro ?_ ?_|intro hsp))
  all_goals first|exact AI4 rfl (F5 Ak7) rfl (D9 C8)|(exfalso;omega)|trace_state
end
end Go.Proofs.Ytbhgfoikbkaohaa
namespace Go.Pol
open Go.Am
def An8 (G:Nat→Bool):Nat→Nat
 | 0 => 0
 | n+1=>An8 G n+if n % 16=0∧G (n / 16)=true then 1 else 0
theorem cntH_le {G:Nat→Bool}:∀ n,An8 G n≤n
 | 0=>Nat.le_refl _
 | n+1=>by have:=cntH_le (G:=G) n;unfold An8;split<;>omega
theorem cntH_16 {G:Nat→Bool} {g:Nat}:∀ j,j≤15→An8 G (g * 16+(j+1))=An8 G (g * 16)+if G g=true then 1 else 0
 | 0,_=>by
  show An8 G (g * 16)+(if g * 16 % 16=0∧G (g * 16 / 16)=true then 1 else 0)=_
  rw [show g * 16 / 16=g by omega]
  congr 1
  by_cases h:G g=true
  ·rw [if_pos h,if_pos ⟨by omega,h⟩]
  ·rw [if_neg h,if_neg fun hh=>h hh.2]
 | j+1,h=>by
  show An8 G (g * 16+(j+1))+(if (g * 16+(j+1)) % 16=0∧G ((g * 16+(j+1)) / 16)=true then 1 else 0)=_
  rw [cntH_16 j (by omega),if_neg (c:=(g * 16+(j+1)) % 16=0∧G ((g * 16+(j+1)) / 16)=true) fun h=>by omega];rfl
theorem cntH_G {G:Nat→Bool}:∀ g,An8 G (g * 16)=cntG G g
 | 0=>rfl
 | g+1=>by
  rw [show (g+1) * 16=g * 16+(15+1) by omega,cntH_16 15 (by omega),cntH_G g];rfl
theorem Ai3 {K:Nat→Int} {v:Int} {n:Nat} (h:K n=v):((AS7 K v (n+1):Nat):Int)=(AS7 K v n:Nat)+1:=by
 show ((AS7 K v n+(if K n=v then 1 else 0):Nat):Int)=_;rw [if_pos h];omega
theorem Z4 {K:Nat→Int} {v:Int} {n:Nat} (h:¬ K n=v):((AS7 K v (n+1):Nat):Int)=(AS7 K v n:Nat):=by
 show ((AS7 K v n+(if K n=v then 1 else 0):Nat):Int)=_;rw [if_neg h];omega
theorem cntH_y {G:Nat→Bool} {n:Nat} (h:fst (n:Nat)) (h2:G (n / 16)=true):((An8 G (n+1):Nat):Int)=(An8 G n:Nat)+1:=by
 obtain ⟨g,e,_⟩:=BA5 h
 show ((An8 G n+(if n % 16=0∧G (n / 16)=true then 1 else 0):Nat):Int)=_;rw [if_pos ⟨by omega,h2⟩];omega
theorem cntH_n {G:Nat→Bool} {n:Nat} (hn:n < 1024) (h:¬ (fst (n:Nat)∧G (n / 16)=true)):((An8 G (n+1):Nat):Int)=(An8 G n:Nat):=by
 show ((An8 G n+(if n % 16=0∧G (n / 16)=true then 1 else 0):Nat):Int)=_
 rw [if_neg fun h2=>h ⟨⟨by omega,by omega,by rw [Int.tmod_eq_emod_of_nonneg (by omega)];omega⟩,h2.2⟩];omega
theorem Au8 {s:Sy}:∀ x ∈ s.counts,Plain x:=fun x hx=>by
 simp only [Sy.counts,List.mem_cons,List.not_mem_nil,or_false] at hx
 rcases hx with rfl|rfl|rfl|rfl|rfl<;>exact A8
theorem BE7 {s:Sy} {e:Int}:Plain (.tup [.agg s.counts,.int .i64 e]):=F5 fun x hx=>by
 simp only [List.mem_cons,List.not_mem_nil,or_false] at hx
 rcases hx with rfl|rfl
 ·exact J2 Au8
 ·exact A8
theorem plain_5 {a b c d e:Int}:∀ x ∈ [AV.int .i64 a,.int .i64 b,.int .i64 c,.int .i64 d,.int .i64 e],Plain x:=fun x hx=>by
 simp only [List.mem_cons,List.not_mem_nil,or_false] at hx
 rcases hx with rfl|rfl|rfl|rfl|rfl<;>exact A8
theorem plain_4 {a b c d:Int}:∀ x ∈ [AV.int .i64 a,.int .i64 b,.int .i64 c,.int .i64 d],Plain x:=fun x hx=>by
 simp only [List.mem_cons,List.not_mem_nil,or_false] at hx
 rcases hx with rfl|rfl|rfl|rfl<;>exact A8
end Go.Pol
namespace Go.Proofs.Ytbhgfoikbkaohaa
open Go Go.Am Go.Pol
theorem ppx_Th {p:Prop} (h:p:=by ((first|with_reducible assumption|(with_reducible first|apply K3 _|apply Q9 K3|apply C8|apply AE9|apply D9 C8|apply AE4 C8|apply AL3|apply F3|apply plain_5|apply plain_4|fail)|exact ppw|fail);first|done|fail)):p:=h
open Go.Proofs.Ytbhgfoikbkaohaa renaming plx_Sd → plx
open Go.Proofs.Ytbhgfoikbkaohaa renaming ppx_Th → ppx
theorem wth {p q:Prop} (hq:q) (h:X4 q→p:=by (intro hQz;((repeat' ((try (conv=>whnf));first|(with_reducible first|refine M5 ?_|refine J4 ?_|refine M9 ?_|refine N8 ?_|refine J8 ?_|refine R4 ?_|refine M0 ?_|refine R3 rfl ?_|refine M4 ?_|refine H6 ?_|refine J6 ?_|refine J7 ?_|refine N7 ?_|refine G9 ?_|refine J5 (by decide +kernel) ?_|refine I9 (by decide +kernel) ?_|refine AF3 ?_|refine AF4 ?_|refine Ap5 ?_|refine Z5 ?_|refine AI6 ?_|refine Ai6 (by assumption) ?_|refine Ai7 (by assumption) ?_|refine Z0 (by omega) ?_|refine AI5 ?_)|((with_reducible refine AI7 ?_ ?_);focus omega)|((with_reducible refine AI8 ?_ ?_);focus omega)|((with_reducible apply V4 hQz)<;>(try intro hsp hQz))|((with_reducible refine Ap4 ?_ ?_);focus (first|omega|rfl|assumption|decide|(simp only [List.length_map,List.length_cons,List.length_nil];omega)))|(with_reducible first|refine AI0 ?_|refine Y9 ?_|refine Y8 ?_|refine AI2 ?_|refine AI1 ?_|refine AH8 ?_|refine Ap3 ?_|refine G7 ?_|refine Y6 ?_|refine M8 ?_|refine M7 ?_|refine G8 ?_|refine AH9 (by omega) ?_|refine Y7 (by omega) ?_)|refine K6 (by with_reducible assumption) ?_|refine K6 AG1 ?_|refine AF2 (by with_reducible assumption) ?_|(with_reducible first|refine x9 ?_|refine Ap6.mk (by kernel_rfl) ?_|refine AC6 rfl ?_|refine AA0 (by decide +kernel) ?_|refine z8 rfl ?_)|refine K4 (by assumption) ?_|refine Q0 (by assumption) ?_|refine P7 (by assumption) ?_|(refine AA9 F6 b37 rfl ?_;unfold c37)|refine G7 ?_|refine G8 ?_|refine AP9 rfl rfl ?_|refine V9 ?_|refine Q7 rfl ?_|refine AQ2 rfl ?_|refine AP0 rfl ?_|refine AC0 rfl ?_|refine L8 ?_|refine Aw2.mk ?_|((with_reducible apply V5 hQz)<;>(try intro hsp hQz))|exact hQz.out))<;>(try (conv=>whnf))))):p:=h ⟨hq⟩
section
variable {s:Sy}
theorem Ak9 (hg:GoodS s):AD8 22 [] s.a (.tup [.agg s.counts,.int .i64 0]) s.a:=by
 refine AD8.mk (I6 F6 b22 rfl ?_) F3 F3 (fun x hx=>by cases hx) BE7
 unfold c22
 unfold Sy.a
 (refine wth ?_;repeat' (first|with_reducible refine And.intro ?_ ?_|intro hsp))
 (refine O9 [0,2,4,5] (fun (i:Nat)=>[(16,.int .i64 (i:Nat))]) (fun (i:Nat)=>⟨[(0,.cells (sysB s.K s.M s.B (stA s.l s.C s.H))),(1,.cells [.int .i64 0,.int .i64 0,.int .i64 0,.int .i64 0,.int .i64 0]),(2,.cells [.int .i64 (AS7 s.K 0 i:Nat),.int .i64 (AS7 s.K 1 i:Nat),.int .i64 (AS7 s.K 2 i:Nat),.int .i64 (AS7 s.K 3 i:Nat),.int .i64 (An8 s.G i:Nat)]),(3,.cells [.ptr 2 0,.ptr 2 1,.ptr 2 2,.ptr 2 3])],4⟩) (fun (i:Nat)=>i≤1024) (fun (i:Nat)=>1024 - i) (0) [] rfl (fun _=>by first|exact Nat.zero_le _|(dsimp only;omega)) ?_ (by ((try (conv=>whnf));exact U9)) ?_)
 ·exact Nat.zero_le _
 rintro i hi
 have c0:=Ad7 (K:=s.K) (v:=0) i
 have c1:=Ad7 (K:=s.K) (v:=1) i
 have c2:=Ad7 (K:=s.K) (v:=2) i
 have c3:=Ad7 (K:=s.K) (v:=3) i
 have c4:=cntH_le (G:=s.G) i
 by_cases hin:i < 1024
 ·have hk:(sysB s.K s.M s.B (stA s.l s.C s.H))[1+i * 66+0]? = some (.int .i64 (s.K i)):=AG3 (by omega)
  have hh:(sysB s.K s.M s.B (stA s.l s.C s.H))[1+i * 66+1]? = some (.bool (s.M i)):=AX6 (by omega)
  have z:=BX1 (i:Nat)
  have hkk:=hg.kind i
  have e4:∃ d:Int,((An8 s.G (i+1):Nat):Int)=d∧((s.M i=true∧fst (i:Nat))→d=(An8 s.G i:Nat)+1)∧(¬ (s.M i=true∧fst (i:Nat))→d=(An8 s.G i:Nat)) :=
   ⟨_,rfl,fun h=>cntH_y h.2 h.1,fun h=>cntH_n (by omega) fun h2=>h ⟨h2.2,h2.1⟩⟩
  obtain ⟨d,e4,e5,e6⟩:=e4
  have key:s.K i=0∨s.K i=1∨s.K i=2∨s.K i=3:=by omega
  cases hm:s.M i with
  | false =>
   have e6:=e6 (by rw [hm];simp)
   rw [hm] at hh
   rcases key with h|h|h|h
   ·rw [h] at hk
    (refine wth ?_;repeat' (first|with_reducible refine And.intro ?_ ?_|intro hsp))
    all_goals exact G6 (i+1) [] (by (try dsimp only);omega) (by first|omega|(dsimp only;omega)) rfl (by ((try dsimp only);rw [e4,e6,Ai3 h,Z4 (v:=1) (by omega),Z4 (v:=2) (by omega),Z4 (v:=3) (by omega)]);exact U9)
   ·rw [h] at hk
    (refine wth ?_;repeat' (first|with_reducible refine And.intro ?_ ?_|intro hsp))
    all_goals exact G6 (i+1) [] (by (try dsimp only);omega) (by first|omega|(dsimp only;omega)) rfl (by ((try dsimp only);rw [e4,e6,Ai3 h,Z4 (v:=0) (by omega),Z4 (v:=2) (by omega),Z4 (v:=3) (by omega)]);exact U9)
   ·rw [h] at hk
    (refine wth ?_;repeat' (first|with_reducible refine And.intro ?_ ?_|intro hsp))
    all_goals exact G6 (i+1) [] (by (try dsimp only);omega) (by first|omega|(dsimp only;omega)) rfl (by ((try dsimp only);rw [e4,e6,Ai3 h,Z4 (v:=1) (by omega),Z4 (v:=0) (by omega),Z4 (v:=3) (by omega)]);exact U9)
   ·rw [h] at hk
    (refine wth ?_;repeat' (first|with_reducible refine And.intro ?_ ?_|intro hsp))
    all_goals exact G6 (i+1) [] (by (try dsimp only);omega) (by first|omega|(dsimp only;omega)) rfl (by ((try dsimp only);rw [e4,e6,Ai3 h,Z4 (v:=1) (by omega),Z4 (v:=2) (by omega),Z4 (v:=0) (by omega)]);exact U9)
  | true =>
   rw [hm] at hh
   have h:=hg.huge i hm
   rw [h] at hk
   by_cases hf:fst (i:Nat)
   ·have e5:=e5 ⟨hm,hf⟩
    rw [decide_eq_true hf] at z
    (refine wth ?_;repeat' (first|with_reducible refine And.intro ?_ ?_|intro hsp))
    all_goals exact G6 (i+1) [] (by (try dsimp only);omega) (by first|omega|(dsimp only;omega)) rfl (by ((try dsimp only);rw [e4,e5,Ai3 h,Z4 (v:=1) (by omega),Z4 (v:=0) (by omega),Z4 (v:=3) (by omega)]);exact U9)
   ·have e6:=e6 fun h=>hf h.2
    rw [decide_eq_false hf] at z
    (refine wth ?_;repeat' (first|with_reducible refine And.intro ?_ ?_|intro hsp))
    all_goals exact G6 (i+1) [] (by (try dsimp only);omega) (by first|omega|(dsimp only;omega)) rfl (by ((try dsimp only);rw [e4,e6,Ai3 h,Z4 (v:=1) (by omega),Z4 (v:=0) (by omega),Z4 (v:=3) (by omega)]);exact U9)
 ·obtain rfl:i=1024:=by omega
  have e:=cntH_G (G:=s.G) 64
  have e':An8 s.G 1024=cntG s.G 64:=e
  rw [e']
  (refine wth ?_;repeat' (first|with_reducible refine And.intro ?_ ?_|intro hsp))
  all_goals exact AI4 rfl BE7 rfl (D9 C8)
end
end Go.Proofs.Ytbhgfoikbkaohaa
namespace Go.Proofs.Ytbhgfoikbkaohaa.Sh
end Go.Proofs.Ytbhgfoikbkaohaa.Sh
namespace Go.Pol
open Go.Am Go.Proofs.Ytbhgfoikbkaohaa.Sh
def inR (m x:Int):Prop:=0≤x∧x < m
instance (m x:Int):Decidable (inR m x):=by unfold inR;infer_instance
def Sy.page (s:Sy) (f:Nat) (x:Nat→Int):Sy:={ s with B:=AD9 s.B f fun j=>if j < 64 then x j else 0 }
theorem good_page {s:Sy} {f:Nat} {x:Nat→Int} (h:GoodS s) (hk:s.K f=2):GoodS (s.page f x):=by
 refine ⟨h.hv,h.kind,h.huge,fun p hp=>?_,h.cK,fun p j hj=>?_⟩
 ·show AD9 s.B f _ p=_
  unfold AD9
  rw [if_neg fun e=>hp (by rw [e];exact hk)]
  exact h.zero p hp
 ·show AD9 s.B f _ p j=0
  unfold AD9
  split
  ·show (if j < 64 then x j else 0)=0;rw [if_neg (by omega)]
  ·exact h.cB p j hj
def Sy.turn (s:Sy) (f:Nat) (w:Int) (k:Nat):Sy:={ s.ref k with K:=fun p=>if p=f then w else s.K p,B:=fun p=>if p=f then fun _=>0 else s.B p }
theorem BC3 {s:Sy} {f:Nat} {v w:Int} {k:Nat} (hf:f < 1024) (hk:s.K f=v) (hm:s.M f=false):s.chg (f:Nat) 1 v w k=if isR s.l s.C k then (60,s.ref k) else (0,s.turn f w k):=by
 unfold Sy.chg
 have hok:okR s.K s.M ((f:Nat):Int).toNat (1:Int).toNat v:=fun i hi=>by
  have hi:i < 1:=hi
  rw [show ((f:Nat):Int).toNat+i=f by omega];exact ⟨hk,hm⟩
 have h1:(1:Int).toNat=1:=rfl
 have e1:AX9 s.K ((f:Nat):Int).toNat (1:Int).toNat w=fun p=>if p=f then w else s.K p:=funext fun p=>by
  show (if _ then w else s.K p)=_
  by_cases e:p=f
  ·rw [if_pos e,if_pos (by omega)]
  ·rw [if_neg e,if_neg (by omega)]
 have e2:Aj9 s.B ((f:Nat):Int).toNat (1:Int).toNat=fun p=>if p=f then fun _=>0 else s.B p:=funext fun p=>by
  show (if _ then (fun _=>0) else s.B p)=_
  by_cases e:p=f
  ·rw [if_pos e,if_pos (by omega)]
  ·rw [if_neg e,if_neg (by omega)]
 rw [if_neg (by omega),if_pos hok,e1,e2]
 rfl
theorem AQ6 {s:Sy} {f p:Nat} {w:Int} {k:Nat}:(s.turn f w k).K p=if p=f then w else s.K p:=rfl
theorem BP2 {s:Sy} {f p:Nat} {w:Int} {k:Nat}:(s.turn f w k).B p=if p=f then fun _=>0 else s.B p:=rfl
theorem At5 {s:Sy} {f:Nat} {v w:Int} {k:Nat} (h:GoodS s) (hf:f < 1024) (hw:0≤w∧w≤3) (hk:s.K f=v) (hm:s.M f=false):GoodS (s.turn f w k):=by
 refine ⟨Ao0 h.hv,fun p=>?_,fun p hp=>?_,fun p hp=>?_,fun p hp=>?_,fun p j hj=>?_⟩
 ·rw [AQ6];split
  ·exact hw
  ·exact h.kind p
 ·rw [AQ6]
  have hp':s.M p=true:=hp
  rw [if_neg fun e=>by rw [e,hm] at hp';cases hp']
  exact h.huge p hp'
 ·rw [BP2]
  split
  ·rfl
  ·rename_i e
   rw [AQ6,if_neg e] at hp
   exact h.zero p hp
 ·rw [AQ6,if_neg (by omega)];exact h.cK p hp
 ·rw [BP2];split
  ·rfl
  ·exact h.cB p j hj
theorem plan_K {s:Sy} {l:List Rl}:(s.plan l).2.K=s.K:=by unfold Sy.plan;split<;>rfl
theorem plan_M {s:Sy} {l:List Rl}:(s.plan l).2.M=s.M:=by unfold Sy.plan;split<;>rfl
theorem plan_B {s:Sy} {l:List Rl}:(s.plan l).2.B=s.B:=by unfold Sy.plan;split<;>rfl
theorem new_chg {l:List Rl} {a n:Int} (he:((Sy.new l).chg a n 0 1 0).1=0):(∀ p,((Sy.new l).chg a n 0 1 0).2.K p=if a.toNat≤p∧p < a.toNat+n.toNat then 1 else 0)∧(∀ p,((Sy.new l).chg a n 0 1 0).2.M p=false)∧(∀ p j,((Sy.new l).chg a n 0 1 0).2.B p j=0)∧((Sy.new l).chg a n 0 1 0).2.l=l:=by
 unfold Sy.chg at he ⊢
 split at he
 ·exact absurd he (by decide:¬ (7:Int)=0)
 rename_i c1
 rw [if_neg c1]
 split at he
 ·rename_i c2
  rw [if_pos c2]
  split at he
  ·exact absurd he (by decide:¬ (60:Int)=0)
  ·rename_i c3
   rw [if_neg c3]
   refine ⟨fun p=>?_,fun p=>rfl,fun p j=>?_,rfl⟩
   ·show AX9 (Sy.new l).K _ _ 1 p=_
    unfold AX9;rfl
   ·show Aj9 (Sy.new l).B _ _ p j=0
    unfold Aj9;split<;>rfl
 ·exact absurd he (by decide:¬ (9:Int)=0)
def wrK (s:Sy) (f:Nat) (x:Nat→Int) (k:Nat):Sy:={ s with B:=AD9 s.B f fun j=>if j < k then x j else s.B f j }
theorem wrK_0 {s:Sy} {f:Nat} {x:Nat→Int}:wrK s f x 0=s:=by
 unfold wrK
 have : AD9 s.B f (fun j=>if j < 0 then x j else s.B f j)=s.B:=funext fun p=>by
  unfold AD9
  split
  ·rename_i e;subst e;exact funext fun j=>if_neg (by omega)
  ·rfl
 rw [this]
theorem wrK_K {s:Sy} {f:Nat} {x:Nat→Int} {k:Nat}:(wrK s f x k).K=s.K:=rfl
theorem wrK_s {s:Sy} {f:Nat} {x:Nat→Int} {k:Nat} (hk:s.K f=2) (hf:f < 1024) (hj:k < 64):(wrK s f x k).write ((f:Int) * 64+(k:Nat)) (x k)=(0,wrK s f x (k+1)):=by
 unfold Sy.write
 have h1:((f:Int) * 64+(k:Nat)).toNat / 64=f:=by omega
 have h2:((f:Int) * 64+(k:Nat)).toNat % 64=k:=by omega
 rw [if_neg (by omega),h1,h2,wrK_K,if_pos hk]
 unfold wrK
 dsimp only
 have : AD9 (AD9 s.B f fun j=>if j < k then x j else s.B f j) f (E9 (AD9 s.B f (fun j=>if j < k then x j else s.B f j) f) k (x k))=AD9 s.B f fun j=>if j < k+1 then x j else s.B f j:=funext fun p=>by
  unfold AD9
  by_cases e:p=f
  ·rw [if_pos e,if_pos e,if_pos rfl]
   refine funext fun j=>?_
   unfold E9
   by_cases h3:j=k
   ·subst h3;rw [if_pos rfl,if_pos (by omega)]
   ·rw [if_neg h3]
    show (if j < k then x j else s.B f j)=if j < k+1 then x j else s.B f j
    by_cases h4:j < k
    ·rw [if_pos h4,if_pos (by omega)]
    ·rw [if_neg h4,if_neg (by omega)]
  ·rw [if_neg e,if_neg e,if_neg e]
 rw [this]
theorem wrK_all {s:Sy} (hg:GoodS s) {f:Nat} {x:Nat→Int}:wrK s f x 64=s.page f x:=by
 unfold wrK Sy.page
 have : (fun j=>if j < 64 then x j else s.B f j)=fun j=>if j < 64 then x j else 0:=funext fun j=>by
  by_cases h:j < 64
  ·rw [if_pos h,if_pos h]
  ·rw [if_neg h,if_neg h,hg.cB f j (by omega)]
 rw [this]
theorem read_at {s:Sy} {f k:Nat} (hk:s.K f=2) (hf:f < 1024) (hj:k < 64):s.read ((f:Int) * 64+(k:Nat))=(s.B f k,0):=by
 unfold Sy.read
 rw [if_neg (by omega),show ((f:Int) * 64+(k:Nat)).toNat / 64=f by omega,show ((f:Int) * 64+(k:Nat)).toNat % 64=k by omega,if_pos hk]
theorem BT4 {a n i:Nat} (h:i≤n):List.range' a n=List.range' a i++List.range' (a+i) (n - i):=by
 rw [List.range'_append_1,Nat.add_sub_cancel' h]
def rdK (f:Nat→Int) (k:Nat):Nat→AV:=fun j=>.int .u8 (if j < k then f j else 0)
def bcA (f:Nat→Int):List AV:=memA 64 fun j=>.int .u8 (f j)
theorem rdK_0 {f:Nat→Int}:memA 64 (rdK f 0)=List.replicate 64 (.int .u8 0):=by
 refine List.ext_getElem? fun i=>?_
 by_cases h:i < 64
 ·rw [List.getElem?_replicate,if_pos h,X9 h];unfold rdK;rw [if_neg (by omega)]
 ·rw [List.getElem?_eq_none (by rw [AA7];omega),List.getElem?_eq_none (by rw [List.length_replicate];omega)]
theorem rdK_s {f:Nat→Int} {k:Nat} (hk:k < 64):(memA 64 (rdK f k)).set k (.int .u8 (f k))=memA 64 (rdK f (k+1)):=by
 rw [Al5]
 refine AB2 fun j _=>?_
 unfold rdK
 split
 ·rename_i e;subst e;rw [if_pos (by omega)]
 ·rename_i e
  by_cases h:j < k
  ·rw [if_pos h,if_pos (by omega)]
  ·rw [if_neg h,if_neg (by omega)]
theorem rdK_all {f:Nat→Int}:memA 64 (rdK f 64)=bcA f:=AB2 fun j hj=>by unfold rdK;rw [if_pos hj]
theorem AJ5 {f:Nat→Int} {k:Nat}:∀ x ∈ memA 64 (rdK f k),Plain x:=AM4 fun _ _=>A8
theorem AD3 {f:Nat→Int}:∀ x ∈ bcA f,Plain x:=AM4 fun _ _=>A8
theorem AC7 {f:Nat→Int}:(bcA f).length=64:=AA7 _ _
theorem BF1:∀ (a cs:List AV),over (a++cs) a.length cs=a++cs
 | a,[]=>rfl
 | a,v::vs=>by
  show over ((a++v::vs).set a.length v) (a.length+1) vs=a++v::vs
  have e:(a++v::vs).set a.length v=(a++[v])++vs:=by simp
  have h:=BF1 (a++[v]) vs
  rw [List.length_append] at h
  rw [e]
  exact h.trans (by simp)
theorem over_self (cs:List AV):over cs 0 cs=cs:=BF1 [] cs
theorem BC4 {f:Nat→Int}:(bcA f).take 64=bcA f:=List.take_of_length_le (by rw [AC7];exact Nat.le_refl _)
end Go.Pol
