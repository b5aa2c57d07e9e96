/-
 A walk as an argument's default: what is left of it is put together in one proposition. No program in sight.
 Zero values with very many cells: the code is turned with names for them. No program in sight.
-/
import Derived.Test.YtbhgfoikbkaohaaQai
set_option linter.unusedSimpArgs false
set_option linter.unusedVariables false
namespace Go.Am
structure Y7 (p:Prop):Prop where
 out:p
section
variable {p A B qa qb:Prop} {b:Bool}
theorem AK6 [Decidable p] (h:p) (hA:A):BrX (decide p) A B:=Ak7 (decide_eq_true h) hA
theorem AK7 [Decidable p] (h:¬ p) (hB:B):BrX (decide p) A B:=Ak8 (decide_eq_false h) hB
theorem V7 [Decidable p] (hq:Y7 ((p→qa)∧(¬ p→qb))) (hA:p→Y7 qa→A) (hB:¬ p→Y7 qb→B):BrX (decide p) A B:=br_d (fun h=>hA h ⟨hq.out.1 h⟩) fun h=>hB h ⟨hq.out.2 h⟩
theorem V8 (hq:Y7 ((b=true→qa)∧(b=false→qb))) (hA:b=true→Y7 qa→A) (hB:b=false→Y7 qb→B):BrX b A B:=br_b (fun h=>hA h ⟨hq.out.1 h⟩) fun h=>hB h ⟨hq.out.2 h⟩
theorem eqn_q {els:List (List AV)} {K:Bool→Prop} (hq:Y7 (qa∧qb)) (hA:Y7 qa→K true) (hB:Y7 qb→K false):EqnX (.isl els) K:=by
 cases els with
 | nil=>exact ⟨hA ⟨hq.out.1⟩,hB ⟨hq.out.2⟩⟩
 | cons a l=>exact ⟨hB ⟨hq.out.2⟩⟩
theorem eqn_n {K:Bool→Prop} (hq:Y7 (qa∧qb)) (hA:Y7 qa→K true) (hB:Y7 qb→K false):EqnX .nils K:=⟨hA ⟨hq.out.1⟩,hB ⟨hq.out.2⟩⟩
theorem Ai6 {el:List AV} {els:List (List AV)} {K:Bool→Prop} (h:K false):EqnX (.isl (el::els)) K:=⟨h⟩
theorem Ai5 {α:Type} {f:α→List AV} {x:α} {l:List α} {K:Bool→Prop} (h:K false):EqnX (.isl ((x::l).map f)) K:=⟨h⟩
theorem BS4 {id off len cp sz:Nat} {K:Bool→Prop} (h:K false):EqnX (.sl id off len cp sz) K:=⟨h⟩
end
end Go.Am
namespace Go.Am
def eqVA (v:Value) (x:AV):Bool:=match v,x with
 | .int k a,.int k' b=>decide (k=k') && decide (a=b)
 | .bool a,.bool b=>a == b
 | .slice none 0 0,.nils=>true
 | _,_=>false
theorem eqVA_ok {v:Value} {x:AV} (h:eqVA v x=true):ofL v=some x:=by
 unfold eqVA at h
 split at h
 ·simp only [Bool.and_eq_true,decide_eq_true_eq] at h
  obtain ⟨rfl,rfl⟩:=h
  rfl
 ·simp only [beq_iff_eq] at h
  subst h;rfl
 ·rfl
 ·cases h
def chkV:List Value→List AV→Bool
 | [],[]=>true
 | v::r,y::s=>match eqVA v y with
  | true=>chkV r s
  | false=>false
 | _,_=>false
theorem BT9:∀ {l:List Value} {m:List AV},chkV l m=true→l.mapM ofL=some m
 | [],[],_=>rfl
 | v::r,y::s,h=>by
  simp only [chkV] at h
  split at h
  ·rename_i e
   rw [List.mapM_cons,eqVA_ok e,BT9 h];rfl
  ·cases h
 | [],_::_,h=>by cases h
 | _::_,[],h=>by cases h
def chkZ (i:TypeInfo) (z:List AV):Bool:=match i.zero with
 | some v=>chkV v.cells.toList z
 | none=>false
theorem chkZ_ok {P:Program} {t:TypeId} {i:TypeInfo} {z:List AV} (h1:P.info? t=some i) (h:chkZ i z=true):zeroOf P t=some z:=by
 unfold chkZ at h
 unfold zeroOf
 rw [h1]
 split at h
 ·rename_i v hv
  show (i.zero).bind _=_
  rw [hv];exact BT9 h
 ·cases h
section
variable {P:Program} {Z:TypeId→Option (List AV)}
def copZ (Z:TypeId→Option (List AV)) (P:Program):Op→Option AOp
 | .alloc e=>(Z e).map .new
 | .build t ps=>match P.underlying t,Z t with
  | some (.struct fs),some z=>match fs.toList.mapM (fun f=>(P.info? f.type).map fun i=>(f.offset,i.size)) with
   | some pl=>(AL3 (pl.toArray[·]?) ps.toList).map (.build z)
   | none=>none
  | some (.array _ e),some z=>(u6 P e).bind fun s=>(AL3 (fun i=>some (i * s,s)) ps.toList).map (.build z)
  | _,_=>none
 | op=>cop P op
def ZOk (Z:TypeId→Option (List AV)) (P:Program):Prop:=∀ t z,Z t=some z→zeroOf P t=some z
theorem copZ_ok (hZ:ZOk Z P) {op:Op} {ao:AOp} (h:copZ Z P op=some ao):cop P op=some ao:=by
 cases op
 case alloc e =>
  simp only [copZ,Option.map_eq_some_iff] at h
  obtain ⟨z,h1,rfl⟩:=h
  simp only [cop,hZ _ _ h1,Option.map_some]
 case build t ps =>
  simp only [copZ] at h
  split at h
  ·rename_i fs z h1 h2
   simp only [cop,h1,hZ _ _ h2]
   exact h
  ·rename_i n e z h1 h2
   simp only [cop,h1,hZ _ _ h2]
   exact h
  ·cases h
 all_goals exact h
def BC3 (Z:TypeId→Option (List AV)) (P:Program) (ops:Array Oper) (o:Oper):Option F4 :=
 match copZ Z P o.op with
 | none=>none
 | some a=>match o.guard with
  | none=>some { dst:=o.dst,op:=a }
  | some (j,b)=>((ops[j]?).bind (·.dst)).map fun t=>{ dst:=o.dst,op:=a,guard:=some (t,b) }
theorem Ap6 (hZ:ZOk Z P) {ops:Array Oper} {o:Oper} {ao:F4} (h:BC3 Z P ops o=some ao):Ac4 P ops o=some ao:=by
 unfold BC3 at h
 unfold Ac4
 split at h
 ·cases h
 ·rename_i a ha;rw [copZ_ok hZ ha];exact h
theorem mapM_ok {α β:Type} {f g:α→Option β} (hf:∀ a b,f a=some b→g a=some b):∀ {l:List α} {m:List β},l.mapM f=some m→l.mapM g=some m
 | [],m,h=>by simpa using h
 | a::l,m,h=>by
  rw [List.mapM_cons] at h ⊢
  simp only [bind,Option.bind_eq_some_iff,pure,Option.some.injEq] at h ⊢
  obtain ⟨b,h1,m',h2,rfl⟩:=h
  exact ⟨b,hf _ _ h1,m',mapM_ok hf h2,rfl⟩
def Z8 (Z:TypeId→Option (List AV)) (P:Program):Code→Option ACode
 | .skip=>some .skip
 | .region _ ops false=>(ops.toList.mapM (BC3 Z P ops)).map .reg
 | .region _ ops true=>(ops.toList.mapM (BC3 Z P ops)).map fun l=>.regD l (ops.toList.map AA1)
 | .seq a b=>match Z8 Z P a,Z8 Z P b with|some a,some b=>some (.seq a b)|_,_=>none
 | .cond c a b=>match cox c,Z8 Z P a,Z8 Z P b with|some c,some a,some b=>some (.cond c a b)|_,_,_=>none
 | .block i c=>(Z8 Z P c).map (.block i)
 | .loop c=>(Z8 Z P c).map .loop
 | .rangeFunc f ps a b=>match cox f,Z8 Z P a,Z8 Z P b with|some f,some a,some b=>some (.rangeF f ps.toList a b)|_,_,_=>none
 | .exit i=>some (.exit i)
 | .ret=>some .ret
 | _=>none
theorem T9 (hZ:ZOk Z P):∀ {c:Code} {ac:ACode},Z8 Z P c=some ac→P5 P c=some ac
 | .skip,_,h=>h
 | .region _ ops false,_,h=>by
  simp only [Z8,Option.map_eq_some_iff] at h
  obtain ⟨l,h1,rfl⟩:=h
  have : Aw8 P ops=some l:=mapM_ok (fun a b=>Ap6 hZ) h1
  simp only [P5,this,Option.map_some]
 | .region _ ops true,_,h=>by
  simp only [Z8,Option.map_eq_some_iff] at h
  obtain ⟨l,h1,rfl⟩:=h
  have : Aw8 P ops=some l:=mapM_ok (fun a b=>Ap6 hZ) h1
  simp only [P5,this,Option.map_some]
 | .seq a b,_,h=>by
  simp only [Z8] at h
  split at h
  ·rename_i x y h1 h2
   simp only [P5,T9 hZ h1,T9 hZ h2];exact h
  ·cases h
 | .cond c a b,_,h=>by
  simp only [Z8] at h
  split at h
  ·rename_i x y z h1 h2 h3
   simp only [P5,h1,T9 hZ h2,T9 hZ h3];exact h
  ·cases h
 | .block i c,_,h=>by
  simp only [Z8,Option.map_eq_some_iff] at h
  obtain ⟨l,h1,rfl⟩:=h
  simp only [P5,T9 hZ h1,Option.map_some]
 | .loop c,_,h=>by
  simp only [Z8,Option.map_eq_some_iff] at h
  obtain ⟨l,h1,rfl⟩:=h
  simp only [P5,T9 hZ h1,Option.map_some]
 | .rangeFunc f ps a b,_,h=>by
  simp only [Z8] at h
  split at h
  ·rename_i x y z h1 h2 h3
   simp only [P5,h1,T9 hZ h2,T9 hZ h3];exact h
  ·cases h
 | .exit i,_,h=>h
 | .ret,_,h=>h
end
theorem plw {p:Prop} (h:p:=by ((first|assumption|exact A8|exact D7|exact AY0|exact Q7|exact AD2|exact BF5|exact BO1|fail);first|done|fail)):p:=h
theorem prx {p:Prop} (h:p:=by ((repeat' (first|exact BF7|refine BF6 ?_ ?_|exact A8|exact plx|fail));first|done|fail)):p:=h
theorem ppw {p:Prop} (h:p:=by ((first|with_reducible apply Am9 (fun _=>A8)|with_reducible apply Am9 (fun _=>D7)|exact prx|fail);first|done|fail)):p:=h
theorem wvxQ0 {p:Prop} (h:p:=by ((first|exact Af7|exact K7 (by first|rfl|omega|(dsimp only;omega))|exact AD9 rfl|exact AC1 rfl (by first|decide|simp|omega)|exact BI5 rfl (by first|decide|simp|omega) (by first|rfl|omega|simp) (by first|omega|simp) (by first|omega|simp)|exact BI6 rfl (by first|decide|simp|omega)|exact Ar8 (by first|rfl|simp)|exact Af8 rfl (by first|decide|omega|(simp;done)) (by first|omega|(simp;done)) (by first|rfl|omega|(simp;done)|(simp;omega))|exact U1 hs plx|(with_reducible refine wk_fn ?_ ?_<;>repeat' (first|with_reducible exact N9|with_reducible refine D5 ?_ ?_|exact AC1 rfl (by first|decide|simp|omega)))|(with_reducible refine Ay2 ?_;repeat' (first|with_reducible exact N9|with_reducible refine D5 ?_ ?_|exact K7 (by first|rfl|omega|(dsimp only;omega))|exact AD9 rfl))|exact BI4 rfl (by first|decide|simp|omega)|fail);first|done|fail)):p:=h
theorem wvxQ1 {p:Prop} (h:p:=by ((first|exact Af7|exact K7 (by first|rfl|omega|(dsimp only;omega))|exact AD9 rfl|exact AC1 rfl (by first|decide|simp|omega)|exact AS7 rfl (by first|decide|simp|omega)|exact BI5 rfl (by first|decide|simp|omega) (by first|rfl|omega|simp) (by first|omega|simp) (by first|omega|simp)|exact BI6 rfl (by first|decide|simp|omega)|exact Ar8 (by first|rfl|simp)|exact Af8 rfl (by first|decide|omega|(simp;done)) (by first|omega|(simp;done)) (by first|rfl|omega|(simp;done)|(simp;omega))|exact U1 hs plx|(with_reducible refine wk_fn ?_ ?_<;>repeat' (first|with_reducible exact N9|with_reducible refine D5 ?_ ?_|exact AC1 rfl (by first|decide|simp|omega)))|(with_reducible refine Ay2 ?_;repeat' (first|with_reducible exact N9|with_reducible refine D5 ?_ ?_|exact K7 (by first|rfl|omega|(dsimp only;omega))|exact AD9 rfl))|exact BI4 rfl (by first|decide|simp|omega)|(with_reducible refine Ay1 ?_;repeat' (first|with_reducible exact N9|with_reducible refine D5 ?_ ?_|exact K7 (by first|rfl|omega|(dsimp only;omega))|exact AD9 rfl|exact AC1 rfl (by first|decide|simp|omega)))|fail);first|done|fail)):p:=h
theorem Af4 {p:Prop} (h:p:=by ((first|exact Af7|exact K7 (by first|rfl|omega|(dsimp only;omega))|exact AD9 rfl|exact AC1 rfl (by first|decide|simp|omega)|exact AS7 rfl (by first|decide|simp|omega)|exact BI5 rfl (by first|decide|simp|omega) (by first|rfl|omega|simp) (by first|omega|simp) (by first|omega|simp)|exact BI9 Ag2 P6 rfl (fun hz=>by first|(simp [lk,AT6,Y5 hz,AR1 hz];done)|exact Y5 hz|rfl) (not_of (by simp [rn])) hs|exact BI6 rfl (by first|decide|simp|omega)|exact Ar8 (by first|rfl|simp)|exact Af8 rfl (by first|decide|omega|(simp;done)) (by first|omega|(simp;done)) (by first|rfl|omega|(simp;done)|(simp;omega))|exact U1 hs plx|(with_reducible refine wk_fn ?_ ?_<;>repeat' (first|with_reducible exact N9|with_reducible refine D5 ?_ ?_|exact AC1 rfl (by first|decide|simp|omega)))|(with_reducible refine Ay2 ?_;repeat' (first|with_reducible exact N9|with_reducible refine D5 ?_ ?_|exact K7 (by first|rfl|omega|(dsimp only;omega))|exact AD9 rfl))|exact BI4 rfl (by first|decide|simp|omega)|(with_reducible refine Ay1 ?_;repeat' (first|with_reducible exact N9|with_reducible refine D5 ?_ ?_|exact K7 (by first|rfl|omega|(dsimp only;omega))|exact AD9 rfl|exact AC1 rfl (by first|decide|simp|omega)))|fail);first|done|fail)):p:=h
theorem Y4 {p:Prop} (h:p:=by (refine BJ1 (by exact Q8 rfl) (by exact Ag3 rfl) (by intro hs;(repeat' ((try (conv=>whnf));first|with_reducible exact True.intro|with_reducible refine And.intro ?_ ?_|(with_reducible refine WkX.mk ?_;first|exact wvxQ0|fail)))) (by intro hs;(try dsimp only);(repeat' (first|with_reducible exact M7|refine I6 hs (by first|decide|omega|simp) rfl (by first|rfl) (by (first|exact ppx|fail|((refine plain_app ?_ ?_)<;>(first|exact ppx|fail)))) ?_|refine U5 (by first|decide|omega|simp) rfl (by repeat' (first|with_reducible exact N9|with_reducible refine D5 ?_ ?_|(first|exact wvxQ0|fail))) ?_|refine AN1 (by first|decide|omega|simp) rfl (by ((try subst hF);(try subst hF2);exact AW8 (AA9 (by (repeat' ((try (conv=>whnf));first|with_reducible exact True.intro|with_reducible refine And.intro ?_ ?_|(with_reducible refine WkX.mk ?_;first|exact wvxQ0|fail))))))) ?_|exact M7))))):p:=h
theorem AA8 {p:Prop} (h:p:=by (refine BJ1 (by exact Q8 rfl) (by exact Ag3 rfl) (by intro hs;(repeat' ((try (conv=>whnf));first|with_reducible exact True.intro|with_reducible refine And.intro ?_ ?_|(with_reducible refine WkX.mk ?_;first|exact wvxQ1|fail)))) (by intro hs;(try dsimp only);(repeat' (first|with_reducible exact M7|refine Af5 (by first|decide|omega|simp) rfl rfl (by first|decide|omega|simp) rfl (by first|decide|omega|simp) rfl (by first|decide|omega|simp) rfl (by first|decide|omega|simp) ?_|refine N8 hs (by first|decide|omega|simp) rfl rfl (D6 G9) ?_|refine N8 hs (by first|decide|omega|simp) rfl rfl (D6 H7) ?_|refine N8 hs (by first|decide|omega|simp) rfl rfl (D6 H6) ?_|refine I6 hs (by first|decide|omega|simp) rfl (by first|rfl) (by (first|exact ppx|fail|((refine plain_app ?_ ?_)<;>(first|exact ppx|fail)))) ?_|refine U5 (by first|decide|omega|simp) rfl (by repeat' (first|with_reducible exact N9|with_reducible refine D5 ?_ ?_|(first|exact wvxQ1|fail))) ?_|refine AN1 (by first|decide|omega|simp) rfl (by ((try subst hF);(try subst hF2);exact AW8 (AA9 (by (repeat' ((try (conv=>whnf));first|with_reducible exact True.intro|with_reducible refine And.intro ?_ ?_|(with_reducible refine WkX.mk ?_;first|exact wvxQ1|fail))))))) ?_|exact M7))))):p:=h
theorem BW5 {p:Prop} (h:p:=by (refine BJ1 (by exact Q8 rfl) (by exact Ag3 rfl) (by intro hs;(repeat' ((try (conv=>whnf));first|with_reducible exact True.intro|with_reducible refine And.intro ?_ ?_|(with_reducible refine WkX.mk ?_;first|exact Af4|fail)))) (by intro hs;(try dsimp only);(repeat' (first|with_reducible exact M7|refine Af5 (by first|decide|omega|simp) rfl rfl (by first|decide|omega|simp) rfl (by first|decide|omega|simp) rfl (by first|decide|omega|simp) rfl (by first|decide|omega|simp) ?_|refine N8 hs (by first|decide|omega|simp) rfl rfl (D6 G9) ?_|refine N8 hs (by first|decide|omega|simp) rfl rfl (D6 H7) ?_|refine N8 hs (by first|decide|omega|simp) rfl rfl (D6 H6) ?_|refine I6 hs (by first|decide|omega|simp) rfl (by first|rfl) (by (first|exact ppx|fail|((refine plain_app ?_ ?_)<;>(first|exact ppx|fail)))) ?_|refine U5 (by first|decide|omega|simp) rfl (by repeat' (first|with_reducible exact N9|with_reducible refine D5 ?_ ?_|(first|exact Af4|fail))) ?_|refine AN1 (by first|decide|omega|simp) rfl (by ((try subst hF);(try subst hF2);exact AW8 (AA9 (by (repeat' ((try (conv=>whnf));first|with_reducible exact True.intro|with_reducible refine And.intro ?_ ?_|(with_reducible refine WkX.mk ?_;first|exact Af4|fail))))))) ?_|exact M7))))):p:=h
theorem wkxQ4 {p:Prop} (h:p:=by (refine weak_o (by rfl) (by rfl) (fun hz=>by first|exact absurd rfl hz|(simp [lk,Y5 hz];done)|exact Y5 hz|rfl) (by rfl) (P6) (by intro hs;(repeat' ((try (conv=>whnf));first|with_reducible exact True.intro|with_reducible refine And.intro ?_ ?_|(with_reducible refine WkX.mk ?_;first|exact Af4|fail)))) (by intro hs;(repeat' (first|with_reducible exact M7|refine Af5 (by first|decide|omega|simp) rfl rfl (by first|decide|omega|simp) rfl (by first|decide|omega|simp) rfl (by first|decide|omega|simp) rfl (by first|decide|omega|simp) ?_|refine N8 hs (by first|decide|omega|simp) rfl rfl (D6 G9) ?_|refine N8 hs (by first|decide|omega|simp) rfl rfl (D6 H7) ?_|refine N8 hs (by first|decide|omega|simp) rfl rfl (D6 H6) ?_|refine I6 hs (by first|decide|omega|simp) rfl (by first|rfl) (by (first|exact ppx|fail|((refine plain_app ?_ ?_)<;>(first|exact ppx|fail)))) ?_|refine U5 (by first|decide|omega|simp) rfl (by repeat' (first|with_reducible exact N9|with_reducible refine D5 ?_ ?_|(first|exact Af4|fail))) ?_|refine AN1 (by first|decide|omega|simp) rfl (by ((try subst hF);(try subst hF2);exact AW8 (AA9 (by (repeat' ((try (conv=>whnf));first|with_reducible exact True.intro|with_reducible refine And.intro ?_ ?_|(with_reducible refine WkX.mk ?_;first|exact Af4|fail))))))) ?_|exact M7))))):p:=h
theorem wkxQ5 {p:Prop} (h:p:=by (refine weak_o (by rfl) (by rfl) (fun hz=>by first|exact absurd rfl hz|(simp [lk,Y5 hz];done)|exact Y5 hz|rfl) (by rfl) (w9) (by intro hs;(repeat' ((try (conv=>whnf));first|with_reducible exact True.intro|with_reducible refine And.intro ?_ ?_|(with_reducible refine WkX.mk ?_;first|exact Af4|fail)))) (by intro hs;(repeat' (first|with_reducible exact M7|refine Af5 (by first|decide|omega|simp) rfl rfl (by first|decide|omega|simp) rfl (by first|decide|omega|simp) rfl (by first|decide|omega|simp) rfl (by first|decide|omega|simp) ?_|refine N8 hs (by first|decide|omega|simp) rfl rfl (D6 G9) ?_|refine N8 hs (by first|decide|omega|simp) rfl rfl (D6 H7) ?_|refine N8 hs (by first|decide|omega|simp) rfl rfl (D6 H6) ?_|refine I6 hs (by first|decide|omega|simp) rfl (by first|rfl) (by (first|exact ppx|fail|((refine plain_app ?_ ?_)<;>(first|exact ppx|fail)))) ?_|refine U5 (by first|decide|omega|simp) rfl (by repeat' (first|with_reducible exact N9|with_reducible refine D5 ?_ ?_|(first|exact Af4|fail))) ?_|refine AN1 (by first|decide|omega|simp) rfl (by ((try subst hF);(try subst hF2);exact AW8 (AA9 (by (repeat' ((try (conv=>whnf));first|with_reducible exact True.intro|with_reducible refine And.intro ?_ ?_|(with_reducible refine WkX.mk ?_;first|exact Af4|fail))))))) ?_|exact M7))))):p:=h
theorem sxA {p q:Prop} (hq:q) (h:Y7 q→p:=by (intro hA;((first|(with_reducible first|refine L8 ?_|refine I7 ?_|refine M4 ?_|refine M6 ?_|refine J3 ?_|refine R8 ?_|refine K9 ?_|refine R7 rfl ?_|refine L6 ?_|refine G8 ?_|refine I9 ?_|refine J2 ?_|refine M5 ?_|refine G7 ?_|refine I8 (by decide +kernel) ?_|refine H9 (by decide +kernel) ?_|refine AF4 ?_|refine AF5 ?_|refine Ar4 ?_|refine Z9 ?_|refine AK5 ?_|refine Ak7 (by assumption) ?_|refine Ak8 (by assumption) ?_|refine Z7 (by omega) ?_|refine AK4 ?_|fail)|((with_reducible refine AK6 ?_ ?_);focus omega)|((with_reducible refine AK7 ?_ ?_);focus omega)|((with_reducible refine Ar2 ?_ ?_);focus (first|omega|rfl|assumption|decide|(simp only [List.length_map,List.length_cons,List.length_nil];omega)))|(with_reducible first|refine AK1 ?_|refine Z6 ?_|refine Z5 ?_|refine AK3 ?_|refine AK2 ?_|refine AJ9 ?_|refine Ar1 ?_|refine G5 ?_|refine Y9 ?_|refine M0 ?_|refine L9 ?_|refine G6 ?_|refine AK0 (by omega) ?_|refine Z4 (by omega) ?_|fail)|fail);repeat' ((try (conv=>whnf));(first|(with_reducible first|refine L8 ?_|refine I7 ?_|refine M4 ?_|refine M6 ?_|refine J3 ?_|refine R8 ?_|refine K9 ?_|refine R7 rfl ?_|refine L6 ?_|refine G8 ?_|refine I9 ?_|refine J2 ?_|refine M5 ?_|refine G7 ?_|refine I8 (by decide +kernel) ?_|refine H9 (by decide +kernel) ?_|refine AF4 ?_|refine AF5 ?_|refine Ar4 ?_|refine Z9 ?_|refine AK5 ?_|refine Ak7 (by assumption) ?_|refine Ak8 (by assumption) ?_|refine Z7 (by omega) ?_|refine AK4 ?_|fail)|((with_reducible refine AK6 ?_ ?_);focus omega)|((with_reducible refine AK7 ?_ ?_);focus omega)|((with_reducible refine Ar2 ?_ ?_);focus (first|omega|rfl|assumption|decide|(simp only [List.length_map,List.length_cons,List.length_nil];omega)))|(with_reducible first|refine AK1 ?_|refine Z6 ?_|refine Z5 ?_|refine AK3 ?_|refine AK2 ?_|refine AJ9 ?_|refine Ar1 ?_|refine G5 ?_|refine Y9 ?_|refine M0 ?_|refine L9 ?_|refine G6 ?_|refine AK0 (by omega) ?_|refine Z4 (by omega) ?_|fail)|fail)));exact hA.out)):p:=h ⟨hq⟩
theorem sxF {p q:Prop} (hq:q) (h:Y7 q→p:=by (intro hA;(with_reducible first|refine AB3 ?_|refine Ar6.mk (by kernel_rfl) ?_|refine AD7 rfl ?_|refine AB6 (by decide +kernel) ?_|refine AB4 rfl ?_|fail);exact hA.out)):p:=h ⟨hq⟩
theorem sxN {p q:Prop} (hq:q) (h:Y7 q→p:=by (intro hA;(with_reducible first|refine AB3 ?_|refine Ar6.mk (by kernel_rfl) ?_|refine AB6 (by decide +kernel) ?_|refine AB4 rfl ?_|fail);exact hA.out)):p:=h ⟨hq⟩
theorem sxH {p q:Prop} (hq:q) (h:Y7 q→p:=by (intro hA;(first|refine G5 ?_|refine G6 ?_|refine AS0 rfl rfl ?_|refine X8 ?_|refine R3 rfl ?_|refine AS5 rfl ?_|refine AQ4 rfl ?_|refine AC6 rfl ?_|refine N7 ?_|refine Ax9.mk ?_|fail);exact hA.out)):p:=h ⟨hq⟩
end Go.Am
