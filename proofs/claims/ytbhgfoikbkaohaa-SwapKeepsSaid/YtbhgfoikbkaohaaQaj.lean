/-
 A walk as an argument's default: what is left of it is put together in one proposition. No program in sight.
 Zero values with very many cells: the code is turned with names for them. No program in sight.
-/
import Derived.Test.YtbhgfoikbkaohaaQai
set_option linter.unusedSimpArgs false
set_option linter.unusedVariables false
namespace Go.Am
structure X4 (p:Prop):Prop where
 out:p
section
variable {p A B qa qb:Prop} {b:Bool}
theorem AI7 [Decidable p] (h:p) (hA:A):BrX (decide p) A B:=Ai6 (decide_eq_true h) hA
theorem AI8 [Decidable p] (h:¬ p) (hB:B):BrX (decide p) A B:=Ai7 (decide_eq_false h) hB
theorem V4 [Decidable p] (hq:X4 ((p→qa)∧(¬ p→qb))) (hA:p→X4 qa→A) (hB:¬ p→X4 qb→B):BrX (decide p) A B:=br_d (fun h=>hA h ⟨hq.out.1 h⟩) fun h=>hB h ⟨hq.out.2 h⟩
theorem V5 (hq:X4 ((b=true→qa)∧(b=false→qb))) (hA:b=true→X4 qa→A) (hB:b=false→X4 qb→B):BrX b A B:=br_b (fun h=>hA h ⟨hq.out.1 h⟩) fun h=>hB h ⟨hq.out.2 h⟩
theorem eqn_q {els:List (List AV)} {K:Bool→Prop} (hq:X4 (qa∧qb)) (hA:X4 qa→K true) (hB:X4 qb→K false):EqnX (.isl els) K:=by
 cases els with
 | nil=>exact ⟨hA ⟨hq.out.1⟩,hB ⟨hq.out.2⟩⟩
 | cons a l=>exact ⟨hB ⟨hq.out.2⟩⟩
theorem eqn_n {K:Bool→Prop} (hq:X4 (qa∧qb)) (hA:X4 qa→K true) (hB:X4 qb→K false):EqnX .nils K:=⟨hA ⟨hq.out.1⟩,hB ⟨hq.out.2⟩⟩
theorem Am9 {el:List AV} {els:List (List AV)} {K:Bool→Prop} (h:K false):EqnX (.isl (el::els)) K:=⟨h⟩
theorem Am8 {α:Type} {f:α→List AV} {x:α} {l:List α} {K:Bool→Prop} (h:K false):EqnX (.isl ((x::l).map f)) K:=⟨h⟩
theorem eqn_sl {id off len cp sz:Nat} {K:Bool→Prop} (h:K false):EqnX (.sl id off len cp sz) K:=⟨h⟩
end
end Go.Am
namespace Go.Am
def eqVA (v:Value) (x:AV):Bool:=match v,x with
 | .int k a,.int k' b=>decide (k=k') && decide (a=b)
 | .bool a,.bool b=>a == b
 | .slice none 0 0,.nils=>true
 | _,_=>false
theorem eqVA_ok {v:Value} {x:AV} (h:eqVA v x=true):ofL v=some x:=by
 unfold eqVA at h
 split at h
 ·simp only [Bool.and_eq_true,decide_eq_true_eq] at h
  obtain ⟨rfl,rfl⟩:=h
  rfl
 ·simp only [beq_iff_eq] at h
  subst h;rfl
 ·rfl
 ·cases h
def chkV:List Value→List AV→Bool
 | [],[]=>true
 | v::r,y::s=>match eqVA v y with
  | true=>chkV r s
  | false=>false
 | _,_=>false
theorem chkV_ok:∀ {l:List Value} {m:List AV},chkV l m=true→l.mapM ofL=some m
 | [],[],_=>rfl
 | v::r,y::s,h=>by
  simp only [chkV] at h
  split at h
  ·rename_i e
   rw [List.mapM_cons,eqVA_ok e,chkV_ok h];rfl
  ·cases h
 | [],_::_,h=>by cases h
 | _::_,[],h=>by cases h
def chkZ (i:TypeInfo) (z:List AV):Bool:=match i.zero with
 | some v=>chkV v.cells.toList z
 | none=>false
theorem chkZ_ok {P:Program} {t:TypeId} {i:TypeInfo} {z:List AV} (h1:P.info? t=some i) (h:chkZ i z=true):zeroOf P t=some z:=by
 unfold chkZ at h
 unfold zeroOf
 rw [h1]
 split at h
 ·rename_i v hv
  show (i.zero).bind _=_
  rw [hv];exact chkV_ok h
 ·cases h
section
variable {P:Program} {Z:TypeId→Option (List AV)}
def copZ (Z:TypeId→Option (List AV)) (P:Program):Op→Option AOp
 | .alloc e=>(Z e).map .new
 | .build t ps=>match P.underlying t,Z t with
  | some (.struct fs),some z=>match fs.toList.mapM (fun f=>(P.info? f.type).map fun i=>(f.offset,i.size)) with
   | some pl=>(AO6 (pl.toArray[·]?) ps.toList).map (.build z)
   | none=>none
  | some (.array _ e),some z=>(AB6 P e).bind fun s=>(AO6 (fun i=>some (i * s,s)) ps.toList).map (.build z)
  | _,_=>none
 | op=>cop P op
def ZOk (Z:TypeId→Option (List AV)) (P:Program):Prop:=∀ t z,Z t=some z→zeroOf P t=some z
theorem copZ_ok (hZ:ZOk Z P) {op:Op} {ao:AOp} (h:copZ Z P op=some ao):cop P op=some ao:=by
 cases op
 case alloc e =>
  simp only [copZ,Option.map_eq_some_iff] at h
  obtain ⟨z,h1,rfl⟩:=h
  simp only [cop,hZ _ _ h1,Option.map_some]
 case build t ps =>
  simp only [copZ] at h
  split at h
  ·rename_i fs z h1 h2
   simp only [cop,h1,hZ _ _ h2]
   exact h
  ·rename_i n e z h1 h2
   simp only [cop,h1,hZ _ _ h2]
   exact h
  ·cases h
 all_goals exact h
def BH4 (Z:TypeId→Option (List AV)) (P:Program) (ops:Array Oper) (o:Oper):Option F9 :=
 match copZ Z P o.op with
 | none=>none
 | some a=>match o.guard with
  | none=>some { dst:=o.dst,op:=a }
  | some (j,b)=>((ops[j]?).bind (·.dst)).map fun t=>{ dst:=o.dst,op:=a,guard:=some (t,b) }
theorem Au9 (hZ:ZOk Z P) {ops:Array Oper} {o:Oper} {ao:F9} (h:BH4 Z P ops o=some ao):Af8 P ops o=some ao:=by
 unfold BH4 at h
 unfold Af8
 split at h
 ·cases h
 ·rename_i a ha;rw [copZ_ok hZ ha];exact h
theorem mapM_ok {α β:Type} {f g:α→Option β} (hf:∀ a b,f a=some b→g a=some b):∀ {l:List α} {m:List β},l.mapM f=some m→l.mapM g=some m
 | [],m,h=>by simpa using h
 | a::l,m,h=>by
  rw [List.mapM_cons] at h ⊢
  simp only [bind,Option.bind_eq_some_iff,pure,Option.some.injEq] at h ⊢
  obtain ⟨b,h1,m',h2,rfl⟩:=h
  exact ⟨b,hf _ _ h1,m',mapM_ok hf h2,rfl⟩
def AA1 (Z:TypeId→Option (List AV)) (P:Program):Code→Option ACode
 | .skip=>some .skip
 | .region _ ops false=>(ops.toList.mapM (BH4 Z P ops)).map .reg
 | .region _ ops true=>(ops.toList.mapM (BH4 Z P ops)).map fun l=>.regD l (ops.toList.map AC1)
 | .seq a b=>match AA1 Z P a,AA1 Z P b with|some a,some b=>some (.seq a b)|_,_=>none
 | .cond c a b=>match cox c,AA1 Z P a,AA1 Z P b with|some c,some a,some b=>some (.cond c a b)|_,_,_=>none
 | .block i c=>(AA1 Z P c).map (.block i)
 | .loop c=>(AA1 Z P c).map .loop
 | .rangeFunc f ps a b=>match cox f,AA1 Z P a,AA1 Z P b with|some f,some a,some b=>some (.rangeF f ps.toList a b)|_,_,_=>none
 | .exit i=>some (.exit i)
 | .ret=>some .ret
 | _=>none
theorem Y1 (hZ:ZOk Z P):∀ {c:Code} {ac:ACode},AA1 Z P c=some ac→R7 P c=some ac
 | .skip,_,h=>h
 | .region _ ops false,_,h=>by
  simp only [AA1,Option.map_eq_some_iff] at h
  obtain ⟨l,h1,rfl⟩:=h
  have : BC1 P ops=some l:=mapM_ok (fun a b=>Au9 hZ) h1
  simp only [R7,this,Option.map_some]
 | .region _ ops true,_,h=>by
  simp only [AA1,Option.map_eq_some_iff] at h
  obtain ⟨l,h1,rfl⟩:=h
  have : BC1 P ops=some l:=mapM_ok (fun a b=>Au9 hZ) h1
  simp only [R7,this,Option.map_some]
 | .seq a b,_,h=>by
  simp only [AA1] at h
  split at h
  ·rename_i x y h1 h2
   simp only [R7,Y1 hZ h1,Y1 hZ h2];exact h
  ·cases h
 | .cond c a b,_,h=>by
  simp only [AA1] at h
  split at h
  ·rename_i x y z h1 h2 h3
   simp only [R7,h1,Y1 hZ h2,Y1 hZ h3];exact h
  ·cases h
 | .block i c,_,h=>by
  simp only [AA1,Option.map_eq_some_iff] at h
  obtain ⟨l,h1,rfl⟩:=h
  simp only [R7,Y1 hZ h1,Option.map_some]
 | .loop c,_,h=>by
  simp only [AA1,Option.map_eq_some_iff] at h
  obtain ⟨l,h1,rfl⟩:=h
  simp only [R7,Y1 hZ h1,Option.map_some]
 | .rangeFunc f ps a b,_,h=>by
  simp only [AA1] at h
  split at h
  ·rename_i x y z h1 h2 h3
   simp only [R7,h1,Y1 hZ h2,Y1 hZ h3];exact h
  ·cases h
 | .exit i,_,h=>h
 | .ret,_,h=>h
end
theorem plw {p:Prop} (h:p:=by ((first|assumption|exact A8|exact D8|exact Ab0|exact d9|exact P9|exact BK8|exact BU2|fail);first|done|fail)):p:=h
theorem prx {p:Prop} (h:p:=by ((repeat' (first|exact BL0|refine BK9 ?_ ?_|exact A8|exact plx|fail));first|done|fail)):p:=h
theorem ppw {p:Prop} (h:p:=by ((first|with_reducible apply Ar9 (fun _=>A8)|with_reducible apply Ar9 (fun _=>D8)|exact prx|fail);first|done|fail)):p:=h
theorem Aj1 {p:Prop} (h:p:=by ((first|exact Aj3|exact N9 (by first|rfl|omega|(dsimp only;omega))|exact AG0 rfl|exact X6 rfl (by first|decide|simp|omega)|exact BO0 rfl (by first|decide|simp|omega) (by first|rfl|omega|simp) (by first|omega|simp) (by first|omega|simp)|exact BO1 rfl (by first|decide|simp|omega)|exact Ax1 (by first|rfl|simp)|exact Aj4 rfl (by first|decide|omega|(simp;done)) (by first|omega|(simp;done)) (by first|rfl|omega|(simp;done)|(simp;omega))|exact R6 hs plx|(with_reducible refine wk_fn ?_ ?_<;>repeat' (first|with_reducible exact J9|with_reducible refine A9 ?_ ?_|exact X6 rfl (by first|decide|simp|omega)))|(with_reducible refine Ap9 ?_;repeat' (first|with_reducible exact J9|with_reducible refine A9 ?_ ?_|exact N9 (by first|rfl|omega|(dsimp only;omega))|exact AG0 rfl))|exact BN9 rfl (by first|decide|simp|omega)|fail);first|done|fail)):p:=h
theorem wvxQ1 {p:Prop} (h:p:=by ((first|exact Aj3|exact N9 (by first|rfl|omega|(dsimp only;omega))|exact AG0 rfl|exact X6 rfl (by first|decide|simp|omega)|exact AV7 rfl (by first|decide|simp|omega)|exact BO0 rfl (by first|decide|simp|omega) (by first|rfl|omega|simp) (by first|omega|simp) (by first|omega|simp)|exact BO1 rfl (by first|decide|simp|omega)|exact Ax1 (by first|rfl|simp)|exact Aj4 rfl (by first|decide|omega|(simp;done)) (by first|omega|(simp;done)) (by first|rfl|omega|(simp;done)|(simp;omega))|exact R6 hs plx|(with_reducible refine wk_fn ?_ ?_<;>repeat' (first|with_reducible exact J9|with_reducible refine A9 ?_ ?_|exact X6 rfl (by first|decide|simp|omega)))|(with_reducible refine Ap9 ?_;repeat' (first|with_reducible exact J9|with_reducible refine A9 ?_ ?_|exact N9 (by first|rfl|omega|(dsimp only;omega))|exact AG0 rfl))|exact BN9 rfl (by first|decide|simp|omega)|(with_reducible refine Ag0 ?_;repeat' (first|with_reducible exact J9|with_reducible refine A9 ?_ ?_|exact N9 (by first|rfl|omega|(dsimp only;omega))|exact AG0 rfl|exact X6 rfl (by first|decide|simp|omega)))|fail);first|done|fail)):p:=h
theorem Aj0 {p:Prop} (h:p:=by ((first|exact Aj3|exact N9 (by first|rfl|omega|(dsimp only;omega))|exact AG0 rfl|exact X6 rfl (by first|decide|simp|omega)|exact AV7 rfl (by first|decide|simp|omega)|exact BO0 rfl (by first|decide|simp|omega) (by first|rfl|omega|simp) (by first|omega|simp) (by first|omega|simp)|exact Aj5 Aj6 R8 rfl (fun hz=>by first|(simp [lk,o8,I7 hz,j4 hz];done)|exact I7 hz|rfl) (not_of (by simp [rn])) hs|exact BO1 rfl (by first|decide|simp|omega)|exact Ax1 (by first|rfl|simp)|exact Aj4 rfl (by first|decide|omega|(simp;done)) (by first|omega|(simp;done)) (by first|rfl|omega|(simp;done)|(simp;omega))|exact R6 hs plx|(with_reducible refine wk_fn ?_ ?_<;>repeat' (first|with_reducible exact J9|with_reducible refine A9 ?_ ?_|exact X6 rfl (by first|decide|simp|omega)))|(with_reducible refine Ap9 ?_;repeat' (first|with_reducible exact J9|with_reducible refine A9 ?_ ?_|exact N9 (by first|rfl|omega|(dsimp only;omega))|exact AG0 rfl))|exact BN9 rfl (by first|decide|simp|omega)|(with_reducible refine Ag0 ?_;repeat' (first|with_reducible exact J9|with_reducible refine A9 ?_ ?_|exact N9 (by first|rfl|omega|(dsimp only;omega))|exact AG0 rfl|exact X6 rfl (by first|decide|simp|omega)))|fail);first|done|fail)):p:=h
theorem U9 {p:Prop} (h:p:=by (refine BO4 (by exact M6 rfl) (by exact Aa2 rfl) (by intro hs;(repeat' ((try (conv=>whnf));first|with_reducible exact True.intro|with_reducible refine And.intro ?_ ?_|(with_reducible refine WkX.mk ?_;first|exact Aj1|fail)))) (by intro hs;(try dsimp only);(repeat' (first|with_reducible exact I8|refine H7 hs (by first|decide|omega|simp) rfl (by first|rfl) (by (first|exact ppx|fail|((refine plain_app ?_ ?_)<;>(first|exact ppx|fail)))) ?_|refine P5 (by first|decide|omega|simp) rfl (by repeat' (first|with_reducible exact J9|with_reducible refine A9 ?_ ?_|(first|exact Aj1|fail))) ?_|refine AF9 (by first|decide|omega|simp) rfl (by ((try subst hF);(try subst hF2);exact AN7 (X5 (by (repeat' ((try (conv=>whnf));first|with_reducible exact True.intro|with_reducible refine And.intro ?_ ?_|(with_reducible refine WkX.mk ?_;first|exact Aj1|fail))))))) ?_|exact I8))))):p:=h
theorem Aw9 {p:Prop} (h:p:=by (refine BO6 (by rfl) (by rfl) (fun hz=>by first|exact absurd rfl hz|(simp [lk,I7 hz];done)|exact I7 hz|rfl) (by rfl) (S9) (by intro hs;(repeat' ((try (conv=>whnf));first|with_reducible exact True.intro|with_reducible refine And.intro ?_ ?_|(with_reducible refine WkX.mk ?_;first|exact Aj1|fail)))) (by intro hs;(repeat' (first|with_reducible exact I8|refine H7 hs (by first|decide|omega|simp) rfl (by first|rfl) (by (first|exact ppx|fail|((refine plain_app ?_ ?_)<;>(first|exact ppx|fail)))) ?_|refine P5 (by first|decide|omega|simp) rfl (by repeat' (first|with_reducible exact J9|with_reducible refine A9 ?_ ?_|(first|exact Aj1|fail))) ?_|refine AF9 (by first|decide|omega|simp) rfl (by ((try subst hF);(try subst hF2);exact AN7 (X5 (by (repeat' ((try (conv=>whnf));first|with_reducible exact True.intro|with_reducible refine And.intro ?_ ?_|(with_reducible refine WkX.mk ?_;first|exact Aj1|fail))))))) ?_|exact I8))))):p:=h
theorem p8 {p:Prop} (h:p:=by (refine BO4 (by exact M6 rfl) (by exact Aa2 rfl) (by intro hs;(repeat' ((try (conv=>whnf));first|with_reducible exact True.intro|with_reducible refine And.intro ?_ ?_|(with_reducible refine WkX.mk ?_;first|exact wvxQ1|fail)))) (by intro hs;(try dsimp only);(repeat' (first|with_reducible exact I8|refine Aj2 (by first|decide|omega|simp) rfl rfl (by first|decide|omega|simp) rfl (by first|decide|omega|simp) rfl (by first|decide|omega|simp) rfl (by first|decide|omega|simp) ?_|refine Q6 hs (by first|decide|omega|simp) rfl rfl (D5 H9) ?_|refine Q6 hs (by first|decide|omega|simp) rfl rfl (D5 I5) ?_|refine Q6 hs (by first|decide|omega|simp) rfl rfl (D5 I4) ?_|refine H7 hs (by first|decide|omega|simp) rfl (by first|rfl) (by (first|exact ppx|fail|((refine plain_app ?_ ?_)<;>(first|exact ppx|fail)))) ?_|refine P5 (by first|decide|omega|simp) rfl (by repeat' (first|with_reducible exact J9|with_reducible refine A9 ?_ ?_|(first|exact wvxQ1|fail))) ?_|refine AF9 (by first|decide|omega|simp) rfl (by ((try subst hF);(try subst hF2);exact AN7 (X5 (by (repeat' ((try (conv=>whnf));first|with_reducible exact True.intro|with_reducible refine And.intro ?_ ?_|(with_reducible refine WkX.mk ?_;first|exact wvxQ1|fail))))))) ?_|exact I8))))):p:=h
theorem wkxQ3 {p:Prop} (h:p:=by (refine BO4 (by exact M6 rfl) (by exact Aa2 rfl) (by intro hs;(repeat' ((try (conv=>whnf));first|with_reducible exact True.intro|with_reducible refine And.intro ?_ ?_|(with_reducible refine WkX.mk ?_;first|exact Aj0|fail)))) (by intro hs;(try dsimp only);(repeat' (first|with_reducible exact I8|refine Aj2 (by first|decide|omega|simp) rfl rfl (by first|decide|omega|simp) rfl (by first|decide|omega|simp) rfl (by first|decide|omega|simp) rfl (by first|decide|omega|simp) ?_|refine Q6 hs (by first|decide|omega|simp) rfl rfl (D5 H9) ?_|refine Q6 hs (by first|decide|omega|simp) rfl rfl (D5 I5) ?_|refine Q6 hs (by first|decide|omega|simp) rfl rfl (D5 I4) ?_|refine H7 hs (by first|decide|omega|simp) rfl (by first|rfl) (by (first|exact ppx|fail|((refine plain_app ?_ ?_)<;>(first|exact ppx|fail)))) ?_|refine P5 (by first|decide|omega|simp) rfl (by repeat' (first|with_reducible exact J9|with_reducible refine A9 ?_ ?_|(first|exact Aj0|fail))) ?_|refine AF9 (by first|decide|omega|simp) rfl (by ((try subst hF);(try subst hF2);exact AN7 (X5 (by (repeat' ((try (conv=>whnf));first|with_reducible exact True.intro|with_reducible refine And.intro ?_ ?_|(with_reducible refine WkX.mk ?_;first|exact Aj0|fail))))))) ?_|exact I8))))):p:=h
theorem wkxQ4 {p:Prop} (h:p:=by (refine BO6 (by rfl) (by rfl) (fun hz=>by first|exact absurd rfl hz|(simp [lk,I7 hz];done)|exact I7 hz|rfl) (by rfl) (R8) (by intro hs;(repeat' ((try (conv=>whnf));first|with_reducible exact True.intro|with_reducible refine And.intro ?_ ?_|(with_reducible refine WkX.mk ?_;first|exact Aj0|fail)))) (by intro hs;(repeat' (first|with_reducible exact I8|refine Aj2 (by first|decide|omega|simp) rfl rfl (by first|decide|omega|simp) rfl (by first|decide|omega|simp) rfl (by first|decide|omega|simp) rfl (by first|decide|omega|simp) ?_|refine Q6 hs (by first|decide|omega|simp) rfl rfl (D5 H9) ?_|refine Q6 hs (by first|decide|omega|simp) rfl rfl (D5 I5) ?_|refine Q6 hs (by first|decide|omega|simp) rfl rfl (D5 I4) ?_|refine H7 hs (by first|decide|omega|simp) rfl (by first|rfl) (by (first|exact ppx|fail|((refine plain_app ?_ ?_)<;>(first|exact ppx|fail)))) ?_|refine P5 (by first|decide|omega|simp) rfl (by repeat' (first|with_reducible exact J9|with_reducible refine A9 ?_ ?_|(first|exact Aj0|fail))) ?_|refine AF9 (by first|decide|omega|simp) rfl (by ((try subst hF);(try subst hF2);exact AN7 (X5 (by (repeat' ((try (conv=>whnf));first|with_reducible exact True.intro|with_reducible refine And.intro ?_ ?_|(with_reducible refine WkX.mk ?_;first|exact Aj0|fail))))))) ?_|exact I8))))):p:=h
theorem wkxQ5 {p:Prop} (h:p:=by (refine BO6 (by rfl) (by rfl) (fun hz=>by first|exact absurd rfl hz|(simp [lk,I7 hz];done)|exact I7 hz|rfl) (by rfl) (AE0) (by intro hs;(repeat' ((try (conv=>whnf));first|with_reducible exact True.intro|with_reducible refine And.intro ?_ ?_|(with_reducible refine WkX.mk ?_;first|exact Aj0|fail)))) (by intro hs;(repeat' (first|with_reducible exact I8|refine Aj2 (by first|decide|omega|simp) rfl rfl (by first|decide|omega|simp) rfl (by first|decide|omega|simp) rfl (by first|decide|omega|simp) rfl (by first|decide|omega|simp) ?_|refine Q6 hs (by first|decide|omega|simp) rfl rfl (D5 H9) ?_|refine Q6 hs (by first|decide|omega|simp) rfl rfl (D5 I5) ?_|refine Q6 hs (by first|decide|omega|simp) rfl rfl (D5 I4) ?_|refine H7 hs (by first|decide|omega|simp) rfl (by first|rfl) (by (first|exact ppx|fail|((refine plain_app ?_ ?_)<;>(first|exact ppx|fail)))) ?_|refine P5 (by first|decide|omega|simp) rfl (by repeat' (first|with_reducible exact J9|with_reducible refine A9 ?_ ?_|(first|exact Aj0|fail))) ?_|refine AF9 (by first|decide|omega|simp) rfl (by ((try subst hF);(try subst hF2);exact AN7 (X5 (by (repeat' ((try (conv=>whnf));first|with_reducible exact True.intro|with_reducible refine And.intro ?_ ?_|(with_reducible refine WkX.mk ?_;first|exact Aj0|fail))))))) ?_|exact I8))))):p:=h
theorem Aw8 {p:Prop} (h:p:=by (refine weak_t (by rfl) (by rfl) (BP3 AK5 (by rfl) (fun hz=>by first|exact absurd rfl hz|(simp [lk,rn,o8,j4 hz,I7 hz];done)|rfl) (BP3 AL1 (by rfl) (fun hz=>by first|exact absurd rfl hz|(simp [lk,rn,o8,j4 hz,I7 hz];done)|rfl) tl_nil)) (by intro hs;(repeat' ((try (conv=>whnf));first|with_reducible exact True.intro|with_reducible refine And.intro ?_ ?_|(with_reducible refine WkX.mk ?_;first|exact Aj1|fail)))) (by intro hs;(repeat' (first|with_reducible exact I8|refine H7 hs (by first|decide|omega|simp) rfl (by first|rfl) (by (first|exact ppx|fail|((refine plain_app ?_ ?_)<;>(first|exact ppx|fail)))) ?_|refine P5 (by first|decide|omega|simp) rfl (by repeat' (first|with_reducible exact J9|with_reducible refine A9 ?_ ?_|(first|exact Aj1|fail))) ?_|refine AF9 (by first|decide|omega|simp) rfl (by ((try subst hF);(try subst hF2);exact AN7 (X5 (by (repeat' ((try (conv=>whnf));first|with_reducible exact True.intro|with_reducible refine And.intro ?_ ?_|(with_reducible refine WkX.mk ?_;first|exact Aj1|fail))))))) ?_|exact I8))))):p:=h
theorem sxA {p q:Prop} (hq:q) (h:X4 q→p:=by (intro hA;((first|(with_reducible first|refine M5 ?_|refine J4 ?_|refine M9 ?_|refine N8 ?_|refine J8 ?_|refine R4 ?_|refine M0 ?_|refine R3 rfl ?_|refine M4 ?_|refine H6 ?_|refine J6 ?_|refine J7 ?_|refine N7 ?_|refine G9 ?_|refine J5 (by decide +kernel) ?_|refine I9 (by decide +kernel) ?_|refine AF3 ?_|refine AF4 ?_|refine Ap5 ?_|refine Z5 ?_|refine AI6 ?_|refine Ai6 (by assumption) ?_|refine Ai7 (by assumption) ?_|refine Z0 (by omega) ?_|refine AI5 ?_|fail)|((with_reducible refine AI7 ?_ ?_);focus omega)|((with_reducible refine AI8 ?_ ?_);focus omega)|((with_reducible refine Ap4 ?_ ?_);focus (first|omega|rfl|assumption|decide|(simp only [List.length_map,List.length_cons,List.length_nil];omega)))|(with_reducible first|refine AI0 ?_|refine Y9 ?_|refine Y8 ?_|refine AI2 ?_|refine AI1 ?_|refine AH8 ?_|refine Ap3 ?_|refine G7 ?_|refine Y6 ?_|refine M8 ?_|refine M7 ?_|refine G8 ?_|refine AH9 (by omega) ?_|refine Y7 (by omega) ?_|fail)|fail);repeat' ((try (conv=>whnf));(first|(with_reducible first|refine M5 ?_|refine J4 ?_|refine M9 ?_|refine N8 ?_|refine J8 ?_|refine R4 ?_|refine M0 ?_|refine R3 rfl ?_|refine M4 ?_|refine H6 ?_|refine J6 ?_|refine J7 ?_|refine N7 ?_|refine G9 ?_|refine J5 (by decide +kernel) ?_|refine I9 (by decide +kernel) ?_|refine AF3 ?_|refine AF4 ?_|refine Ap5 ?_|refine Z5 ?_|refine AI6 ?_|refine Ai6 (by assumption) ?_|refine Ai7 (by assumption) ?_|refine Z0 (by omega) ?_|refine AI5 ?_|fail)|((with_reducible refine AI7 ?_ ?_);focus omega)|((with_reducible refine AI8 ?_ ?_);focus omega)|((with_reducible refine Ap4 ?_ ?_);focus (first|omega|rfl|assumption|decide|(simp only [List.length_map,List.length_cons,List.length_nil];omega)))|(with_reducible first|refine AI0 ?_|refine Y9 ?_|refine Y8 ?_|refine AI2 ?_|refine AI1 ?_|refine AH8 ?_|refine Ap3 ?_|refine G7 ?_|refine Y6 ?_|refine M8 ?_|refine M7 ?_|refine G8 ?_|refine AH9 (by omega) ?_|refine Y7 (by omega) ?_|fail)|fail)));exact hA.out)):p:=h ⟨hq⟩
theorem sxF {p q:Prop} (hq:q) (h:X4 q→p:=by (intro hA;(with_reducible first|refine x9 ?_|refine Ap6.mk (by kernel_rfl) ?_|refine AC6 rfl ?_|refine AA0 (by decide +kernel) ?_|refine z8 rfl ?_|fail);exact hA.out)):p:=h ⟨hq⟩
theorem sxN {p q:Prop} (hq:q) (h:X4 q→p:=by (intro hA;(with_reducible first|refine x9 ?_|refine Ap6.mk (by kernel_rfl) ?_|refine AA0 (by decide +kernel) ?_|refine z8 rfl ?_|fail);exact hA.out)):p:=h ⟨hq⟩
theorem sxH {p q:Prop} (hq:q) (h:X4 q→p:=by (intro hA;(first|refine G7 ?_|refine G8 ?_|refine AP9 rfl rfl ?_|refine V9 ?_|refine Q7 rfl ?_|refine AQ2 rfl ?_|refine AP0 rfl ?_|refine AC0 rfl ?_|refine L8 ?_|refine Aw2.mk ?_|fail);exact hA.out)):p:=h ⟨hq⟩
end Go.Am
