/-
 A walk as an argument's default: what is left of it is put together in one proposition. No program in sight.
 Zero values with very many cells: the code is turned with names for them. No program in sight.
-/
import Derived.Test.YtbhgfoikbkaohaaGreatQai
set_option linter.unusedSimpArgs false
set_option linter.unusedVariables false
namespace Go.Am
structure Y2 (p:Prop):Prop where
 out:p
section
variable {p A B qa qb:Prop} {b:Bool}
theorem AJ6 [Decidable p] (h:p) (hA:A):BrX (decide p) A B:=Af8 (decide_eq_true h) hA
theorem AJ7 [Decidable p] (h:¬ p) (hB:B):BrX (decide p) A B:=Af9 (decide_eq_false h) hB
theorem U3 [Decidable p] (hq:Y2 ((p→qa)∧(¬ p→qb))) (hA:p→Y2 qa→A) (hB:¬ p→Y2 qb→B):BrX (decide p) A B:=br_d (fun h=>hA h ⟨hq.out.1 h⟩) fun h=>hB h ⟨hq.out.2 h⟩
theorem U4 (hq:Y2 ((b=true→qa)∧(b=false→qb))) (hA:b=true→Y2 qa→A) (hB:b=false→Y2 qb→B):BrX b A B:=br_b (fun h=>hA h ⟨hq.out.1 h⟩) fun h=>hB h ⟨hq.out.2 h⟩
theorem eqn_q {els:List (List AV)} {K:Bool→Prop} (hq:Y2 (qa∧qb)) (hA:Y2 qa→K true) (hB:Y2 qb→K false):EqnX (.isl els) K:=by
 cases els with
 | nil=>exact ⟨hA ⟨hq.out.1⟩,hB ⟨hq.out.2⟩⟩
 | cons a l=>exact ⟨hB ⟨hq.out.2⟩⟩
theorem eqn_n {K:Bool→Prop} (hq:Y2 (qa∧qb)) (hA:Y2 qa→K true) (hB:Y2 qb→K false):EqnX .nils K:=⟨hA ⟨hq.out.1⟩,hB ⟨hq.out.2⟩⟩
theorem Aw3 {el:List AV} {els:List (List AV)} {K:Bool→Prop} (h:K false):EqnX (.isl (el::els)) K:=⟨h⟩
theorem Aw2 {α:Type} {f:α→List AV} {x:α} {l:List α} {K:Bool→Prop} (h:K false):EqnX (.isl ((x::l).map f)) K:=⟨h⟩
theorem eqn_sl {id off len cp sz:Nat} {K:Bool→Prop} (h:K false):EqnX (.sl id off len cp sz) K:=⟨h⟩
end
end Go.Am
namespace Go.Am
def eqVA (v:Value) (x:AV):Bool:=match v,x with
 | .int k a,.int k' b=>decide (k=k') && decide (a=b)
 | .bool a,.bool b=>a == b
 | .slice none 0 0,.nils=>true
 | .pointer none,.nilp=>true
 | _,_=>false
theorem eqVA_ok {v:Value} {x:AV} (h:eqVA v x=true):ofL v=some x:=by
 unfold eqVA at h
 split at h
 ·simp only [Bool.and_eq_true,decide_eq_true_eq] at h
  obtain ⟨rfl,rfl⟩:=h
  rfl
 ·simp only [beq_iff_eq] at h
  subst h;rfl
 ·rfl
 ·rfl
 ·cases h
def chkV:List Value→List AV→Bool
 | [],[]=>true
 | v::r,y::s=>match eqVA v y with
  | true=>chkV r s
  | false=>false
 | _,_=>false
theorem chkV_ok:∀ {l:List Value} {m:List AV},chkV l m=true→l.mapM ofL=some m
 | [],[],_=>rfl
 | v::r,y::s,h=>by
  simp only [chkV] at h
  split at h
  ·rename_i e
   rw [List.mapM_cons,eqVA_ok e,chkV_ok h];rfl
  ·cases h
 | [],_::_,h=>by cases h
 | _::_,[],h=>by cases h
def chkZ (i:TypeInfo) (z:List AV):Bool:=match i.zero with
 | some v=>chkV v.cells.toList z
 | none=>false
theorem BN0 {P:Program} {t:TypeId} {i:TypeInfo} {z:List AV} (h1:P.info? t=some i) (h:chkZ i z=true):zeroOf P t=some z:=by
 unfold chkZ at h
 unfold zeroOf
 rw [h1]
 split at h
 ·rename_i v hv
  show (i.zero).bind _=_
  rw [hv];exact chkV_ok h
 ·cases h
section
variable {P:Program} {Z:TypeId→Option (List AV)}
def copZ (Z:TypeId→Option (List AV)) (P:Program):Op→Option AOp
 | .alloc e=>(Z e).map .new
 | .build t ps=>match P.underlying t,Z t with
  | some (.struct fs),some z=>match fs.toList.mapM (fun f=>(P.info? f.type).map fun i=>(f.offset,i.size)) with
   | some pl=>(AV1 (pl.toArray[·]?) ps.toList).map (.build z)
   | none=>none
  | some (.array _ e),some z=>(AH6 P e).bind fun s=>(AV1 (fun i=>some (i * s,s)) ps.toList).map (.build z)
  | _,_=>none
 | op=>cop P op
def ZOk (Z:TypeId→Option (List AV)) (P:Program):Prop:=∀ t z,Z t=some z→zeroOf P t=some z
theorem copZ_ok (hZ:ZOk Z P) {op:Op} {ao:AOp} (h:copZ Z P op=some ao):cop P op=some ao:=by
 cases op
 case alloc e =>
  simp only [copZ,Option.map_eq_some_iff] at h
  obtain ⟨z,h1,rfl⟩:=h
  simp only [cop,hZ _ _ h1,Option.map_some]
 case build t ps =>
  simp only [copZ] at h
  split at h
  ·rename_i fs z h1 h2
   simp only [cop,h1,hZ _ _ h2]
   exact h
  ·rename_i n e z h1 h2
   simp only [cop,h1,hZ _ _ h2]
   exact h
  ·cases h
 all_goals exact h
def BU1 (Z:TypeId→Option (List AV)) (P:Program) (ops:Array Oper) (o:Oper):Option K5 :=
 match copZ Z P o.op with
 | none=>none
 | some a=>match o.guard with
  | none=>some { dst:=o.dst,op:=a }
  | some (j,b)=>((ops[j]?).bind (·.dst)).map fun t=>{ dst:=o.dst,op:=a,guard:=some (t,b) }
theorem BF0 (hZ:ZOk Z P) {ops:Array Oper} {o:Oper} {ao:K5} (h:BU1 Z P ops o=some ao):Ap2 P ops o=some ao:=by
 unfold BU1 at h
 unfold Ap2
 split at h
 ·cases h
 ·rename_i a ha;rw [copZ_ok hZ ha];exact h
theorem mapM_ok {α β:Type} {f g:α→Option β} (hf:∀ a b,f a=some b→g a=some b):∀ {l:List α} {m:List β},l.mapM f=some m→l.mapM g=some m
 | [],m,h=>by simpa using h
 | a::l,m,h=>by
  rw [List.mapM_cons] at h ⊢
  simp only [bind,Option.bind_eq_some_iff,pure,Option.some.injEq] at h ⊢
  obtain ⟨b,h1,m',h2,rfl⟩:=h
  exact ⟨b,hf _ _ h1,m',mapM_ok hf h2,rfl⟩
def AG5 (Z:TypeId→Option (List AV)) (P:Program):Code→Option ACode
 | .skip=>some .skip
 | .region _ ops false=>(ops.toList.mapM (BU1 Z P ops)).map .reg
 | .region _ ops true=>(ops.toList.mapM (BU1 Z P ops)).map fun l=>.regD l (ops.toList.map AH9)
 | .seq a b=>match AG5 Z P a,AG5 Z P b with|some a,some b=>some (.seq a b)|_,_=>none
 | .cond c a b=>match cox c,AG5 Z P a,AG5 Z P b with|some c,some a,some b=>some (.cond c a b)|_,_,_=>none
 | .block i c=>(AG5 Z P c).map (.block i)
 | .loop c=>(AG5 Z P c).map .loop
 | .rangeFunc f ps a b=>match cox f,AG5 Z P a,AG5 Z P b with|some f,some a,some b=>some (.rangeF f ps.toList a b)|_,_,_=>none
 | .exit i=>some (.exit i)
 | .ret=>some .ret
 | _=>none
theorem p9 (hZ:ZOk Z P):∀ {c:Code} {ac:ACode},AG5 Z P c=some ac→j4 P c=some ac
 | .skip,_,h=>h
 | .region _ ops false,_,h=>by
  simp only [AG5,Option.map_eq_some_iff] at h
  obtain ⟨l,h1,rfl⟩:=h
  have : BM8 P ops=some l:=mapM_ok (fun a b=>BF0 hZ) h1
  simp only [j4,this,Option.map_some]
 | .region _ ops true,_,h=>by
  simp only [AG5,Option.map_eq_some_iff] at h
  obtain ⟨l,h1,rfl⟩:=h
  have : BM8 P ops=some l:=mapM_ok (fun a b=>BF0 hZ) h1
  simp only [j4,this,Option.map_some]
 | .seq a b,_,h=>by
  simp only [AG5] at h
  split at h
  ·rename_i x y h1 h2
   simp only [j4,p9 hZ h1,p9 hZ h2];exact h
  ·cases h
 | .cond c a b,_,h=>by
  simp only [AG5] at h
  split at h
  ·rename_i x y z h1 h2 h3
   simp only [j4,h1,p9 hZ h2,p9 hZ h3];exact h
  ·cases h
 | .block i c,_,h=>by
  simp only [AG5,Option.map_eq_some_iff] at h
  obtain ⟨l,h1,rfl⟩:=h
  simp only [j4,p9 hZ h1,Option.map_some]
 | .loop c,_,h=>by
  simp only [AG5,Option.map_eq_some_iff] at h
  obtain ⟨l,h1,rfl⟩:=h
  simp only [j4,p9 hZ h1,Option.map_some]
 | .rangeFunc f ps a b,_,h=>by
  simp only [AG5] at h
  split at h
  ·rename_i x y z h1 h2 h3
   simp only [j4,h1,p9 hZ h2,p9 hZ h3];exact h
  ·cases h
 | .exit i,_,h=>h
 | .ret,_,h=>h
end
theorem plw {p:Prop} (h:p:=by ((first|assumption|exact A8|exact C9|exact Aj9|exact Z5|exact X0|exact plain_nilf|exact plain_str|fail);first|done|fail)):p:=h
theorem prx {p:Prop} (h:p:=by ((repeat' (first|exact plain_all0|refine plain_all2 ?_ ?_|exact A8|exact plx|fail));first|done|fail)):p:=h
theorem ppw {p:Prop} (h:p:=by ((first|with_reducible apply BB8 (fun _=>A8)|with_reducible apply BB8 (fun _=>C9)|exact prx|fail);first|done|fail)):p:=h
theorem As8 {p:Prop} (h:p:=by ((first|exact AX7|exact M9 (by first|rfl|omega|(dsimp only;omega))|exact X8 rfl|exact U5 rfl (by first|decide|simp|omega)|exact BH2 rfl (by first|decide|simp|omega) (by first|rfl|omega|simp) (by first|omega|simp) (by first|omega|simp)|exact Az3 rfl (by first|decide|simp|omega)|exact Ah9 (by first|rfl|simp)|exact AX8 rfl (by first|decide|omega|(simp;done)) (by first|omega|(simp;done)) (by first|rfl|omega|(simp;done)|(simp;omega))|exact X4 hs plx|(with_reducible refine BV8 ?_ ?_<;>repeat' (first|with_reducible exact G7|with_reducible refine A9 ?_ ?_|exact U5 rfl (by first|decide|simp|omega)))|(with_reducible refine AY0 ?_;repeat' (first|with_reducible exact G7|with_reducible refine A9 ?_ ?_|exact M9 (by first|rfl|omega|(dsimp only;omega))|exact X8 rfl))|exact Az2 rfl (by first|decide|simp|omega)|fail);first|done|fail)):p:=h
theorem Af4 {p:Prop} (h:p:=by ((first|exact AX7|exact M9 (by first|rfl|omega|(dsimp only;omega))|exact X8 rfl|exact U5 rfl (by first|decide|simp|omega)|exact AX9 rfl (by first|decide|simp|omega)|exact BH2 rfl (by first|decide|simp|omega) (by first|rfl|omega|simp) (by first|omega|simp) (by first|omega|simp)|exact Az3 rfl (by first|decide|simp|omega)|exact Ah9 (by first|rfl|simp)|exact AX8 rfl (by first|decide|omega|(simp;done)) (by first|omega|(simp;done)) (by first|rfl|omega|(simp;done)|(simp;omega))|exact X4 hs plx|(with_reducible refine BV8 ?_ ?_<;>repeat' (first|with_reducible exact G7|with_reducible refine A9 ?_ ?_|exact U5 rfl (by first|decide|simp|omega)))|(with_reducible refine AY0 ?_;repeat' (first|with_reducible exact G7|with_reducible refine A9 ?_ ?_|exact M9 (by first|rfl|omega|(dsimp only;omega))|exact X8 rfl))|exact Az2 rfl (by first|decide|simp|omega)|(with_reducible refine AK2 ?_;repeat' (first|with_reducible exact G7|with_reducible refine A9 ?_ ?_|exact M9 (by first|rfl|omega|(dsimp only;omega))|exact X8 rfl|exact U5 rfl (by first|decide|simp|omega)))|fail);first|done|fail)):p:=h
theorem As7 {p:Prop} (h:p:=by ((first|exact AX7|exact M9 (by first|rfl|omega|(dsimp only;omega))|exact X8 rfl|exact U5 rfl (by first|decide|simp|omega)|exact AX9 rfl (by first|decide|simp|omega)|exact BH2 rfl (by first|decide|simp|omega) (by first|rfl|omega|simp) (by first|omega|simp) (by first|omega|simp)|exact AM9 AP7 U6 rfl (fun hz=>by first|(simp [lk,O8,F8 hz,N8 hz];done)|exact F8 hz|rfl) (BR5 (by simp [rn])) hs|exact Az3 rfl (by first|decide|simp|omega)|exact Ah9 (by first|rfl|simp)|exact AX8 rfl (by first|decide|omega|(simp;done)) (by first|omega|(simp;done)) (by first|rfl|omega|(simp;done)|(simp;omega))|exact X4 hs plx|(with_reducible refine BV8 ?_ ?_<;>repeat' (first|with_reducible exact G7|with_reducible refine A9 ?_ ?_|exact U5 rfl (by first|decide|simp|omega)))|(with_reducible refine AY0 ?_;repeat' (first|with_reducible exact G7|with_reducible refine A9 ?_ ?_|exact M9 (by first|rfl|omega|(dsimp only;omega))|exact X8 rfl))|exact Az2 rfl (by first|decide|simp|omega)|(with_reducible refine AK2 ?_;repeat' (first|with_reducible exact G7|with_reducible refine A9 ?_ ?_|exact M9 (by first|rfl|omega|(dsimp only;omega))|exact X8 rfl|exact U5 rfl (by first|decide|simp|omega)))|fail);first|done|fail)):p:=h
theorem BV7 {p:Prop} (h:p:=by ((first|exact AX7|exact M9 (by first|rfl|omega|(dsimp only;omega))|exact X8 rfl|exact U5 rfl (by first|decide|simp|omega)|exact AX9 rfl (by first|decide|simp|omega)|exact BH2 rfl (by first|decide|simp|omega) (by first|rfl|omega|simp) (by first|omega|simp) (by first|omega|simp)|exact AM9 AP7 U6 rfl (fun hz=>by first|(simp [lk,O8,F8 hz,N8 hz];done)|exact F8 hz|rfl) (BR5 (by first|(simp [rn];done)|(simp [rn,AE4];done))) hs|exact Az3 rfl (by first|decide|simp|omega)|exact Ah9 (by first|rfl|simp)|exact AX8 rfl (by first|decide|omega|(simp;done)) (by first|omega|(simp;done)) (by first|rfl|omega|(simp;done)|(simp;omega))|exact X4 hs plx|(with_reducible refine BV8 ?_ ?_<;>repeat' (first|with_reducible exact G7|with_reducible refine A9 ?_ ?_|exact U5 rfl (by first|decide|simp|omega)))|(with_reducible refine AY0 ?_;repeat' (first|with_reducible exact G7|with_reducible refine A9 ?_ ?_|exact M9 (by first|rfl|omega|(dsimp only;omega))|exact X8 rfl))|exact Az2 rfl (by first|decide|simp|omega)|(with_reducible refine AK2 ?_;repeat' (first|with_reducible exact G7|with_reducible refine A9 ?_ ?_|exact M9 (by first|rfl|omega|(dsimp only;omega))|exact X8 rfl|exact U5 rfl (by first|decide|simp|omega)))|fail);first|done|fail)):p:=h
theorem wvxQ4 {p:Prop} (h:p:=by ((first|exact AX7|exact M9 (by first|rfl|omega|(dsimp only;omega))|exact X8 rfl|exact U5 rfl (by first|decide|simp|omega)|exact BH2 rfl (by first|decide|simp|omega) (by first|rfl|omega|simp) (by first|omega|simp) (by first|omega|simp)|exact BH4 (by omega) rfl rfl (tl_not (Al2 (Al2 (Al2 lk_nil_in))) rfl) hs|exact wk_sl0|exact Az3 rfl (by first|decide|simp|omega)|exact Ah9 (by first|rfl|simp)|exact AX8 rfl (by first|decide|omega|(simp;done)) (by first|omega|(simp;done)) (by first|rfl|omega|(simp;done)|(simp;omega))|exact X4 hs plx|(with_reducible refine BV8 ?_ ?_<;>repeat' (first|with_reducible exact G7|with_reducible refine A9 ?_ ?_|exact U5 rfl (by first|decide|simp|omega)))|(with_reducible refine AY0 ?_;repeat' (first|with_reducible exact G7|with_reducible refine A9 ?_ ?_|exact M9 (by first|rfl|omega|(dsimp only;omega))|exact X8 rfl))|exact Az2 rfl (by first|decide|simp|omega)|fail);first|done|fail)):p:=h
theorem R7 {p:Prop} (h:p:=by (refine Ap5 (by exact O7 rfl) (by exact AP8 rfl) (by intro hs;(repeat' ((try (conv=>whnf));first|with_reducible exact True.intro|with_reducible refine And.intro ?_ ?_|(with_reducible refine WkX.mk ?_;first|exact As8|fail)))) (by intro hs;(try dsimp only);(repeat' (first|with_reducible exact I5|refine G9 hs (by first|decide|omega|simp) rfl (by first|rfl) (by (first|exact ppx|fail|((refine plain_app ?_ ?_)<;>(first|exact ppx|fail)))) ?_|refine M8 (by first|decide|omega|simp) rfl (by repeat' (first|with_reducible exact G7|with_reducible refine A9 ?_ ?_|(first|exact As8|fail))) ?_|refine u6 (by first|decide|omega|simp) rfl (by ((try subst hF);(try subst hF2);exact AG3 (X3 (by (repeat' ((try (conv=>whnf));first|with_reducible exact True.intro|with_reducible refine And.intro ?_ ?_|(with_reducible refine WkX.mk ?_;first|exact As8|fail))))))) ?_|exact I5))))):p:=h
theorem BH1 {p:Prop} (h:p:=by (refine Az4 (by rfl) (by rfl) (fun hz=>by first|exact absurd rfl hz|(simp [lk,F8 hz];done)|exact F8 hz|rfl) (by rfl) (Y5) (by intro hs;(repeat' ((try (conv=>whnf));first|with_reducible exact True.intro|with_reducible refine And.intro ?_ ?_|(with_reducible refine WkX.mk ?_;first|exact As8|fail)))) (by intro hs;(repeat' (first|with_reducible exact I5|refine G9 hs (by first|decide|omega|simp) rfl (by first|rfl) (by (first|exact ppx|fail|((refine plain_app ?_ ?_)<;>(first|exact ppx|fail)))) ?_|refine M8 (by first|decide|omega|simp) rfl (by repeat' (first|with_reducible exact G7|with_reducible refine A9 ?_ ?_|(first|exact As8|fail))) ?_|refine u6 (by first|decide|omega|simp) rfl (by ((try subst hF);(try subst hF2);exact AG3 (X3 (by (repeat' ((try (conv=>whnf));first|with_reducible exact True.intro|with_reducible refine And.intro ?_ ?_|(with_reducible refine WkX.mk ?_;first|exact As8|fail))))))) ?_|exact I5))))):p:=h
theorem AD4 {p:Prop} (h:p:=by (refine Ap5 (by exact O7 rfl) (by exact AP8 rfl) (by intro hs;(repeat' ((try (conv=>whnf));first|with_reducible exact True.intro|with_reducible refine And.intro ?_ ?_|(with_reducible refine WkX.mk ?_;first|exact Af4|fail)))) (by intro hs;(try dsimp only);(repeat' (first|with_reducible exact I5|refine AV5 (by first|decide|omega|simp) rfl rfl (by first|decide|omega|simp) rfl (by first|decide|omega|simp) rfl (by first|decide|omega|simp) rfl (by first|decide|omega|simp) ?_|refine M5 hs (by first|decide|omega|simp) rfl rfl (D5 J7) ?_|refine M5 hs (by first|decide|omega|simp) rfl rfl (D5 J8) ?_|refine M5 hs (by first|decide|omega|simp) rfl rfl (D5 J5) ?_|refine G9 hs (by first|decide|omega|simp) rfl (by first|rfl) (by (first|exact ppx|fail|((refine plain_app ?_ ?_)<;>(first|exact ppx|fail)))) ?_|refine M8 (by first|decide|omega|simp) rfl (by repeat' (first|with_reducible exact G7|with_reducible refine A9 ?_ ?_|(first|exact Af4|fail))) ?_|refine u6 (by first|decide|omega|simp) rfl (by ((try subst hF);(try subst hF2);exact AG3 (X3 (by (repeat' ((try (conv=>whnf));first|with_reducible exact True.intro|with_reducible refine And.intro ?_ ?_|(with_reducible refine WkX.mk ?_;first|exact Af4|fail))))))) ?_|exact I5))))):p:=h
theorem wkxQ3 {p:Prop} (h:p:=by (refine Ap5 (by exact O7 rfl) (by exact AP8 rfl) (by intro hs;(repeat' ((try (conv=>whnf));first|with_reducible exact True.intro|with_reducible refine And.intro ?_ ?_|(with_reducible refine WkX.mk ?_;first|exact As7|fail)))) (by intro hs;(try dsimp only);(repeat' (first|with_reducible exact I5|refine AV5 (by first|decide|omega|simp) rfl rfl (by first|decide|omega|simp) rfl (by first|decide|omega|simp) rfl (by first|decide|omega|simp) rfl (by first|decide|omega|simp) ?_|refine M5 hs (by first|decide|omega|simp) rfl rfl (D5 J7) ?_|refine M5 hs (by first|decide|omega|simp) rfl rfl (D5 J8) ?_|refine M5 hs (by first|decide|omega|simp) rfl rfl (D5 J5) ?_|refine G9 hs (by first|decide|omega|simp) rfl (by first|rfl) (by (first|exact ppx|fail|((refine plain_app ?_ ?_)<;>(first|exact ppx|fail)))) ?_|refine M8 (by first|decide|omega|simp) rfl (by repeat' (first|with_reducible exact G7|with_reducible refine A9 ?_ ?_|(first|exact As7|fail))) ?_|refine u6 (by first|decide|omega|simp) rfl (by ((try subst hF);(try subst hF2);exact AG3 (X3 (by (repeat' ((try (conv=>whnf));first|with_reducible exact True.intro|with_reducible refine And.intro ?_ ?_|(with_reducible refine WkX.mk ?_;first|exact As7|fail))))))) ?_|exact I5))))):p:=h
theorem wkxQ4 {p:Prop} (h:p:=by (refine Az4 (by rfl) (by rfl) (fun hz=>by first|exact absurd rfl hz|(simp [lk,F8 hz];done)|exact F8 hz|rfl) (by rfl) (U6) (by intro hs;(repeat' ((try (conv=>whnf));first|with_reducible exact True.intro|with_reducible refine And.intro ?_ ?_|(with_reducible refine WkX.mk ?_;first|exact As7|fail)))) (by intro hs;(repeat' (first|with_reducible exact I5|refine AV5 (by first|decide|omega|simp) rfl rfl (by first|decide|omega|simp) rfl (by first|decide|omega|simp) rfl (by first|decide|omega|simp) rfl (by first|decide|omega|simp) ?_|refine M5 hs (by first|decide|omega|simp) rfl rfl (D5 J7) ?_|refine M5 hs (by first|decide|omega|simp) rfl rfl (D5 J8) ?_|refine M5 hs (by first|decide|omega|simp) rfl rfl (D5 J5) ?_|refine G9 hs (by first|decide|omega|simp) rfl (by first|rfl) (by (first|exact ppx|fail|((refine plain_app ?_ ?_)<;>(first|exact ppx|fail)))) ?_|refine M8 (by first|decide|omega|simp) rfl (by repeat' (first|with_reducible exact G7|with_reducible refine A9 ?_ ?_|(first|exact As7|fail))) ?_|refine u6 (by first|decide|omega|simp) rfl (by ((try subst hF);(try subst hF2);exact AG3 (X3 (by (repeat' ((try (conv=>whnf));first|with_reducible exact True.intro|with_reducible refine And.intro ?_ ?_|(with_reducible refine WkX.mk ?_;first|exact As7|fail))))))) ?_|exact I5))))):p:=h
theorem wkxQ5 {p:Prop} (h:p:=by (refine Az4 (by rfl) (by rfl) (fun hz=>by first|exact absurd rfl hz|(simp [lk,F8 hz];done)|exact F8 hz|rfl) (by rfl) (AA4) (by intro hs;(repeat' ((try (conv=>whnf));first|with_reducible exact True.intro|with_reducible refine And.intro ?_ ?_|(with_reducible refine WkX.mk ?_;first|exact As7|fail)))) (by intro hs;(repeat' (first|with_reducible exact I5|refine AV5 (by first|decide|omega|simp) rfl rfl (by first|decide|omega|simp) rfl (by first|decide|omega|simp) rfl (by first|decide|omega|simp) rfl (by first|decide|omega|simp) ?_|refine M5 hs (by first|decide|omega|simp) rfl rfl (D5 J7) ?_|refine M5 hs (by first|decide|omega|simp) rfl rfl (D5 J8) ?_|refine M5 hs (by first|decide|omega|simp) rfl rfl (D5 J5) ?_|refine G9 hs (by first|decide|omega|simp) rfl (by first|rfl) (by (first|exact ppx|fail|((refine plain_app ?_ ?_)<;>(first|exact ppx|fail)))) ?_|refine M8 (by first|decide|omega|simp) rfl (by repeat' (first|with_reducible exact G7|with_reducible refine A9 ?_ ?_|(first|exact As7|fail))) ?_|refine u6 (by first|decide|omega|simp) rfl (by ((try subst hF);(try subst hF2);exact AG3 (X3 (by (repeat' ((try (conv=>whnf));first|with_reducible exact True.intro|with_reducible refine And.intro ?_ ?_|(with_reducible refine WkX.mk ?_;first|exact As7|fail))))))) ?_|exact I5))))):p:=h
theorem BH0 {p:Prop} (h:p:=by (refine weak_t (by rfl) (by rfl) (Ai6 AI4 (by rfl) (fun hz=>by first|exact absurd rfl hz|(simp [lk,rn,O8,N8 hz,F8 hz];done)|rfl) (Ai6 AJ4 (by rfl) (fun hz=>by first|exact absurd rfl hz|(simp [lk,rn,O8,N8 hz,F8 hz];done)|rfl) tl_nil)) (by intro hs;(repeat' ((try (conv=>whnf));first|with_reducible exact True.intro|with_reducible refine And.intro ?_ ?_|(with_reducible refine WkX.mk ?_;first|exact As8|fail)))) (by intro hs;(repeat' (first|with_reducible exact I5|refine G9 hs (by first|decide|omega|simp) rfl (by first|rfl) (by (first|exact ppx|fail|((refine plain_app ?_ ?_)<;>(first|exact ppx|fail)))) ?_|refine M8 (by first|decide|omega|simp) rfl (by repeat' (first|with_reducible exact G7|with_reducible refine A9 ?_ ?_|(first|exact As8|fail))) ?_|refine u6 (by first|decide|omega|simp) rfl (by ((try subst hF);(try subst hF2);exact AG3 (X3 (by (repeat' ((try (conv=>whnf));first|with_reducible exact True.intro|with_reducible refine And.intro ?_ ?_|(with_reducible refine WkX.mk ?_;first|exact As8|fail))))))) ?_|exact I5))))):p:=h
theorem Y8 {p:Prop} (h:p:=by (refine Ap5 (by exact O7 rfl) (by exact AP8 rfl) (by intro hs;(repeat' ((try (conv=>whnf));first|with_reducible exact True.intro|with_reducible refine And.intro ?_ ?_|(with_reducible refine WkX.mk ?_;first|exact Af4|fail)))) (by intro hs;(try dsimp only);(repeat' (first|with_reducible exact I5|refine AV6 hs (by first|decide|omega|simp) rfl rfl (by first|decide|omega|simp) ?_|refine G9 hs (by first|decide|omega|simp) rfl (by first|rfl) (by (first|exact ppx|fail|((refine plain_app ?_ ?_)<;>(first|exact ppx|fail)))) ?_|refine M8 (by first|decide|omega|simp) rfl (by repeat' (first|with_reducible exact G7|with_reducible refine A9 ?_ ?_|(first|exact Af4|fail))) ?_|refine u6 (by first|decide|omega|simp) rfl (by ((try subst hF);(try subst hF2);exact AG3 (X3 (by (repeat' ((try (conv=>whnf));first|with_reducible exact True.intro|with_reducible refine And.intro ?_ ?_|(with_reducible refine WkX.mk ?_;first|exact Af4|fail))))))) ?_|exact I5))))):p:=h
theorem wkxQ8 {p:Prop} (h:p:=by (refine Az4 (by rfl) (by rfl) (fun hz=>by first|exact absurd rfl hz|(simp [lk,F8 hz];done)|exact F8 hz|rfl) (by rfl) (U6) (by intro hs;(repeat' ((try (conv=>whnf));first|with_reducible exact True.intro|with_reducible refine And.intro ?_ ?_|(with_reducible refine WkX.mk ?_;first|exact BV7|fail)))) (by intro hs;(repeat' (first|with_reducible exact I5|refine AV6 hs (by first|decide|omega|simp) rfl rfl (by first|decide|omega|simp) ?_|refine G9 hs (by first|decide|omega|simp) rfl (by first|rfl) (by (first|exact ppx|fail|((refine plain_app ?_ ?_)<;>(first|exact ppx|fail)))) ?_|refine M8 (by first|decide|omega|simp) rfl (by repeat' (first|with_reducible exact G7|with_reducible refine A9 ?_ ?_|(first|exact BV7|fail))) ?_|refine u6 (by first|decide|omega|simp) rfl (by ((try subst hF);(try subst hF2);exact AG3 (X3 (by (repeat' ((try (conv=>whnf));first|with_reducible exact True.intro|with_reducible refine And.intro ?_ ?_|(with_reducible refine WkX.mk ?_;first|exact BV7|fail))))))) ?_|exact I5))))):p:=h
theorem wkxQ9 {p:Prop} (h:p:=by (refine Az4 (by rfl) (by rfl) (fun hz=>by first|exact absurd rfl hz|(simp [lk,F8 hz];done)|exact F8 hz|rfl) (by rfl) (AA4) (by intro hs;(repeat' ((try (conv=>whnf));first|with_reducible exact True.intro|with_reducible refine And.intro ?_ ?_|(with_reducible refine WkX.mk ?_;first|exact BV7|fail)))) (by intro hs;(repeat' (first|with_reducible exact I5|refine AV6 hs (by first|decide|omega|simp) rfl rfl (by first|decide|omega|simp) ?_|refine G9 hs (by first|decide|omega|simp) rfl (by first|rfl) (by (first|exact ppx|fail|((refine plain_app ?_ ?_)<;>(first|exact ppx|fail)))) ?_|refine M8 (by first|decide|omega|simp) rfl (by repeat' (first|with_reducible exact G7|with_reducible refine A9 ?_ ?_|(first|exact BV7|fail))) ?_|refine u6 (by first|decide|omega|simp) rfl (by ((try subst hF);(try subst hF2);exact AG3 (X3 (by (repeat' ((try (conv=>whnf));first|with_reducible exact True.intro|with_reducible refine And.intro ?_ ?_|(with_reducible refine WkX.mk ?_;first|exact BV7|fail))))))) ?_|exact I5))))):p:=h
theorem AX6 {p:Prop} (h:p:=by (refine Ap5 (by exact O7 rfl) (by exact AP8 rfl) (by intro hs;(repeat' ((try (conv=>whnf));first|with_reducible exact True.intro|with_reducible refine And.intro ?_ ?_|(with_reducible refine WkX.mk ?_;first|exact Af4|fail)))) (by intro hs;(try dsimp only);(repeat' (first|with_reducible exact I5|refine AV5 (by first|decide|omega|simp) rfl rfl (by first|decide|omega|simp) rfl (by first|decide|omega|simp) rfl (by first|decide|omega|simp) rfl (by first|decide|omega|simp) ?_|refine M5 hs (by first|decide|omega|simp) rfl rfl (D5 J7) ?_|refine M5 hs (by first|decide|omega|simp) rfl rfl (D5 J8) ?_|refine M5 hs (by first|decide|omega|simp) rfl rfl (D5 J5) ?_|refine M5 hs (by first|decide|omega|simp) rfl rfl (D5 BB9) ?_|refine M5 hs (by first|decide|omega|simp) rfl rfl mapP_nil ?_|refine G9 hs (by first|decide|omega|simp) rfl (by first|rfl) (by (first|exact ppx|fail|((refine plain_app ?_ ?_)<;>(first|exact ppx|fail)))) ?_|refine M8 (by first|decide|omega|simp) rfl (by repeat' (first|with_reducible exact G7|with_reducible refine A9 ?_ ?_|(first|exact Af4|fail))) ?_|refine u6 (by first|decide|omega|simp) rfl (by ((try subst hF);(try subst hF2);exact AG3 (X3 (by (repeat' ((try (conv=>whnf));first|with_reducible exact True.intro|with_reducible refine And.intro ?_ ?_|(with_reducible refine WkX.mk ?_;first|exact Af4|fail))))))) ?_|exact I5))))):p:=h
theorem AE8 {p:Prop} (h:p:=by (refine weak_t (by rfl) (by rfl) (Ai6 Y5 (by rfl) (fun hz=>by first|exact absurd rfl hz|(simp [lk,rn,O8,N8 hz,F8 hz];done)|rfl) (Ai6 AI4 (by rfl) (fun hz=>by first|exact absurd rfl hz|(simp [lk,rn,O8,N8 hz,F8 hz];done)|rfl) (Ai6 AJ4 (by rfl) (fun hz=>by first|exact absurd rfl hz|(simp [lk,rn,O8,N8 hz,F8 hz];done)|rfl) tl_nil))) (by intro hs;(repeat' ((try (conv=>whnf));first|with_reducible exact True.intro|with_reducible refine And.intro ?_ ?_|(with_reducible refine WkX.mk ?_;first|exact wvxQ4|fail)))) (by intro hs;(repeat' (first|with_reducible exact I5|refine G9 hs (by first|decide|omega|simp) rfl (by first|rfl) (by (first|exact ppx|fail|((refine plain_app ?_ ?_)<;>(first|exact ppx|fail)))) ?_|refine M8 (by first|decide|omega|simp) rfl (by repeat' (first|with_reducible exact G7|with_reducible refine A9 ?_ ?_|(first|exact wvxQ4|fail))) ?_|refine u6 (by first|decide|omega|simp) rfl (by ((try subst hF);(try subst hF2);exact AG3 (X3 (by (repeat' ((try (conv=>whnf));first|with_reducible exact True.intro|with_reducible refine And.intro ?_ ?_|(with_reducible refine WkX.mk ?_;first|exact wvxQ4|fail))))))) ?_|exact I5))))):p:=h
theorem Az1 {p:Prop} (h:p:=by (refine Ap5 (by exact O7 rfl) (by exact AP8 rfl) (by intro hs;(repeat' ((try (conv=>whnf));first|with_reducible exact True.intro|with_reducible refine And.intro ?_ ?_|(with_reducible refine WkX.mk ?_;first|exact Af4|fail)))) (by intro hs;(try dsimp only);(repeat' (first|with_reducible exact I5|refine AV5 (by first|decide|omega|simp) rfl rfl (by first|decide|omega|simp) rfl (by first|decide|omega|simp) rfl (by first|decide|omega|simp) rfl (by first|decide|omega|simp) ?_|refine M5 hs (by first|decide|omega|simp) rfl rfl (D5 J7) ?_|refine M5 hs (by first|decide|omega|simp) rfl rfl (D5 J8) ?_|refine M5 hs (by first|decide|omega|simp) rfl rfl (D5 J5) ?_|refine AV6 hs (by first|decide|omega|simp) rfl rfl (by first|decide|omega|simp) ?_|refine G9 hs (by first|decide|omega|simp) rfl (by first|rfl) (by (first|exact ppx|fail|((refine plain_app ?_ ?_)<;>(first|exact ppx|fail)))) ?_|refine M8 (by first|decide|omega|simp) rfl (by repeat' (first|with_reducible exact G7|with_reducible refine A9 ?_ ?_|(first|exact Af4|fail))) ?_|refine u6 (by first|decide|omega|simp) rfl (by ((try subst hF);(try subst hF2);exact AG3 (X3 (by (repeat' ((try (conv=>whnf));first|with_reducible exact True.intro|with_reducible refine And.intro ?_ ?_|(with_reducible refine WkX.mk ?_;first|exact Af4|fail))))))) ?_|exact I5))))):p:=h
theorem sxA {p q:Prop} (hq:q) (h:Y2 q→p:=by (intro hA;((first|(with_reducible first|refine O4 ?_|refine K6 ?_|refine P6 ?_|refine P8 ?_|refine L6 ?_|refine U9 ?_|refine N9 ?_|refine U8 rfl ?_|refine O1 ?_|refine J3 ?_|refine K8 ?_|refine K9 ?_|refine P7 ?_|refine J2 ?_|refine K7 (by decide +kernel) ?_|refine K3 (by decide +kernel) ?_|refine AG0 ?_|refine AG1 ?_|refine An9 ?_|refine r9 ?_|refine AJ5 ?_|refine Af8 (by assumption) ?_|refine Af9 (by assumption) ?_|refine o9 (by omega) ?_|refine AJ3 ?_|fail)|((with_reducible refine AJ6 ?_ ?_);focus omega)|((with_reducible refine AJ7 ?_ ?_);focus omega)|((with_reducible refine An3 ?_ ?_);focus (first|omega|rfl|assumption|decide|(simp only [List.length_map,List.length_cons,List.length_nil];omega)))|(with_reducible first|refine AI9 ?_|refine o8 ?_|refine l9 ?_|refine AJ1 ?_|refine AJ0 ?_|refine AI7 ?_|refine Am8 ?_|refine I8 ?_|refine l7 ?_|refine P5 ?_|refine O9 ?_|refine I9 ?_|refine AI8 (by omega) ?_|refine l8 (by omega) ?_|fail)|fail);repeat' ((try (conv=>whnf));(first|(with_reducible first|refine O4 ?_|refine K6 ?_|refine P6 ?_|refine P8 ?_|refine L6 ?_|refine U9 ?_|refine N9 ?_|refine U8 rfl ?_|refine O1 ?_|refine J3 ?_|refine K8 ?_|refine K9 ?_|refine P7 ?_|refine J2 ?_|refine K7 (by decide +kernel) ?_|refine K3 (by decide +kernel) ?_|refine AG0 ?_|refine AG1 ?_|refine An9 ?_|refine r9 ?_|refine AJ5 ?_|refine Af8 (by assumption) ?_|refine Af9 (by assumption) ?_|refine o9 (by omega) ?_|refine AJ3 ?_|fail)|((with_reducible refine AJ6 ?_ ?_);focus omega)|((with_reducible refine AJ7 ?_ ?_);focus omega)|((with_reducible refine An3 ?_ ?_);focus (first|omega|rfl|assumption|decide|(simp only [List.length_map,List.length_cons,List.length_nil];omega)))|(with_reducible first|refine AI9 ?_|refine o8 ?_|refine l9 ?_|refine AJ1 ?_|refine AJ0 ?_|refine AI7 ?_|refine Am8 ?_|refine I8 ?_|refine l7 ?_|refine P5 ?_|refine O9 ?_|refine I9 ?_|refine AI8 (by omega) ?_|refine l8 (by omega) ?_|fail)|fail)));exact hA.out)):p:=h ⟨hq⟩
theorem sxF {p q:Prop} (hq:q) (h:Y2 q→p:=by (intro hA;(with_reducible first|refine AB8 ?_|refine Ap4.mk (by kernel_rfl) ?_|refine AD1 rfl ?_|refine AC1 (by decide +kernel) ?_|refine AC0 rfl ?_|fail);exact hA.out)):p:=h ⟨hq⟩
theorem sxN {p q:Prop} (hq:q) (h:Y2 q→p:=by (intro hA;(with_reducible first|refine AB8 ?_|refine Ap4.mk (by kernel_rfl) ?_|refine AC1 (by decide +kernel) ?_|refine AC0 rfl ?_|fail);exact hA.out)):p:=h ⟨hq⟩
theorem sxH {p q:Prop} (hq:q) (h:Y2 q→p:=by (intro hA;(first|refine I8 ?_|refine I9 ?_|refine AP1 rfl rfl ?_|refine Z6 ?_|refine V6 rfl ?_|refine AP2 rfl ?_|refine AO9 rfl ?_|refine AD0 rfl ?_|refine Q6 ?_|refine As5.mk ?_|fail);exact hA.out)):p:=h ⟨hq⟩
end Go.Am
