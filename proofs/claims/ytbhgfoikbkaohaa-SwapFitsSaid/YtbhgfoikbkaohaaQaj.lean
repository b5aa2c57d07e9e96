/-
 A walk as an argument's default: what is left of it is put together in one proposition. No program in sight.
 Zero values with very many cells: the code is turned with names for them. No program in sight.
-/
import Derived.Test.YtbhgfoikbkaohaaQai
set_option linter.unusedSimpArgs false
set_option linter.unusedVariables false
namespace Go.Am
structure Z7 (p:Prop):Prop where
 out:p
section
variable {p A B qa qb:Prop} {b:Bool}
theorem AK4 [Decidable p] (h:p) (hA:A):BrX (decide p) A B:=An2 (decide_eq_true h) hA
theorem AK5 [Decidable p] (h:¬ p) (hB:B):BrX (decide p) A B:=An3 (decide_eq_false h) hB
theorem U8 [Decidable p] (hq:Z7 ((p→qa)∧(¬ p→qb))) (hA:p→Z7 qa→A) (hB:¬ p→Z7 qb→B):BrX (decide p) A B:=br_d (fun h=>hA h ⟨hq.out.1 h⟩) fun h=>hB h ⟨hq.out.2 h⟩
theorem U9 (hq:Z7 ((b=true→qa)∧(b=false→qb))) (hA:b=true→Z7 qa→A) (hB:b=false→Z7 qb→B):BrX b A B:=br_b (fun h=>hA h ⟨hq.out.1 h⟩) fun h=>hB h ⟨hq.out.2 h⟩
theorem eqn_q {els:List (List AV)} {K:Bool→Prop} (hq:Z7 (qa∧qb)) (hA:Z7 qa→K true) (hB:Z7 qb→K false):EqnX (.isl els) K:=by
 cases els with
 | nil=>exact ⟨hA ⟨hq.out.1⟩,hB ⟨hq.out.2⟩⟩
 | cons a l=>exact ⟨hB ⟨hq.out.2⟩⟩
theorem eqn_n {K:Bool→Prop} (hq:Z7 (qa∧qb)) (hA:Z7 qa→K true) (hB:Z7 qb→K false):EqnX .nils K:=⟨hA ⟨hq.out.1⟩,hB ⟨hq.out.2⟩⟩
theorem Al8 {el:List AV} {els:List (List AV)} {K:Bool→Prop} (h:K false):EqnX (.isl (el::els)) K:=⟨h⟩
theorem Al7 {α:Type} {f:α→List AV} {x:α} {l:List α} {K:Bool→Prop} (h:K false):EqnX (.isl ((x::l).map f)) K:=⟨h⟩
theorem eqn_sl {id off len cp sz:Nat} {K:Bool→Prop} (h:K false):EqnX (.sl id off len cp sz) K:=⟨h⟩
end
end Go.Am
namespace Go.Am
def eqVA (v:Value) (x:AV):Bool:=match v,x with
 | .int k a,.int k' b=>decide (k=k') && decide (a=b)
 | .bool a,.bool b=>a == b
 | .slice none 0 0,.nils=>true
 | _,_=>false
theorem eqVA_ok {v:Value} {x:AV} (h:eqVA v x=true):ofL v=some x:=by
 unfold eqVA at h
 split at h
 ·simp only [Bool.and_eq_true,decide_eq_true_eq] at h
  obtain ⟨rfl,rfl⟩:=h
  rfl
 ·simp only [beq_iff_eq] at h
  subst h;rfl
 ·rfl
 ·cases h
def chkV:List Value→List AV→Bool
 | [],[]=>true
 | v::r,y::s=>match eqVA v y with
  | true=>chkV r s
  | false=>false
 | _,_=>false
theorem chkV_ok:∀ {l:List Value} {m:List AV},chkV l m=true→l.mapM ofL=some m
 | [],[],_=>rfl
 | v::r,y::s,h=>by
  simp only [chkV] at h
  split at h
  ·rename_i e
   rw [List.mapM_cons,eqVA_ok e,chkV_ok h];rfl
  ·cases h
 | [],_::_,h=>by cases h
 | _::_,[],h=>by cases h
def chkZ (i:TypeInfo) (z:List AV):Bool:=match i.zero with
 | some v=>chkV v.cells.toList z
 | none=>false
theorem chkZ_ok {P:Program} {t:TypeId} {i:TypeInfo} {z:List AV} (h1:P.info? t=some i) (h:chkZ i z=true):zeroOf P t=some z:=by
 unfold chkZ at h
 unfold zeroOf
 rw [h1]
 split at h
 ·rename_i v hv
  show (i.zero).bind _=_
  rw [hv];exact chkV_ok h
 ·cases h
section
variable {P:Program} {Z:TypeId→Option (List AV)}
def copZ (Z:TypeId→Option (List AV)) (P:Program):Op→Option AOp
 | .alloc e=>(Z e).map .new
 | .build t ps=>match P.underlying t,Z t with
  | some (.struct fs),some z=>match fs.toList.mapM (fun f=>(P.info? f.type).map fun i=>(f.offset,i.size)) with
   | some pl=>(AN7 (pl.toArray[·]?) ps.toList).map (.build z)
   | none=>none
  | some (.array _ e),some z=>(AB0 P e).bind fun s=>(AN7 (fun i=>some (i * s,s)) ps.toList).map (.build z)
  | _,_=>none
 | op=>cop P op
def ZOk (Z:TypeId→Option (List AV)) (P:Program):Prop:=∀ t z,Z t=some z→zeroOf P t=some z
theorem copZ_ok (hZ:ZOk Z P) {op:Op} {ao:AOp} (h:copZ Z P op=some ao):cop P op=some ao:=by
 cases op
 case alloc e =>
  simp only [copZ,Option.map_eq_some_iff] at h
  obtain ⟨z,h1,rfl⟩:=h
  simp only [cop,hZ _ _ h1,Option.map_some]
 case build t ps =>
  simp only [copZ] at h
  split at h
  ·rename_i fs z h1 h2
   simp only [cop,h1,hZ _ _ h2]
   exact h
  ·rename_i n e z h1 h2
   simp only [cop,h1,hZ _ _ h2]
   exact h
  ·cases h
 all_goals exact h
def BH8 (Z:TypeId→Option (List AV)) (P:Program) (ops:Array Oper) (o:Oper):Option F8 :=
 match copZ Z P o.op with
 | none=>none
 | some a=>match o.guard with
  | none=>some { dst:=o.dst,op:=a }
  | some (j,b)=>((ops[j]?).bind (·.dst)).map fun t=>{ dst:=o.dst,op:=a,guard:=some (t,b) }
theorem Au4 (hZ:ZOk Z P) {ops:Array Oper} {o:Oper} {ao:F8} (h:BH8 Z P ops o=some ao):Af2 P ops o=some ao:=by
 unfold BH8 at h
 unfold Af2
 split at h
 ·cases h
 ·rename_i a ha;rw [copZ_ok hZ ha];exact h
theorem mapM_ok {α β:Type} {f g:α→Option β} (hf:∀ a b,f a=some b→g a=some b):∀ {l:List α} {m:List β},l.mapM f=some m→l.mapM g=some m
 | [],m,h=>by simpa using h
 | a::l,m,h=>by
  rw [List.mapM_cons] at h ⊢
  simp only [bind,Option.bind_eq_some_iff,pure,Option.some.injEq] at h ⊢
  obtain ⟨b,h1,m',h2,rfl⟩:=h
  exact ⟨b,hf _ _ h1,m',mapM_ok hf h2,rfl⟩
def o9 (Z:TypeId→Option (List AV)) (P:Program):Code→Option ACode
 | .skip=>some .skip
 | .region _ ops false=>(ops.toList.mapM (BH8 Z P ops)).map .reg
 | .region _ ops true=>(ops.toList.mapM (BH8 Z P ops)).map fun l=>.regD l (ops.toList.map AB6)
 | .seq a b=>match o9 Z P a,o9 Z P b with|some a,some b=>some (.seq a b)|_,_=>none
 | .cond c a b=>match cox c,o9 Z P a,o9 Z P b with|some c,some a,some b=>some (.cond c a b)|_,_,_=>none
 | .block i c=>(o9 Z P c).map (.block i)
 | .loop c=>(o9 Z P c).map .loop
 | .rangeFunc f ps a b=>match cox f,o9 Z P a,o9 Z P b with|some f,some a,some b=>some (.rangeF f ps.toList a b)|_,_,_=>none
 | .exit i=>some (.exit i)
 | .ret=>some .ret
 | _=>none
theorem X6 (hZ:ZOk Z P):∀ {c:Code} {ac:ACode},o9 Z P c=some ac→Q6 P c=some ac
 | .skip,_,h=>h
 | .region _ ops false,_,h=>by
  simp only [o9,Option.map_eq_some_iff] at h
  obtain ⟨l,h1,rfl⟩:=h
  have : BB4 P ops=some l:=mapM_ok (fun a b=>Au4 hZ) h1
  simp only [Q6,this,Option.map_some]
 | .region _ ops true,_,h=>by
  simp only [o9,Option.map_eq_some_iff] at h
  obtain ⟨l,h1,rfl⟩:=h
  have : BB4 P ops=some l:=mapM_ok (fun a b=>Au4 hZ) h1
  simp only [Q6,this,Option.map_some]
 | .seq a b,_,h=>by
  simp only [o9] at h
  split at h
  ·rename_i x y h1 h2
   simp only [Q6,X6 hZ h1,X6 hZ h2];exact h
  ·cases h
 | .cond c a b,_,h=>by
  simp only [o9] at h
  split at h
  ·rename_i x y z h1 h2 h3
   simp only [Q6,h1,X6 hZ h2,X6 hZ h3];exact h
  ·cases h
 | .block i c,_,h=>by
  simp only [o9,Option.map_eq_some_iff] at h
  obtain ⟨l,h1,rfl⟩:=h
  simp only [Q6,X6 hZ h1,Option.map_some]
 | .loop c,_,h=>by
  simp only [o9,Option.map_eq_some_iff] at h
  obtain ⟨l,h1,rfl⟩:=h
  simp only [Q6,X6 hZ h1,Option.map_some]
 | .rangeFunc f ps a b,_,h=>by
  simp only [o9] at h
  split at h
  ·rename_i x y z h1 h2 h3
   simp only [Q6,h1,X6 hZ h2,X6 hZ h3];exact h
  ·cases h
 | .exit i,_,h=>h
 | .ret,_,h=>h
end
theorem plw {p:Prop} (h:p:=by ((first|assumption|exact A8|exact D9|exact Ab0|exact V4|exact M4|exact BL5|exact BU5|fail);first|done|fail)):p:=h
theorem prx {p:Prop} (h:p:=by ((repeat' (first|exact BL7|refine BL6 ?_ ?_|exact A8|exact plx|fail));first|done|fail)):p:=h
theorem ppw {p:Prop} (h:p:=by ((first|with_reducible apply Aq8 (fun _=>A8)|with_reducible apply Aq8 (fun _=>D9)|exact prx|fail);first|done|fail)):p:=h
theorem wvxQ0 {p:Prop} (h:p:=by ((first|exact Ai6|exact K5 (by first|rfl|omega|(dsimp only;omega))|exact AF6 rfl|exact Z8 rfl (by first|decide|simp|omega)|exact BO6 rfl (by first|decide|simp|omega) (by first|rfl|omega|simp) (by first|omega|simp) (by first|omega|simp)|exact BO7 rfl (by first|decide|simp|omega)|exact Aw6 (by first|rfl|simp)|exact Ai7 rfl (by first|decide|omega|(simp;done)) (by first|omega|(simp;done)) (by first|rfl|omega|(simp;done)|(simp;omega))|exact R9 hs plx|(with_reducible refine wk_fn ?_ ?_<;>repeat' (first|with_reducible exact K4|with_reducible refine D6 ?_ ?_|exact Z8 rfl (by first|decide|simp|omega)))|(with_reducible refine BC2 ?_;repeat' (first|with_reducible exact K4|with_reducible refine D6 ?_ ?_|exact K5 (by first|rfl|omega|(dsimp only;omega))|exact AF6 rfl))|exact BO5 rfl (by first|decide|simp|omega)|fail);first|done|fail)):p:=h
theorem BJ7 {p:Prop} (h:p:=by ((first|exact Ai6|exact K5 (by first|rfl|omega|(dsimp only;omega))|exact AF6 rfl|exact Z8 rfl (by first|decide|simp|omega)|exact AV3 rfl (by first|decide|simp|omega)|exact BO6 rfl (by first|decide|simp|omega) (by first|rfl|omega|simp) (by first|omega|simp) (by first|omega|simp)|exact BO7 rfl (by first|decide|simp|omega)|exact Aw6 (by first|rfl|simp)|exact Ai7 rfl (by first|decide|omega|(simp;done)) (by first|omega|(simp;done)) (by first|rfl|omega|(simp;done)|(simp;omega))|exact R9 hs plx|(with_reducible refine wk_fn ?_ ?_<;>repeat' (first|with_reducible exact K4|with_reducible refine D6 ?_ ?_|exact Z8 rfl (by first|decide|simp|omega)))|(with_reducible refine BC2 ?_;repeat' (first|with_reducible exact K4|with_reducible refine D6 ?_ ?_|exact K5 (by first|rfl|omega|(dsimp only;omega))|exact AF6 rfl))|exact BO5 rfl (by first|decide|simp|omega)|(with_reducible refine AZ5 ?_;repeat' (first|with_reducible exact K4|with_reducible refine D6 ?_ ?_|exact K5 (by first|rfl|omega|(dsimp only;omega))|exact AF6 rfl|exact Z8 rfl (by first|decide|simp|omega)))|fail);first|done|fail)):p:=h
theorem Ai2 {p:Prop} (h:p:=by ((first|exact Ai6|exact K5 (by first|rfl|omega|(dsimp only;omega))|exact AF6 rfl|exact Z8 rfl (by first|decide|simp|omega)|exact AV3 rfl (by first|decide|simp|omega)|exact BO6 rfl (by first|decide|simp|omega) (by first|rfl|omega|simp) (by first|omega|simp) (by first|omega|simp)|exact BP0 Aj2 Q7 rfl (fun hz=>by first|(simp [lk,AW6,l8 hz,AT3 hz];done)|exact l8 hz|rfl) (not_of (by simp [rn])) hs|exact BO7 rfl (by first|decide|simp|omega)|exact Aw6 (by first|rfl|simp)|exact Ai7 rfl (by first|decide|omega|(simp;done)) (by first|omega|(simp;done)) (by first|rfl|omega|(simp;done)|(simp;omega))|exact R9 hs plx|(with_reducible refine wk_fn ?_ ?_<;>repeat' (first|with_reducible exact K4|with_reducible refine D6 ?_ ?_|exact Z8 rfl (by first|decide|simp|omega)))|(with_reducible refine BC2 ?_;repeat' (first|with_reducible exact K4|with_reducible refine D6 ?_ ?_|exact K5 (by first|rfl|omega|(dsimp only;omega))|exact AF6 rfl))|exact BO5 rfl (by first|decide|simp|omega)|(with_reducible refine AZ5 ?_;repeat' (first|with_reducible exact K4|with_reducible refine D6 ?_ ?_|exact K5 (by first|rfl|omega|(dsimp only;omega))|exact AF6 rfl|exact Z8 rfl (by first|decide|simp|omega)))|fail);first|done|fail)):p:=h
theorem l7 {p:Prop} (h:p:=by (refine BC3 (by exact P6 rfl) (by exact Aa3 rfl) (by intro hs;(repeat' ((try (conv=>whnf));first|with_reducible exact True.intro|with_reducible refine And.intro ?_ ?_|(with_reducible refine WkX.mk ?_;first|exact wvxQ0|fail)))) (by intro hs;(try dsimp only);(repeat' (first|with_reducible exact K3|refine I5 hs (by first|decide|omega|simp) rfl (by first|rfl) (by (first|exact ppx|fail|((refine plain_app ?_ ?_)<;>(first|exact ppx|fail)))) ?_|refine U4 (by first|decide|omega|simp) rfl (by repeat' (first|with_reducible exact K4|with_reducible refine D6 ?_ ?_|(first|exact wvxQ0|fail))) ?_|refine AK7 (by first|decide|omega|simp) rfl (by ((try subst hF);(try subst hF2);exact AV2 (p9 (by (repeat' ((try (conv=>whnf));first|with_reducible exact True.intro|with_reducible refine And.intro ?_ ?_|(with_reducible refine WkX.mk ?_;first|exact wvxQ0|fail))))))) ?_|exact K3))))):p:=h
theorem Y4 {p:Prop} (h:p:=by (refine BC3 (by exact P6 rfl) (by exact Aa3 rfl) (by intro hs;(repeat' ((try (conv=>whnf));first|with_reducible exact True.intro|with_reducible refine And.intro ?_ ?_|(with_reducible refine WkX.mk ?_;first|exact BJ7|fail)))) (by intro hs;(try dsimp only);(repeat' (first|with_reducible exact K3|refine AZ4 (by first|decide|omega|simp) rfl rfl (by first|decide|omega|simp) rfl (by first|decide|omega|simp) rfl (by first|decide|omega|simp) rfl (by first|decide|omega|simp) ?_|refine J6 hs (by first|decide|omega|simp) rfl rfl (A9 G6) ?_|refine J6 hs (by first|decide|omega|simp) rfl rfl (A9 G7) ?_|refine J6 hs (by first|decide|omega|simp) rfl rfl (A9 G5) ?_|refine I5 hs (by first|decide|omega|simp) rfl (by first|rfl) (by (first|exact ppx|fail|((refine plain_app ?_ ?_)<;>(first|exact ppx|fail)))) ?_|refine U4 (by first|decide|omega|simp) rfl (by repeat' (first|with_reducible exact K4|with_reducible refine D6 ?_ ?_|(first|exact BJ7|fail))) ?_|refine AK7 (by first|decide|omega|simp) rfl (by ((try subst hF);(try subst hF2);exact AV2 (p9 (by (repeat' ((try (conv=>whnf));first|with_reducible exact True.intro|with_reducible refine And.intro ?_ ?_|(with_reducible refine WkX.mk ?_;first|exact BJ7|fail))))))) ?_|exact K3))))):p:=h
theorem wkxQ3 {p:Prop} (h:p:=by (refine BC3 (by exact P6 rfl) (by exact Aa3 rfl) (by intro hs;(repeat' ((try (conv=>whnf));first|with_reducible exact True.intro|with_reducible refine And.intro ?_ ?_|(with_reducible refine WkX.mk ?_;first|exact Ai2|fail)))) (by intro hs;(try dsimp only);(repeat' (first|with_reducible exact K3|refine AZ4 (by first|decide|omega|simp) rfl rfl (by first|decide|omega|simp) rfl (by first|decide|omega|simp) rfl (by first|decide|omega|simp) rfl (by first|decide|omega|simp) ?_|refine J6 hs (by first|decide|omega|simp) rfl rfl (A9 G6) ?_|refine J6 hs (by first|decide|omega|simp) rfl rfl (A9 G7) ?_|refine J6 hs (by first|decide|omega|simp) rfl rfl (A9 G5) ?_|refine I5 hs (by first|decide|omega|simp) rfl (by first|rfl) (by (first|exact ppx|fail|((refine plain_app ?_ ?_)<;>(first|exact ppx|fail)))) ?_|refine U4 (by first|decide|omega|simp) rfl (by repeat' (first|with_reducible exact K4|with_reducible refine D6 ?_ ?_|(first|exact Ai2|fail))) ?_|refine AK7 (by first|decide|omega|simp) rfl (by ((try subst hF);(try subst hF2);exact AV2 (p9 (by (repeat' ((try (conv=>whnf));first|with_reducible exact True.intro|with_reducible refine And.intro ?_ ?_|(with_reducible refine WkX.mk ?_;first|exact Ai2|fail))))))) ?_|exact K3))))):p:=h
theorem wkxQ4 {p:Prop} (h:p:=by (refine weak_o (by rfl) (by rfl) (fun hz=>by first|exact absurd rfl hz|(simp [lk,l8 hz];done)|exact l8 hz|rfl) (by rfl) (Q7) (by intro hs;(repeat' ((try (conv=>whnf));first|with_reducible exact True.intro|with_reducible refine And.intro ?_ ?_|(with_reducible refine WkX.mk ?_;first|exact Ai2|fail)))) (by intro hs;(repeat' (first|with_reducible exact K3|refine AZ4 (by first|decide|omega|simp) rfl rfl (by first|decide|omega|simp) rfl (by first|decide|omega|simp) rfl (by first|decide|omega|simp) rfl (by first|decide|omega|simp) ?_|refine J6 hs (by first|decide|omega|simp) rfl rfl (A9 G6) ?_|refine J6 hs (by first|decide|omega|simp) rfl rfl (A9 G7) ?_|refine J6 hs (by first|decide|omega|simp) rfl rfl (A9 G5) ?_|refine I5 hs (by first|decide|omega|simp) rfl (by first|rfl) (by (first|exact ppx|fail|((refine plain_app ?_ ?_)<;>(first|exact ppx|fail)))) ?_|refine U4 (by first|decide|omega|simp) rfl (by repeat' (first|with_reducible exact K4|with_reducible refine D6 ?_ ?_|(first|exact Ai2|fail))) ?_|refine AK7 (by first|decide|omega|simp) rfl (by ((try subst hF);(try subst hF2);exact AV2 (p9 (by (repeat' ((try (conv=>whnf));first|with_reducible exact True.intro|with_reducible refine And.intro ?_ ?_|(with_reducible refine WkX.mk ?_;first|exact Ai2|fail))))))) ?_|exact K3))))):p:=h
theorem wkxQ5 {p:Prop} (h:p:=by (refine weak_o (by rfl) (by rfl) (fun hz=>by first|exact absurd rfl hz|(simp [lk,l8 hz];done)|exact l8 hz|rfl) (by rfl) (AB2) (by intro hs;(repeat' ((try (conv=>whnf));first|with_reducible exact True.intro|with_reducible refine And.intro ?_ ?_|(with_reducible refine WkX.mk ?_;first|exact Ai2|fail)))) (by intro hs;(repeat' (first|with_reducible exact K3|refine AZ4 (by first|decide|omega|simp) rfl rfl (by first|decide|omega|simp) rfl (by first|decide|omega|simp) rfl (by first|decide|omega|simp) rfl (by first|decide|omega|simp) ?_|refine J6 hs (by first|decide|omega|simp) rfl rfl (A9 G6) ?_|refine J6 hs (by first|decide|omega|simp) rfl rfl (A9 G7) ?_|refine J6 hs (by first|decide|omega|simp) rfl rfl (A9 G5) ?_|refine I5 hs (by first|decide|omega|simp) rfl (by first|rfl) (by (first|exact ppx|fail|((refine plain_app ?_ ?_)<;>(first|exact ppx|fail)))) ?_|refine U4 (by first|decide|omega|simp) rfl (by repeat' (first|with_reducible exact K4|with_reducible refine D6 ?_ ?_|(first|exact Ai2|fail))) ?_|refine AK7 (by first|decide|omega|simp) rfl (by ((try subst hF);(try subst hF2);exact AV2 (p9 (by (repeat' ((try (conv=>whnf));first|with_reducible exact True.intro|with_reducible refine And.intro ?_ ?_|(with_reducible refine WkX.mk ?_;first|exact Ai2|fail))))))) ?_|exact K3))))):p:=h
theorem Ai4 {p:Prop} (h:p:=by (refine BC3 (by exact P6 rfl) (by exact Aa3 rfl) (by intro hs;(repeat' ((try (conv=>whnf));first|with_reducible exact True.intro|with_reducible refine And.intro ?_ ?_|(with_reducible refine WkX.mk ?_;first|exact BJ7|fail)))) (by intro hs;(try dsimp only);(repeat' (first|with_reducible exact K3|refine AZ4 (by first|decide|omega|simp) rfl rfl (by first|decide|omega|simp) rfl (by first|decide|omega|simp) rfl (by first|decide|omega|simp) rfl (by first|decide|omega|simp) ?_|refine J6 hs (by first|decide|omega|simp) rfl rfl (A9 G6) ?_|refine J6 hs (by first|decide|omega|simp) rfl rfl (A9 G7) ?_|refine J6 hs (by first|decide|omega|simp) rfl rfl (A9 G5) ?_|refine J6 hs (by first|decide|omega|simp) rfl rfl (A9 Aq9) ?_|refine J6 hs (by first|decide|omega|simp) rfl rfl mapP_nil ?_|refine I5 hs (by first|decide|omega|simp) rfl (by first|rfl) (by (first|exact ppx|fail|((refine plain_app ?_ ?_)<;>(first|exact ppx|fail)))) ?_|refine U4 (by first|decide|omega|simp) rfl (by repeat' (first|with_reducible exact K4|with_reducible refine D6 ?_ ?_|(first|exact BJ7|fail))) ?_|refine AK7 (by first|decide|omega|simp) rfl (by ((try subst hF);(try subst hF2);exact AV2 (p9 (by (repeat' ((try (conv=>whnf));first|with_reducible exact True.intro|with_reducible refine And.intro ?_ ?_|(with_reducible refine WkX.mk ?_;first|exact BJ7|fail))))))) ?_|exact K3))))):p:=h
theorem sxA {p q:Prop} (hq:q) (h:Z7 q→p:=by (intro hA;((first|(with_reducible first|refine M7 ?_|refine I8 ?_|refine O1 ?_|refine O5 ?_|refine J5 ?_|refine R3 ?_|refine M5 ?_|refine Q9 rfl ?_|refine M6 ?_|refine G9 ?_|refine J3 ?_|refine J4 ?_|refine O4 ?_|refine G8 ?_|refine I9 (by decide +kernel) ?_|refine I6 (by decide +kernel) ?_|refine AH0 ?_|refine AH1 ?_|refine Av0 ?_|refine l6 ?_|refine AK3 ?_|refine An2 (by assumption) ?_|refine An3 (by assumption) ?_|refine l5 (by omega) ?_|refine AK1 ?_|fail)|((with_reducible refine AK4 ?_ ?_);focus omega)|((with_reducible refine AK5 ?_ ?_);focus omega)|((with_reducible refine Au7 ?_ ?_);focus (first|omega|rfl|assumption|decide|(simp only [List.length_map,List.length_cons,List.length_nil];omega)))|(with_reducible first|refine AJ7 ?_|refine j6 ?_|refine j5 ?_|refine AJ9 ?_|refine AJ8 ?_|refine AJ5 ?_|refine At7 ?_|refine H7 ?_|refine d9 ?_|refine N7 ?_|refine M9 ?_|refine H8 ?_|refine AJ6 (by omega) ?_|refine j4 (by omega) ?_|fail)|fail);repeat' ((try (conv=>whnf));(first|(with_reducible first|refine M7 ?_|refine I8 ?_|refine O1 ?_|refine O5 ?_|refine J5 ?_|refine R3 ?_|refine M5 ?_|refine Q9 rfl ?_|refine M6 ?_|refine G9 ?_|refine J3 ?_|refine J4 ?_|refine O4 ?_|refine G8 ?_|refine I9 (by decide +kernel) ?_|refine I6 (by decide +kernel) ?_|refine AH0 ?_|refine AH1 ?_|refine Av0 ?_|refine l6 ?_|refine AK3 ?_|refine An2 (by assumption) ?_|refine An3 (by assumption) ?_|refine l5 (by omega) ?_|refine AK1 ?_|fail)|((with_reducible refine AK4 ?_ ?_);focus omega)|((with_reducible refine AK5 ?_ ?_);focus omega)|((with_reducible refine Au7 ?_ ?_);focus (first|omega|rfl|assumption|decide|(simp only [List.length_map,List.length_cons,List.length_nil];omega)))|(with_reducible first|refine AJ7 ?_|refine j6 ?_|refine j5 ?_|refine AJ9 ?_|refine AJ8 ?_|refine AJ5 ?_|refine At7 ?_|refine H7 ?_|refine d9 ?_|refine N7 ?_|refine M9 ?_|refine H8 ?_|refine AJ6 (by omega) ?_|refine j4 (by omega) ?_|fail)|fail)));exact hA.out)):p:=h ⟨hq⟩
theorem sxF {p q:Prop} (hq:q) (h:Z7 q→p:=by (intro hA;(with_reducible first|refine AC9 ?_|refine Aw3.mk (by kernel_rfl) ?_|refine AF2 rfl ?_|refine AD1 (by decide +kernel) ?_|refine AD0 rfl ?_|fail);exact hA.out)):p:=h ⟨hq⟩
theorem sxN {p q:Prop} (hq:q) (h:Z7 q→p:=by (intro hA;(with_reducible first|refine AC9 ?_|refine Aw3.mk (by kernel_rfl) ?_|refine AD1 (by decide +kernel) ?_|refine AD0 rfl ?_|fail);exact hA.out)):p:=h ⟨hq⟩
theorem sxH {p q:Prop} (hq:q) (h:Z7 q→p:=by (intro hA;(first|refine H7 ?_|refine H8 ?_|refine AU3 rfl rfl ?_|refine Y8 ?_|refine T9 rfl ?_|refine AU8 rfl ?_|refine AS5 rfl ?_|refine AE2 rfl ?_|refine P5 ?_|refine BJ5.mk ?_|fail);exact hA.out)):p:=h ⟨hq⟩
end Go.Am
