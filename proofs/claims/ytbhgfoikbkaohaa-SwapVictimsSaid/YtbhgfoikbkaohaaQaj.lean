/-
 A walk as an argument's default: what is left of it is put together in one proposition. No program in sight.
 Zero values with very many cells: the code is turned with names for them. No program in sight.
-/
import Derived.Test.YtbhgfoikbkaohaaQai
set_option linter.unusedSimpArgs false
set_option linter.unusedVariables false
namespace Go.Am
structure Z5 (p:Prop):Prop where
 out:p
section
variable {p A B qa qb:Prop} {b:Bool}
theorem AK8 [Decidable p] (h:p) (hA:A):BrX (decide p) A B:=Al8 (decide_eq_true h) hA
theorem AK9 [Decidable p] (h:¬ p) (hB:B):BrX (decide p) A B:=Al9 (decide_eq_false h) hB
theorem V6 [Decidable p] (hq:Z5 ((p→qa)∧(¬ p→qb))) (hA:p→Z5 qa→A) (hB:¬ p→Z5 qb→B):BrX (decide p) A B:=br_d (fun h=>hA h ⟨hq.out.1 h⟩) fun h=>hB h ⟨hq.out.2 h⟩
theorem V7 (hq:Z5 ((b=true→qa)∧(b=false→qb))) (hA:b=true→Z5 qa→A) (hB:b=false→Z5 qb→B):BrX b A B:=br_b (fun h=>hA h ⟨hq.out.1 h⟩) fun h=>hB h ⟨hq.out.2 h⟩
theorem eqn_q {els:List (List AV)} {K:Bool→Prop} (hq:Z5 (qa∧qb)) (hA:Z5 qa→K true) (hB:Z5 qb→K false):EqnX (.isl els) K:=by
 cases els with
 | nil=>exact ⟨hA ⟨hq.out.1⟩,hB ⟨hq.out.2⟩⟩
 | cons a l=>exact ⟨hB ⟨hq.out.2⟩⟩
theorem eqn_n {K:Bool→Prop} (hq:Z5 (qa∧qb)) (hA:Z5 qa→K true) (hB:Z5 qb→K false):EqnX .nils K:=⟨hA ⟨hq.out.1⟩,hB ⟨hq.out.2⟩⟩
theorem Aj8 {el:List AV} {els:List (List AV)} {K:Bool→Prop} (h:K false):EqnX (.isl (el::els)) K:=⟨h⟩
theorem Aj7 {α:Type} {f:α→List AV} {x:α} {l:List α} {K:Bool→Prop} (h:K false):EqnX (.isl ((x::l).map f)) K:=⟨h⟩
theorem BV4 {id off len cp sz:Nat} {K:Bool→Prop} (h:K false):EqnX (.sl id off len cp sz) K:=⟨h⟩
end
end Go.Am
namespace Go.Am
def eqVA (v:Value) (x:AV):Bool:=match v,x with
 | .int k a,.int k' b=>decide (k=k') && decide (a=b)
 | .bool a,.bool b=>a == b
 | .slice none 0 0,.nils=>true
 | _,_=>false
theorem eqVA_ok {v:Value} {x:AV} (h:eqVA v x=true):ofL v=some x:=by
 unfold eqVA at h
 split at h
 ·simp only [Bool.and_eq_true,decide_eq_true_eq] at h
  obtain ⟨rfl,rfl⟩:=h
  rfl
 ·simp only [beq_iff_eq] at h
  subst h;rfl
 ·rfl
 ·cases h
def chkV:List Value→List AV→Bool
 | [],[]=>true
 | v::r,y::s=>match eqVA v y with
  | true=>chkV r s
  | false=>false
 | _,_=>false
theorem BW7:∀ {l:List Value} {m:List AV},chkV l m=true→l.mapM ofL=some m
 | [],[],_=>rfl
 | v::r,y::s,h=>by
  simp only [chkV] at h
  split at h
  ·rename_i e
   rw [List.mapM_cons,eqVA_ok e,BW7 h];rfl
  ·cases h
 | [],_::_,h=>by cases h
 | _::_,[],h=>by cases h
def chkZ (i:TypeInfo) (z:List AV):Bool:=match i.zero with
 | some v=>chkV v.cells.toList z
 | none=>false
theorem chkZ_ok {P:Program} {t:TypeId} {i:TypeInfo} {z:List AV} (h1:P.info? t=some i) (h:chkZ i z=true):zeroOf P t=some z:=by
 unfold chkZ at h
 unfold zeroOf
 rw [h1]
 split at h
 ·rename_i v hv
  show (i.zero).bind _=_
  rw [hv];exact BW7 h
 ·cases h
section
variable {P:Program} {Z:TypeId→Option (List AV)}
def copZ (Z:TypeId→Option (List AV)) (P:Program):Op→Option AOp
 | .alloc e=>(Z e).map .new
 | .build t ps=>match P.underlying t,Z t with
  | some (.struct fs),some z=>match fs.toList.mapM (fun f=>(P.info? f.type).map fun i=>(f.offset,i.size)) with
   | some pl=>(AL7 (pl.toArray[·]?) ps.toList).map (.build z)
   | none=>none
  | some (.array _ e),some z=>(x9 P e).bind fun s=>(AL7 (fun i=>some (i * s,s)) ps.toList).map (.build z)
  | _,_=>none
 | op=>cop P op
def ZOk (Z:TypeId→Option (List AV)) (P:Program):Prop:=∀ t z,Z t=some z→zeroOf P t=some z
theorem copZ_ok (hZ:ZOk Z P) {op:Op} {ao:AOp} (h:copZ Z P op=some ao):cop P op=some ao:=by
 cases op
 case alloc e =>
  simp only [copZ,Option.map_eq_some_iff] at h
  obtain ⟨z,h1,rfl⟩:=h
  simp only [cop,hZ _ _ h1,Option.map_some]
 case build t ps =>
  simp only [copZ] at h
  split at h
  ·rename_i fs z h1 h2
   simp only [cop,h1,hZ _ _ h2]
   exact h
  ·rename_i n e z h1 h2
   simp only [cop,h1,hZ _ _ h2]
   exact h
  ·cases h
 all_goals exact h
def BE1 (Z:TypeId→Option (List AV)) (P:Program) (ops:Array Oper) (o:Oper):Option F8 :=
 match copZ Z P o.op with
 | none=>none
 | some a=>match o.guard with
  | none=>some { dst:=o.dst,op:=a }
  | some (j,b)=>((ops[j]?).bind (·.dst)).map fun t=>{ dst:=o.dst,op:=a,guard:=some (t,b) }
theorem Ar1 (hZ:ZOk Z P) {ops:Array Oper} {o:Oper} {ao:F8} (h:BE1 Z P ops o=some ao):Ad3 P ops o=some ao:=by
 unfold BE1 at h
 unfold Ad3
 split at h
 ·cases h
 ·rename_i a ha;rw [copZ_ok hZ ha];exact h
theorem mapM_ok {α β:Type} {f g:α→Option β} (hf:∀ a b,f a=some b→g a=some b):∀ {l:List α} {m:List β},l.mapM f=some m→l.mapM g=some m
 | [],m,h=>by simpa using h
 | a::l,m,h=>by
  rw [List.mapM_cons] at h ⊢
  simp only [bind,Option.bind_eq_some_iff,pure,Option.some.injEq] at h ⊢
  obtain ⟨b,h1,m',h2,rfl⟩:=h
  exact ⟨b,hf _ _ h1,m',mapM_ok hf h2,rfl⟩
def j6 (Z:TypeId→Option (List AV)) (P:Program):Code→Option ACode
 | .skip=>some .skip
 | .region _ ops false=>(ops.toList.mapM (BE1 Z P ops)).map .reg
 | .region _ ops true=>(ops.toList.mapM (BE1 Z P ops)).map fun l=>.regD l (ops.toList.map AA1)
 | .seq a b=>match j6 Z P a,j6 Z P b with|some a,some b=>some (.seq a b)|_,_=>none
 | .cond c a b=>match cox c,j6 Z P a,j6 Z P b with|some c,some a,some b=>some (.cond c a b)|_,_,_=>none
 | .block i c=>(j6 Z P c).map (.block i)
 | .loop c=>(j6 Z P c).map .loop
 | .rangeFunc f ps a b=>match cox f,j6 Z P a,j6 Z P b with|some f,some a,some b=>some (.rangeF f ps.toList a b)|_,_,_=>none
 | .exit i=>some (.exit i)
 | .ret=>some .ret
 | _=>none
theorem V3 (hZ:ZOk Z P):∀ {c:Code} {ac:ACode},j6 Z P c=some ac→P7 P c=some ac
 | .skip,_,h=>h
 | .region _ ops false,_,h=>by
  simp only [j6,Option.map_eq_some_iff] at h
  obtain ⟨l,h1,rfl⟩:=h
  have : Ay2 P ops=some l:=mapM_ok (fun a b=>Ar1 hZ) h1
  simp only [P7,this,Option.map_some]
 | .region _ ops true,_,h=>by
  simp only [j6,Option.map_eq_some_iff] at h
  obtain ⟨l,h1,rfl⟩:=h
  have : Ay2 P ops=some l:=mapM_ok (fun a b=>Ar1 hZ) h1
  simp only [P7,this,Option.map_some]
 | .seq a b,_,h=>by
  simp only [j6] at h
  split at h
  ·rename_i x y h1 h2
   simp only [P7,V3 hZ h1,V3 hZ h2];exact h
  ·cases h
 | .cond c a b,_,h=>by
  simp only [j6] at h
  split at h
  ·rename_i x y z h1 h2 h3
   simp only [P7,h1,V3 hZ h2,V3 hZ h3];exact h
  ·cases h
 | .block i c,_,h=>by
  simp only [j6,Option.map_eq_some_iff] at h
  obtain ⟨l,h1,rfl⟩:=h
  simp only [P7,V3 hZ h1,Option.map_some]
 | .loop c,_,h=>by
  simp only [j6,Option.map_eq_some_iff] at h
  obtain ⟨l,h1,rfl⟩:=h
  simp only [P7,V3 hZ h1,Option.map_some]
 | .rangeFunc f ps a b,_,h=>by
  simp only [j6] at h
  split at h
  ·rename_i x y z h1 h2 h3
   simp only [P7,h1,V3 hZ h2,V3 hZ h3];exact h
  ·cases h
 | .exit i,_,h=>h
 | .ret,_,h=>h
end
theorem plw {p:Prop} (h:p:=by ((first|assumption|exact A8|exact D8|exact AY8|exact p9|exact O8|exact BH5|exact BQ8|fail);first|done|fail)):p:=h
theorem prx {p:Prop} (h:p:=by ((repeat' (first|exact BH7|refine BH6 ?_ ?_|exact A8|exact plx|fail));first|done|fail)):p:=h
theorem ppw {p:Prop} (h:p:=by ((first|with_reducible apply Ao1 (fun _=>A8)|with_reducible apply Ao1 (fun _=>D8)|exact prx|fail);first|done|fail)):p:=h
theorem wvxQ0 {p:Prop} (h:p:=by ((first|exact Ag7|exact K6 (by first|rfl|omega|(dsimp only;omega))|exact AD4 rfl|exact Z6 rfl (by first|decide|simp|omega)|exact BK6 rfl (by first|decide|simp|omega) (by first|rfl|omega|simp) (by first|omega|simp) (by first|omega|simp)|exact BK7 rfl (by first|decide|simp|omega)|exact At3 (by first|rfl|simp)|exact Ag8 rfl (by first|decide|omega|(simp;done)) (by first|omega|(simp;done)) (by first|rfl|omega|(simp;done)|(simp;omega))|exact R3 hs plx|(with_reducible refine wk_fn ?_ ?_<;>repeat' (first|with_reducible exact L6|with_reducible refine D5 ?_ ?_|exact Z6 rfl (by first|decide|simp|omega)))|(with_reducible refine Az2 ?_;repeat' (first|with_reducible exact L6|with_reducible refine D5 ?_ ?_|exact K6 (by first|rfl|omega|(dsimp only;omega))|exact AD4 rfl))|exact BK5 rfl (by first|decide|simp|omega)|fail);first|done|fail)):p:=h
theorem wvxQ1 {p:Prop} (h:p:=by ((first|exact Ag7|exact K6 (by first|rfl|omega|(dsimp only;omega))|exact AD4 rfl|exact Z6 rfl (by first|decide|simp|omega)|exact AT8 rfl (by first|decide|simp|omega)|exact BK6 rfl (by first|decide|simp|omega) (by first|rfl|omega|simp) (by first|omega|simp) (by first|omega|simp)|exact BK7 rfl (by first|decide|simp|omega)|exact At3 (by first|rfl|simp)|exact Ag8 rfl (by first|decide|omega|(simp;done)) (by first|omega|(simp;done)) (by first|rfl|omega|(simp;done)|(simp;omega))|exact R3 hs plx|(with_reducible refine wk_fn ?_ ?_<;>repeat' (first|with_reducible exact L6|with_reducible refine D5 ?_ ?_|exact Z6 rfl (by first|decide|simp|omega)))|(with_reducible refine Az2 ?_;repeat' (first|with_reducible exact L6|with_reducible refine D5 ?_ ?_|exact K6 (by first|rfl|omega|(dsimp only;omega))|exact AD4 rfl))|exact BK5 rfl (by first|decide|simp|omega)|(with_reducible refine Ad5 ?_;repeat' (first|with_reducible exact L6|with_reducible refine D5 ?_ ?_|exact K6 (by first|rfl|omega|(dsimp only;omega))|exact AD4 rfl|exact Z6 rfl (by first|decide|simp|omega)))|fail);first|done|fail)):p:=h
theorem Ag4 {p:Prop} (h:p:=by ((first|exact Ag7|exact K6 (by first|rfl|omega|(dsimp only;omega))|exact AD4 rfl|exact Z6 rfl (by first|decide|simp|omega)|exact AT8 rfl (by first|decide|simp|omega)|exact BK6 rfl (by first|decide|simp|omega) (by first|rfl|omega|simp) (by first|omega|simp) (by first|omega|simp)|exact BL0 AY0 Y6 rfl (fun hz=>by first|(simp [lk,AU6,Z0 hz,AS2 hz];done)|exact Z0 hz|rfl) (not_of (by simp [rn])) hs|exact BK7 rfl (by first|decide|simp|omega)|exact At3 (by first|rfl|simp)|exact Ag8 rfl (by first|decide|omega|(simp;done)) (by first|omega|(simp;done)) (by first|rfl|omega|(simp;done)|(simp;omega))|exact R3 hs plx|(with_reducible refine wk_fn ?_ ?_<;>repeat' (first|with_reducible exact L6|with_reducible refine D5 ?_ ?_|exact Z6 rfl (by first|decide|simp|omega)))|(with_reducible refine Az2 ?_;repeat' (first|with_reducible exact L6|with_reducible refine D5 ?_ ?_|exact K6 (by first|rfl|omega|(dsimp only;omega))|exact AD4 rfl))|exact BK5 rfl (by first|decide|simp|omega)|(with_reducible refine Ad5 ?_;repeat' (first|with_reducible exact L6|with_reducible refine D5 ?_ ?_|exact K6 (by first|rfl|omega|(dsimp only;omega))|exact AD4 rfl|exact Z6 rfl (by first|decide|simp|omega)))|fail);first|done|fail)):p:=h
theorem Y8 {p:Prop} (h:p:=by (refine BL2 (by exact P6 rfl) (by exact Ah1 rfl) (by intro hs;(repeat' ((try (conv=>whnf));first|with_reducible exact True.intro|with_reducible refine And.intro ?_ ?_|(with_reducible refine WkX.mk ?_;first|exact wvxQ0|fail)))) (by intro hs;(try dsimp only);(repeat' (first|with_reducible exact K9|refine I7 hs (by first|decide|omega|simp) rfl (by first|rfl) (by (first|exact ppx|fail|((refine plain_app ?_ ?_)<;>(first|exact ppx|fail)))) ?_|refine U6 (by first|decide|omega|simp) rfl (by repeat' (first|with_reducible exact L6|with_reducible refine D5 ?_ ?_|(first|exact wvxQ0|fail))) ?_|refine AN5 (by first|decide|omega|simp) rfl (by ((try subst hF);(try subst hF2);exact AX4 (AB0 (by (repeat' ((try (conv=>whnf));first|with_reducible exact True.intro|with_reducible refine And.intro ?_ ?_|(with_reducible refine WkX.mk ?_;first|exact wvxQ0|fail))))))) ?_|exact K9))))):p:=h
theorem K4 {p:Prop} (h:p:=by (refine BL2 (by exact P6 rfl) (by exact Ah1 rfl) (by intro hs;(repeat' ((try (conv=>whnf));first|with_reducible exact True.intro|with_reducible refine And.intro ?_ ?_|(with_reducible refine WkX.mk ?_;first|exact wvxQ1|fail)))) (by intro hs;(try dsimp only);(repeat' (first|with_reducible exact K9|refine Ag5 (by first|decide|omega|simp) rfl rfl (by first|decide|omega|simp) rfl (by first|decide|omega|simp) rfl (by first|decide|omega|simp) rfl (by first|decide|omega|simp) ?_|refine O5 hs (by first|decide|omega|simp) rfl rfl (C8 G6) ?_|refine O5 hs (by first|decide|omega|simp) rfl rfl (C8 G8) ?_|refine O5 hs (by first|decide|omega|simp) rfl rfl (C8 G7) ?_|refine I7 hs (by first|decide|omega|simp) rfl (by first|rfl) (by (first|exact ppx|fail|((refine plain_app ?_ ?_)<;>(first|exact ppx|fail)))) ?_|refine U6 (by first|decide|omega|simp) rfl (by repeat' (first|with_reducible exact L6|with_reducible refine D5 ?_ ?_|(first|exact wvxQ1|fail))) ?_|refine AN5 (by first|decide|omega|simp) rfl (by ((try subst hF);(try subst hF2);exact AX4 (AB0 (by (repeat' ((try (conv=>whnf));first|with_reducible exact True.intro|with_reducible refine And.intro ?_ ?_|(with_reducible refine WkX.mk ?_;first|exact wvxQ1|fail))))))) ?_|exact K9))))):p:=h
theorem wkxQ3 {p:Prop} (h:p:=by (refine BL2 (by exact P6 rfl) (by exact Ah1 rfl) (by intro hs;(repeat' ((try (conv=>whnf));first|with_reducible exact True.intro|with_reducible refine And.intro ?_ ?_|(with_reducible refine WkX.mk ?_;first|exact Ag4|fail)))) (by intro hs;(try dsimp only);(repeat' (first|with_reducible exact K9|refine Ag5 (by first|decide|omega|simp) rfl rfl (by first|decide|omega|simp) rfl (by first|decide|omega|simp) rfl (by first|decide|omega|simp) rfl (by first|decide|omega|simp) ?_|refine O5 hs (by first|decide|omega|simp) rfl rfl (C8 G6) ?_|refine O5 hs (by first|decide|omega|simp) rfl rfl (C8 G8) ?_|refine O5 hs (by first|decide|omega|simp) rfl rfl (C8 G7) ?_|refine I7 hs (by first|decide|omega|simp) rfl (by first|rfl) (by (first|exact ppx|fail|((refine plain_app ?_ ?_)<;>(first|exact ppx|fail)))) ?_|refine U6 (by first|decide|omega|simp) rfl (by repeat' (first|with_reducible exact L6|with_reducible refine D5 ?_ ?_|(first|exact Ag4|fail))) ?_|refine AN5 (by first|decide|omega|simp) rfl (by ((try subst hF);(try subst hF2);exact AX4 (AB0 (by (repeat' ((try (conv=>whnf));first|with_reducible exact True.intro|with_reducible refine And.intro ?_ ?_|(with_reducible refine WkX.mk ?_;first|exact Ag4|fail))))))) ?_|exact K9))))):p:=h
theorem wkxQ4 {p:Prop} (h:p:=by (refine weak_o (by rfl) (by rfl) (fun hz=>by first|exact absurd rfl hz|(simp [lk,Z0 hz];done)|exact Z0 hz|rfl) (by rfl) (Y6) (by intro hs;(repeat' ((try (conv=>whnf));first|with_reducible exact True.intro|with_reducible refine And.intro ?_ ?_|(with_reducible refine WkX.mk ?_;first|exact Ag4|fail)))) (by intro hs;(repeat' (first|with_reducible exact K9|refine Ag5 (by first|decide|omega|simp) rfl rfl (by first|decide|omega|simp) rfl (by first|decide|omega|simp) rfl (by first|decide|omega|simp) rfl (by first|decide|omega|simp) ?_|refine O5 hs (by first|decide|omega|simp) rfl rfl (C8 G6) ?_|refine O5 hs (by first|decide|omega|simp) rfl rfl (C8 G8) ?_|refine O5 hs (by first|decide|omega|simp) rfl rfl (C8 G7) ?_|refine I7 hs (by first|decide|omega|simp) rfl (by first|rfl) (by (first|exact ppx|fail|((refine plain_app ?_ ?_)<;>(first|exact ppx|fail)))) ?_|refine U6 (by first|decide|omega|simp) rfl (by repeat' (first|with_reducible exact L6|with_reducible refine D5 ?_ ?_|(first|exact Ag4|fail))) ?_|refine AN5 (by first|decide|omega|simp) rfl (by ((try subst hF);(try subst hF2);exact AX4 (AB0 (by (repeat' ((try (conv=>whnf));first|with_reducible exact True.intro|with_reducible refine And.intro ?_ ?_|(with_reducible refine WkX.mk ?_;first|exact Ag4|fail))))))) ?_|exact K9))))):p:=h
theorem wkxQ5 {p:Prop} (h:p:=by (refine weak_o (by rfl) (by rfl) (fun hz=>by first|exact absurd rfl hz|(simp [lk,Z0 hz];done)|exact Z0 hz|rfl) (by rfl) (AG0) (by intro hs;(repeat' ((try (conv=>whnf));first|with_reducible exact True.intro|with_reducible refine And.intro ?_ ?_|(with_reducible refine WkX.mk ?_;first|exact Ag4|fail)))) (by intro hs;(repeat' (first|with_reducible exact K9|refine Ag5 (by first|decide|omega|simp) rfl rfl (by first|decide|omega|simp) rfl (by first|decide|omega|simp) rfl (by first|decide|omega|simp) rfl (by first|decide|omega|simp) ?_|refine O5 hs (by first|decide|omega|simp) rfl rfl (C8 G6) ?_|refine O5 hs (by first|decide|omega|simp) rfl rfl (C8 G8) ?_|refine O5 hs (by first|decide|omega|simp) rfl rfl (C8 G7) ?_|refine I7 hs (by first|decide|omega|simp) rfl (by first|rfl) (by (first|exact ppx|fail|((refine plain_app ?_ ?_)<;>(first|exact ppx|fail)))) ?_|refine U6 (by first|decide|omega|simp) rfl (by repeat' (first|with_reducible exact L6|with_reducible refine D5 ?_ ?_|(first|exact Ag4|fail))) ?_|refine AN5 (by first|decide|omega|simp) rfl (by ((try subst hF);(try subst hF2);exact AX4 (AB0 (by (repeat' ((try (conv=>whnf));first|with_reducible exact True.intro|with_reducible refine And.intro ?_ ?_|(with_reducible refine WkX.mk ?_;first|exact Ag4|fail))))))) ?_|exact K9))))):p:=h
theorem sxA {p q:Prop} (hq:q) (h:Z5 q→p:=by (intro hA;((first|(with_reducible first|refine M5 ?_|refine J4 ?_|refine M8 ?_|refine N7 ?_|refine J9 ?_|refine R9 ?_|refine M0 ?_|refine R8 rfl ?_|refine M4 ?_|refine H9 ?_|refine J7 ?_|refine J8 ?_|refine M9 ?_|refine H8 ?_|refine J5 (by decide +kernel) ?_|refine I8 (by decide +kernel) ?_|refine AF5 ?_|refine AF6 ?_|refine As9 ?_|refine l5 ?_|refine AK7 ?_|refine Al8 (by assumption) ?_|refine Al9 (by assumption) ?_|refine j5 (by omega) ?_|refine AK6 ?_|fail)|((with_reducible refine AK8 ?_ ?_);focus omega)|((with_reducible refine AK9 ?_ ?_);focus omega)|((with_reducible refine As7 ?_ ?_);focus (first|omega|rfl|assumption|decide|(simp only [List.length_map,List.length_cons,List.length_nil];omega)))|(with_reducible first|refine AK3 ?_|refine j4 ?_|refine d9 ?_|refine AK5 ?_|refine AK4 ?_|refine AK1 ?_|refine As6 ?_|refine H6 ?_|refine Z7 ?_|refine M7 ?_|refine M6 ?_|refine H7 ?_|refine AK2 (by omega) ?_|refine Z9 (by omega) ?_|fail)|fail);repeat' ((try (conv=>whnf));(first|(with_reducible first|refine M5 ?_|refine J4 ?_|refine M8 ?_|refine N7 ?_|refine J9 ?_|refine R9 ?_|refine M0 ?_|refine R8 rfl ?_|refine M4 ?_|refine H9 ?_|refine J7 ?_|refine J8 ?_|refine M9 ?_|refine H8 ?_|refine J5 (by decide +kernel) ?_|refine I8 (by decide +kernel) ?_|refine AF5 ?_|refine AF6 ?_|refine As9 ?_|refine l5 ?_|refine AK7 ?_|refine Al8 (by assumption) ?_|refine Al9 (by assumption) ?_|refine j5 (by omega) ?_|refine AK6 ?_|fail)|((with_reducible refine AK8 ?_ ?_);focus omega)|((with_reducible refine AK9 ?_ ?_);focus omega)|((with_reducible refine As7 ?_ ?_);focus (first|omega|rfl|assumption|decide|(simp only [List.length_map,List.length_cons,List.length_nil];omega)))|(with_reducible first|refine AK3 ?_|refine j4 ?_|refine d9 ?_|refine AK5 ?_|refine AK4 ?_|refine AK1 ?_|refine As6 ?_|refine H6 ?_|refine Z7 ?_|refine M7 ?_|refine M6 ?_|refine H7 ?_|refine AK2 (by omega) ?_|refine Z9 (by omega) ?_|fail)|fail)));exact hA.out)):p:=h ⟨hq⟩
theorem sxF {p q:Prop} (hq:q) (h:Z5 q→p:=by (intro hA;(with_reducible first|refine AB4 ?_|refine At1.mk (by kernel_rfl) ?_|refine AD0 rfl ?_|refine AB6 (by decide +kernel) ?_|refine AB5 rfl ?_|fail);exact hA.out)):p:=h ⟨hq⟩
theorem sxN {p q:Prop} (hq:q) (h:Z5 q→p:=by (intro hA;(with_reducible first|refine AB4 ?_|refine At1.mk (by kernel_rfl) ?_|refine AB6 (by decide +kernel) ?_|refine AB5 rfl ?_|fail);exact hA.out)):p:=h ⟨hq⟩
theorem sxH {p q:Prop} (hq:q) (h:Z5 q→p:=by (intro hA;(first|refine H6 ?_|refine H7 ?_|refine AT1 rfl rfl ?_|refine Y1 ?_|refine R5 rfl ?_|refine AT5 rfl ?_|refine AR3 rfl ?_|refine AC5 rfl ?_|refine O1 ?_|refine BF7.mk ?_|fail);exact hA.out)):p:=h ⟨hq⟩
end Go.Am
