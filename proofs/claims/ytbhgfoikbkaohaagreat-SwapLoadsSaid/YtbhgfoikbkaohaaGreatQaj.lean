/-
 A walk as an argument's default: what is left of it is put together in one proposition. No program in sight.
 Zero values with very many cells: the code is turned with names for them. No program in sight.
-/
import Derived.Test.YtbhgfoikbkaohaaGreatQai
set_option linter.unusedSimpArgs false
set_option linter.unusedVariables false
namespace Go.Am
structure Y3 (p:Prop):Prop where
 out:p
section
variable {p A B qa qb:Prop} {b:Bool}
theorem AI5 [Decidable p] (h:p) (hA:A):BrX (decide p) A B:=Ag9 (decide_eq_true h) hA
theorem AI6 [Decidable p] (h:¬ p) (hB:B):BrX (decide p) A B:=Ah0 (decide_eq_false h) hB
theorem U1 [Decidable p] (hq:Y3 ((p→qa)∧(¬ p→qb))) (hA:p→Y3 qa→A) (hB:¬ p→Y3 qb→B):BrX (decide p) A B:=br_d (fun h=>hA h ⟨hq.out.1 h⟩) fun h=>hB h ⟨hq.out.2 h⟩
theorem U2 (hq:Y3 ((b=true→qa)∧(b=false→qb))) (hA:b=true→Y3 qa→A) (hB:b=false→Y3 qb→B):BrX b A B:=br_b (fun h=>hA h ⟨hq.out.1 h⟩) fun h=>hB h ⟨hq.out.2 h⟩
theorem eqn_q {els:List (List AV)} {K:Bool→Prop} (hq:Y3 (qa∧qb)) (hA:Y3 qa→K true) (hB:Y3 qb→K false):EqnX (.isl els) K:=by
 cases els with
 | nil=>exact ⟨hA ⟨hq.out.1⟩,hB ⟨hq.out.2⟩⟩
 | cons a l=>exact ⟨hB ⟨hq.out.2⟩⟩
theorem eqn_n {K:Bool→Prop} (hq:Y3 (qa∧qb)) (hA:Y3 qa→K true) (hB:Y3 qb→K false):EqnX .nils K:=⟨hA ⟨hq.out.1⟩,hB ⟨hq.out.2⟩⟩
theorem Ax5 {el:List AV} {els:List (List AV)} {K:Bool→Prop} (h:K false):EqnX (.isl (el::els)) K:=⟨h⟩
theorem Ax4 {α:Type} {f:α→List AV} {x:α} {l:List α} {K:Bool→Prop} (h:K false):EqnX (.isl ((x::l).map f)) K:=⟨h⟩
theorem eqn_sl {id off len cp sz:Nat} {K:Bool→Prop} (h:K false):EqnX (.sl id off len cp sz) K:=⟨h⟩
end
end Go.Am
namespace Go.Am
def eqVA (v:Value) (x:AV):Bool:=match v,x with
 | .int k a,.int k' b=>decide (k=k') && decide (a=b)
 | .bool a,.bool b=>a == b
 | .slice none 0 0,.nils=>true
 | .pointer none,.nilp=>true
 | _,_=>false
theorem eqVA_ok {v:Value} {x:AV} (h:eqVA v x=true):ofL v=some x:=by
 unfold eqVA at h
 split at h
 ·simp only [Bool.and_eq_true,decide_eq_true_eq] at h
  obtain ⟨rfl,rfl⟩:=h
  rfl
 ·simp only [beq_iff_eq] at h
  subst h;rfl
 ·rfl
 ·rfl
 ·cases h
def chkV:List Value→List AV→Bool
 | [],[]=>true
 | v::r,y::s=>match eqVA v y with
  | true=>chkV r s
  | false=>false
 | _,_=>false
theorem chkV_ok:∀ {l:List Value} {m:List AV},chkV l m=true→l.mapM ofL=some m
 | [],[],_=>rfl
 | v::r,y::s,h=>by
  simp only [chkV] at h
  split at h
  ·rename_i e
   rw [List.mapM_cons,eqVA_ok e,chkV_ok h];rfl
  ·cases h
 | [],_::_,h=>by cases h
 | _::_,[],h=>by cases h
def chkZ (i:TypeInfo) (z:List AV):Bool:=match i.zero with
 | some v=>chkV v.cells.toList z
 | none=>false
theorem BO9 {P:Program} {t:TypeId} {i:TypeInfo} {z:List AV} (h1:P.info? t=some i) (h:chkZ i z=true):zeroOf P t=some z:=by
 unfold chkZ at h
 unfold zeroOf
 rw [h1]
 split at h
 ·rename_i v hv
  show (i.zero).bind _=_
  rw [hv];exact chkV_ok h
 ·cases h
section
variable {P:Program} {Z:TypeId→Option (List AV)}
def copZ (Z:TypeId→Option (List AV)) (P:Program):Op→Option AOp
 | .alloc e=>(Z e).map .new
 | .build t ps=>match P.underlying t,Z t with
  | some (.struct fs),some z=>match fs.toList.mapM (fun f=>(P.info? f.type).map fun i=>(f.offset,i.size)) with
   | some pl=>(AV0 (pl.toArray[·]?) ps.toList).map (.build z)
   | none=>none
  | some (.array _ e),some z=>(AJ3 P e).bind fun s=>(AV0 (fun i=>some (i * s,s)) ps.toList).map (.build z)
  | _,_=>none
 | op=>cop P op
def ZOk (Z:TypeId→Option (List AV)) (P:Program):Prop:=∀ t z,Z t=some z→zeroOf P t=some z
theorem copZ_ok (hZ:ZOk Z P) {op:Op} {ao:AOp} (h:copZ Z P op=some ao):cop P op=some ao:=by
 cases op
 case alloc e =>
  simp only [copZ,Option.map_eq_some_iff] at h
  obtain ⟨z,h1,rfl⟩:=h
  simp only [cop,hZ _ _ h1,Option.map_some]
 case build t ps =>
  simp only [copZ] at h
  split at h
  ·rename_i fs z h1 h2
   simp only [cop,h1,hZ _ _ h2]
   exact h
  ·rename_i n e z h1 h2
   simp only [cop,h1,hZ _ _ h2]
   exact h
  ·cases h
 all_goals exact h
def BW2 (Z:TypeId→Option (List AV)) (P:Program) (ops:Array Oper) (o:Oper):Option L6 :=
 match copZ Z P o.op with
 | none=>none
 | some a=>match o.guard with
  | none=>some { dst:=o.dst,op:=a }
  | some (j,b)=>((ops[j]?).bind (·.dst)).map fun t=>{ dst:=o.dst,op:=a,guard:=some (t,b) }
theorem BG4 (hZ:ZOk Z P) {ops:Array Oper} {o:Oper} {ao:L6} (h:BW2 Z P ops o=some ao):Aq7 P ops o=some ao:=by
 unfold BW2 at h
 unfold Aq7
 split at h
 ·cases h
 ·rename_i a ha;rw [copZ_ok hZ ha];exact h
theorem mapM_ok {α β:Type} {f g:α→Option β} (hf:∀ a b,f a=some b→g a=some b):∀ {l:List α} {m:List β},l.mapM f=some m→l.mapM g=some m
 | [],m,h=>by simpa using h
 | a::l,m,h=>by
  rw [List.mapM_cons] at h ⊢
  simp only [bind,Option.bind_eq_some_iff,pure,Option.some.injEq] at h ⊢
  obtain ⟨b,h1,m',h2,rfl⟩:=h
  exact ⟨b,hf _ _ h1,m',mapM_ok hf h2,rfl⟩
def AH2 (Z:TypeId→Option (List AV)) (P:Program):Code→Option ACode
 | .skip=>some .skip
 | .region _ ops false=>(ops.toList.mapM (BW2 Z P ops)).map .reg
 | .region _ ops true=>(ops.toList.mapM (BW2 Z P ops)).map fun l=>.regD l (ops.toList.map AJ6)
 | .seq a b=>match AH2 Z P a,AH2 Z P b with|some a,some b=>some (.seq a b)|_,_=>none
 | .cond c a b=>match cox c,AH2 Z P a,AH2 Z P b with|some c,some a,some b=>some (.cond c a b)|_,_,_=>none
 | .block i c=>(AH2 Z P c).map (.block i)
 | .loop c=>(AH2 Z P c).map .loop
 | .rangeFunc f ps a b=>match cox f,AH2 Z P a,AH2 Z P b with|some f,some a,some b=>some (.rangeF f ps.toList a b)|_,_,_=>none
 | .exit i=>some (.exit i)
 | .ret=>some .ret
 | _=>none
theorem j5 (hZ:ZOk Z P):∀ {c:Code} {ac:ACode},AH2 Z P c=some ac→u6 P c=some ac
 | .skip,_,h=>h
 | .region _ ops false,_,h=>by
  simp only [AH2,Option.map_eq_some_iff] at h
  obtain ⟨l,h1,rfl⟩:=h
  have : BO7 P ops=some l:=mapM_ok (fun a b=>BG4 hZ) h1
  simp only [u6,this,Option.map_some]
 | .region _ ops true,_,h=>by
  simp only [AH2,Option.map_eq_some_iff] at h
  obtain ⟨l,h1,rfl⟩:=h
  have : BO7 P ops=some l:=mapM_ok (fun a b=>BG4 hZ) h1
  simp only [u6,this,Option.map_some]
 | .seq a b,_,h=>by
  simp only [AH2] at h
  split at h
  ·rename_i x y h1 h2
   simp only [u6,j5 hZ h1,j5 hZ h2];exact h
  ·cases h
 | .cond c a b,_,h=>by
  simp only [AH2] at h
  split at h
  ·rename_i x y z h1 h2 h3
   simp only [u6,h1,j5 hZ h2,j5 hZ h3];exact h
  ·cases h
 | .block i c,_,h=>by
  simp only [AH2,Option.map_eq_some_iff] at h
  obtain ⟨l,h1,rfl⟩:=h
  simp only [u6,j5 hZ h1,Option.map_some]
 | .loop c,_,h=>by
  simp only [AH2,Option.map_eq_some_iff] at h
  obtain ⟨l,h1,rfl⟩:=h
  simp only [u6,j5 hZ h1,Option.map_some]
 | .rangeFunc f ps a b,_,h=>by
  simp only [AH2] at h
  split at h
  ·rename_i x y z h1 h2 h3
   simp only [u6,h1,j5 hZ h2,j5 hZ h3];exact h
  ·cases h
 | .exit i,_,h=>h
 | .ret,_,h=>h
end
theorem plw {p:Prop} (h:p:=by ((first|assumption|exact A8|exact D5|exact Al2|exact V3|exact U3|exact plain_nilf|exact plain_str|fail);first|done|fail)):p:=h
theorem prx {p:Prop} (h:p:=by ((repeat' (first|exact plain_all0|refine plain_all2 ?_ ?_|exact A8|exact plx|fail));first|done|fail)):p:=h
theorem ppw {p:Prop} (h:p:=by ((first|with_reducible apply BD6 (fun _=>A8)|with_reducible apply BD6 (fun _=>D5)|exact prx|fail);first|done|fail)):p:=h
theorem wvxQ0 {p:Prop} (h:p:=by ((first|exact AX9|exact O1 (by first|rfl|omega|(dsimp only;omega))|exact AB7 rfl|exact u7 rfl (by first|decide|simp|omega)|exact BI7 rfl (by first|decide|simp|omega) (by first|rfl|omega|simp) (by first|omega|simp) (by first|omega|simp)|exact BA8 rfl (by first|decide|simp|omega)|exact Aj9 (by first|rfl|simp)|exact AY0 rfl (by first|decide|omega|(simp;done)) (by first|omega|(simp;done)) (by first|rfl|omega|(simp;done)|(simp;omega))|exact X0 hs plx|(with_reducible refine wk_fn ?_ ?_<;>repeat' (first|with_reducible exact M4|with_reducible refine C9 ?_ ?_|exact u7 rfl (by first|decide|simp|omega)))|(with_reducible refine Af7 ?_;repeat' (first|with_reducible exact M4|with_reducible refine C9 ?_ ?_|exact O1 (by first|rfl|omega|(dsimp only;omega))|exact AB7 rfl))|exact BA7 rfl (by first|decide|simp|omega)|fail);first|done|fail)):p:=h
theorem Ah3 {p:Prop} (h:p:=by ((first|exact AX9|exact O1 (by first|rfl|omega|(dsimp only;omega))|exact AB7 rfl|exact u7 rfl (by first|decide|simp|omega)|exact AY1 rfl (by first|decide|simp|omega)|exact BI7 rfl (by first|decide|simp|omega) (by first|rfl|omega|simp) (by first|omega|simp) (by first|omega|simp)|exact BA8 rfl (by first|decide|simp|omega)|exact Aj9 (by first|rfl|simp)|exact AY0 rfl (by first|decide|omega|(simp;done)) (by first|omega|(simp;done)) (by first|rfl|omega|(simp;done)|(simp;omega))|exact X0 hs plx|(with_reducible refine wk_fn ?_ ?_<;>repeat' (first|with_reducible exact M4|with_reducible refine C9 ?_ ?_|exact u7 rfl (by first|decide|simp|omega)))|(with_reducible refine Af7 ?_;repeat' (first|with_reducible exact M4|with_reducible refine C9 ?_ ?_|exact O1 (by first|rfl|omega|(dsimp only;omega))|exact AB7 rfl))|exact BA7 rfl (by first|decide|simp|omega)|(with_reducible refine Af6 ?_;repeat' (first|with_reducible exact M4|with_reducible refine C9 ?_ ?_|exact O1 (by first|rfl|omega|(dsimp only;omega))|exact AB7 rfl|exact u7 rfl (by first|decide|simp|omega)))|fail);first|done|fail)):p:=h
theorem Au4 {p:Prop} (h:p:=by ((first|exact AX9|exact O1 (by first|rfl|omega|(dsimp only;omega))|exact AB7 rfl|exact u7 rfl (by first|decide|simp|omega)|exact AY1 rfl (by first|decide|simp|omega)|exact BI7 rfl (by first|decide|simp|omega) (by first|rfl|omega|simp) (by first|omega|simp) (by first|omega|simp)|exact AV6 AG4 Q8 rfl (fun hz=>by first|(simp [lk,V9,M5 hz,V6 hz];done)|exact M5 hz|rfl) (BT1 (by simp [rn])) hs|exact BA8 rfl (by first|decide|simp|omega)|exact Aj9 (by first|rfl|simp)|exact AY0 rfl (by first|decide|omega|(simp;done)) (by first|omega|(simp;done)) (by first|rfl|omega|(simp;done)|(simp;omega))|exact X0 hs plx|(with_reducible refine wk_fn ?_ ?_<;>repeat' (first|with_reducible exact M4|with_reducible refine C9 ?_ ?_|exact u7 rfl (by first|decide|simp|omega)))|(with_reducible refine Af7 ?_;repeat' (first|with_reducible exact M4|with_reducible refine C9 ?_ ?_|exact O1 (by first|rfl|omega|(dsimp only;omega))|exact AB7 rfl))|exact BA7 rfl (by first|decide|simp|omega)|(with_reducible refine Af6 ?_;repeat' (first|with_reducible exact M4|with_reducible refine C9 ?_ ?_|exact O1 (by first|rfl|omega|(dsimp only;omega))|exact AB7 rfl|exact u7 rfl (by first|decide|simp|omega)))|fail);first|done|fail)):p:=h
theorem wvxQ3 {p:Prop} (h:p:=by ((first|exact AX9|exact O1 (by first|rfl|omega|(dsimp only;omega))|exact AB7 rfl|exact u7 rfl (by first|decide|simp|omega)|exact AY1 rfl (by first|decide|simp|omega)|exact BI7 rfl (by first|decide|simp|omega) (by first|rfl|omega|simp) (by first|omega|simp) (by first|omega|simp)|exact AV6 AG4 Q8 rfl (fun hz=>by first|(simp [lk,V9,M5 hz,V6 hz];done)|exact M5 hz|rfl) (BT1 (by first|(simp [rn];done)|(simp [rn,AK8];done))) hs|exact BA8 rfl (by first|decide|simp|omega)|exact Aj9 (by first|rfl|simp)|exact AY0 rfl (by first|decide|omega|(simp;done)) (by first|omega|(simp;done)) (by first|rfl|omega|(simp;done)|(simp;omega))|exact X0 hs plx|(with_reducible refine wk_fn ?_ ?_<;>repeat' (first|with_reducible exact M4|with_reducible refine C9 ?_ ?_|exact u7 rfl (by first|decide|simp|omega)))|(with_reducible refine Af7 ?_;repeat' (first|with_reducible exact M4|with_reducible refine C9 ?_ ?_|exact O1 (by first|rfl|omega|(dsimp only;omega))|exact AB7 rfl))|exact BA7 rfl (by first|decide|simp|omega)|(with_reducible refine Af6 ?_;repeat' (first|with_reducible exact M4|with_reducible refine C9 ?_ ?_|exact O1 (by first|rfl|omega|(dsimp only;omega))|exact AB7 rfl|exact u7 rfl (by first|decide|simp|omega)))|fail);first|done|fail)):p:=h
theorem wvxQ4 {p:Prop} (h:p:=by ((first|exact AX9|exact O1 (by first|rfl|omega|(dsimp only;omega))|exact AB7 rfl|exact u7 rfl (by first|decide|simp|omega)|exact BI7 rfl (by first|decide|simp|omega) (by first|rfl|omega|simp) (by first|omega|simp) (by first|omega|simp)|exact BI8 (by omega) rfl rfl (tl_not (Am8 (Am8 (Am8 lk_nil_in))) rfl) hs|exact wk_sl0|exact BA8 rfl (by first|decide|simp|omega)|exact Aj9 (by first|rfl|simp)|exact AY0 rfl (by first|decide|omega|(simp;done)) (by first|omega|(simp;done)) (by first|rfl|omega|(simp;done)|(simp;omega))|exact X0 hs plx|(with_reducible refine wk_fn ?_ ?_<;>repeat' (first|with_reducible exact M4|with_reducible refine C9 ?_ ?_|exact u7 rfl (by first|decide|simp|omega)))|(with_reducible refine Af7 ?_;repeat' (first|with_reducible exact M4|with_reducible refine C9 ?_ ?_|exact O1 (by first|rfl|omega|(dsimp only;omega))|exact AB7 rfl))|exact BA7 rfl (by first|decide|simp|omega)|fail);first|done|fail)):p:=h
theorem O4 {p:Prop} (h:p:=by (refine Ar0 (by exact R7 rfl) (by exact AQ0 rfl) (by intro hs;(repeat' ((try (conv=>whnf));first|with_reducible exact True.intro|with_reducible refine And.intro ?_ ?_|(with_reducible refine WkX.mk ?_;first|exact wvxQ0|fail)))) (by intro hs;(try dsimp only);(repeat' (first|with_reducible exact J5|refine J2 hs (by first|decide|omega|simp) rfl (by first|rfl) (by (first|exact ppx|fail|((refine plain_app ?_ ?_)<;>(first|exact ppx|fail)))) ?_|refine U6 (by first|decide|omega|simp) rfl (by repeat' (first|with_reducible exact M4|with_reducible refine C9 ?_ ?_|(first|exact wvxQ0|fail))) ?_|refine AB6 (by first|decide|omega|simp) rfl (by ((try subst hF);(try subst hF2);exact AL0 (Z5 (by (repeat' ((try (conv=>whnf));first|with_reducible exact True.intro|with_reducible refine And.intro ?_ ?_|(with_reducible refine WkX.mk ?_;first|exact wvxQ0|fail))))))) ?_|exact J5))))):p:=h
theorem AJ0 {p:Prop} (h:p:=by (refine Ar0 (by exact R7 rfl) (by exact AQ0 rfl) (by intro hs;(repeat' ((try (conv=>whnf));first|with_reducible exact True.intro|with_reducible refine And.intro ?_ ?_|(with_reducible refine WkX.mk ?_;first|exact Ah3|fail)))) (by intro hs;(try dsimp only);(repeat' (first|with_reducible exact J5|refine Ab6 (by first|decide|omega|simp) rfl rfl (by first|decide|omega|simp) rfl (by first|decide|omega|simp) rfl (by first|decide|omega|simp) rfl (by first|decide|omega|simp) ?_|refine Q7 hs (by first|decide|omega|simp) rfl rfl (E5 N8) ?_|refine Q7 hs (by first|decide|omega|simp) rfl rfl (E5 N9) ?_|refine Q7 hs (by first|decide|omega|simp) rfl rfl (E5 M6) ?_|refine J2 hs (by first|decide|omega|simp) rfl (by first|rfl) (by (first|exact ppx|fail|((refine plain_app ?_ ?_)<;>(first|exact ppx|fail)))) ?_|refine U6 (by first|decide|omega|simp) rfl (by repeat' (first|with_reducible exact M4|with_reducible refine C9 ?_ ?_|(first|exact Ah3|fail))) ?_|refine AB6 (by first|decide|omega|simp) rfl (by ((try subst hF);(try subst hF2);exact AL0 (Z5 (by (repeat' ((try (conv=>whnf));first|with_reducible exact True.intro|with_reducible refine And.intro ?_ ?_|(with_reducible refine WkX.mk ?_;first|exact Ah3|fail))))))) ?_|exact J5))))):p:=h
theorem wkxQ3 {p:Prop} (h:p:=by (refine Ar0 (by exact R7 rfl) (by exact AQ0 rfl) (by intro hs;(repeat' ((try (conv=>whnf));first|with_reducible exact True.intro|with_reducible refine And.intro ?_ ?_|(with_reducible refine WkX.mk ?_;first|exact Au4|fail)))) (by intro hs;(try dsimp only);(repeat' (first|with_reducible exact J5|refine Ab6 (by first|decide|omega|simp) rfl rfl (by first|decide|omega|simp) rfl (by first|decide|omega|simp) rfl (by first|decide|omega|simp) rfl (by first|decide|omega|simp) ?_|refine Q7 hs (by first|decide|omega|simp) rfl rfl (E5 N8) ?_|refine Q7 hs (by first|decide|omega|simp) rfl rfl (E5 N9) ?_|refine Q7 hs (by first|decide|omega|simp) rfl rfl (E5 M6) ?_|refine J2 hs (by first|decide|omega|simp) rfl (by first|rfl) (by (first|exact ppx|fail|((refine plain_app ?_ ?_)<;>(first|exact ppx|fail)))) ?_|refine U6 (by first|decide|omega|simp) rfl (by repeat' (first|with_reducible exact M4|with_reducible refine C9 ?_ ?_|(first|exact Au4|fail))) ?_|refine AB6 (by first|decide|omega|simp) rfl (by ((try subst hF);(try subst hF2);exact AL0 (Z5 (by (repeat' ((try (conv=>whnf));first|with_reducible exact True.intro|with_reducible refine And.intro ?_ ?_|(with_reducible refine WkX.mk ?_;first|exact Au4|fail))))))) ?_|exact J5))))):p:=h
theorem wkxQ4 {p:Prop} (h:p:=by (refine BP6 (by rfl) (by rfl) (fun hz=>by first|exact absurd rfl hz|(simp [lk,M5 hz];done)|exact M5 hz|rfl) (by rfl) (Q8) (by intro hs;(repeat' ((try (conv=>whnf));first|with_reducible exact True.intro|with_reducible refine And.intro ?_ ?_|(with_reducible refine WkX.mk ?_;first|exact Au4|fail)))) (by intro hs;(repeat' (first|with_reducible exact J5|refine Ab6 (by first|decide|omega|simp) rfl rfl (by first|decide|omega|simp) rfl (by first|decide|omega|simp) rfl (by first|decide|omega|simp) rfl (by first|decide|omega|simp) ?_|refine Q7 hs (by first|decide|omega|simp) rfl rfl (E5 N8) ?_|refine Q7 hs (by first|decide|omega|simp) rfl rfl (E5 N9) ?_|refine Q7 hs (by first|decide|omega|simp) rfl rfl (E5 M6) ?_|refine J2 hs (by first|decide|omega|simp) rfl (by first|rfl) (by (first|exact ppx|fail|((refine plain_app ?_ ?_)<;>(first|exact ppx|fail)))) ?_|refine U6 (by first|decide|omega|simp) rfl (by repeat' (first|with_reducible exact M4|with_reducible refine C9 ?_ ?_|(first|exact Au4|fail))) ?_|refine AB6 (by first|decide|omega|simp) rfl (by ((try subst hF);(try subst hF2);exact AL0 (Z5 (by (repeat' ((try (conv=>whnf));first|with_reducible exact True.intro|with_reducible refine And.intro ?_ ?_|(with_reducible refine WkX.mk ?_;first|exact Au4|fail))))))) ?_|exact J5))))):p:=h
theorem wkxQ5 {p:Prop} (h:p:=by (refine BP6 (by rfl) (by rfl) (fun hz=>by first|exact absurd rfl hz|(simp [lk,M5 hz];done)|exact M5 hz|rfl) (by rfl) (Y8) (by intro hs;(repeat' ((try (conv=>whnf));first|with_reducible exact True.intro|with_reducible refine And.intro ?_ ?_|(with_reducible refine WkX.mk ?_;first|exact Au4|fail)))) (by intro hs;(repeat' (first|with_reducible exact J5|refine Ab6 (by first|decide|omega|simp) rfl rfl (by first|decide|omega|simp) rfl (by first|decide|omega|simp) rfl (by first|decide|omega|simp) rfl (by first|decide|omega|simp) ?_|refine Q7 hs (by first|decide|omega|simp) rfl rfl (E5 N8) ?_|refine Q7 hs (by first|decide|omega|simp) rfl rfl (E5 N9) ?_|refine Q7 hs (by first|decide|omega|simp) rfl rfl (E5 M6) ?_|refine J2 hs (by first|decide|omega|simp) rfl (by first|rfl) (by (first|exact ppx|fail|((refine plain_app ?_ ?_)<;>(first|exact ppx|fail)))) ?_|refine U6 (by first|decide|omega|simp) rfl (by repeat' (first|with_reducible exact M4|with_reducible refine C9 ?_ ?_|(first|exact Au4|fail))) ?_|refine AB6 (by first|decide|omega|simp) rfl (by ((try subst hF);(try subst hF2);exact AL0 (Z5 (by (repeat' ((try (conv=>whnf));first|with_reducible exact True.intro|with_reducible refine And.intro ?_ ?_|(with_reducible refine WkX.mk ?_;first|exact Au4|fail))))))) ?_|exact J5))))):p:=h
theorem AN6 {p:Prop} (h:p:=by (refine Ar0 (by exact R7 rfl) (by exact AQ0 rfl) (by intro hs;(repeat' ((try (conv=>whnf));first|with_reducible exact True.intro|with_reducible refine And.intro ?_ ?_|(with_reducible refine WkX.mk ?_;first|exact Ah3|fail)))) (by intro hs;(try dsimp only);(repeat' (first|with_reducible exact J5|refine Ab6 (by first|decide|omega|simp) rfl rfl (by first|decide|omega|simp) rfl (by first|decide|omega|simp) rfl (by first|decide|omega|simp) rfl (by first|decide|omega|simp) ?_|refine Q7 hs (by first|decide|omega|simp) rfl rfl (E5 N8) ?_|refine Q7 hs (by first|decide|omega|simp) rfl rfl (E5 N9) ?_|refine Q7 hs (by first|decide|omega|simp) rfl rfl (E5 M6) ?_|refine Q7 hs (by first|decide|omega|simp) rfl rfl (E5 Al4) ?_|refine Q7 hs (by first|decide|omega|simp) rfl rfl mapP_nil ?_|refine J2 hs (by first|decide|omega|simp) rfl (by first|rfl) (by (first|exact ppx|fail|((refine plain_app ?_ ?_)<;>(first|exact ppx|fail)))) ?_|refine U6 (by first|decide|omega|simp) rfl (by repeat' (first|with_reducible exact M4|with_reducible refine C9 ?_ ?_|(first|exact Ah3|fail))) ?_|refine AB6 (by first|decide|omega|simp) rfl (by ((try subst hF);(try subst hF2);exact AL0 (Z5 (by (repeat' ((try (conv=>whnf));first|with_reducible exact True.intro|with_reducible refine And.intro ?_ ?_|(with_reducible refine WkX.mk ?_;first|exact Ah3|fail))))))) ?_|exact J5))))):p:=h
theorem Y4 {p:Prop} (h:p:=by (refine Ar0 (by exact R7 rfl) (by exact AQ0 rfl) (by intro hs;(repeat' ((try (conv=>whnf));first|with_reducible exact True.intro|with_reducible refine And.intro ?_ ?_|(with_reducible refine WkX.mk ?_;first|exact Ah3|fail)))) (by intro hs;(try dsimp only);(repeat' (first|with_reducible exact J5|refine AV5 hs (by first|decide|omega|simp) rfl rfl (by first|decide|omega|simp) ?_|refine J2 hs (by first|decide|omega|simp) rfl (by first|rfl) (by (first|exact ppx|fail|((refine plain_app ?_ ?_)<;>(first|exact ppx|fail)))) ?_|refine U6 (by first|decide|omega|simp) rfl (by repeat' (first|with_reducible exact M4|with_reducible refine C9 ?_ ?_|(first|exact Ah3|fail))) ?_|refine AB6 (by first|decide|omega|simp) rfl (by ((try subst hF);(try subst hF2);exact AL0 (Z5 (by (repeat' ((try (conv=>whnf));first|with_reducible exact True.intro|with_reducible refine And.intro ?_ ?_|(with_reducible refine WkX.mk ?_;first|exact Ah3|fail))))))) ?_|exact J5))))):p:=h
theorem wkxQ9 {p:Prop} (h:p:=by (refine BP6 (by rfl) (by rfl) (fun hz=>by first|exact absurd rfl hz|(simp [lk,M5 hz];done)|exact M5 hz|rfl) (by rfl) (Q8) (by intro hs;(repeat' ((try (conv=>whnf));first|with_reducible exact True.intro|with_reducible refine And.intro ?_ ?_|(with_reducible refine WkX.mk ?_;first|exact wvxQ3|fail)))) (by intro hs;(repeat' (first|with_reducible exact J5|refine AV5 hs (by first|decide|omega|simp) rfl rfl (by first|decide|omega|simp) ?_|refine J2 hs (by first|decide|omega|simp) rfl (by first|rfl) (by (first|exact ppx|fail|((refine plain_app ?_ ?_)<;>(first|exact ppx|fail)))) ?_|refine U6 (by first|decide|omega|simp) rfl (by repeat' (first|with_reducible exact M4|with_reducible refine C9 ?_ ?_|(first|exact wvxQ3|fail))) ?_|refine AB6 (by first|decide|omega|simp) rfl (by ((try subst hF);(try subst hF2);exact AL0 (Z5 (by (repeat' ((try (conv=>whnf));first|with_reducible exact True.intro|with_reducible refine And.intro ?_ ?_|(with_reducible refine WkX.mk ?_;first|exact wvxQ3|fail))))))) ?_|exact J5))))):p:=h
theorem wkxQ10 {p:Prop} (h:p:=by (refine BP6 (by rfl) (by rfl) (fun hz=>by first|exact absurd rfl hz|(simp [lk,M5 hz];done)|exact M5 hz|rfl) (by rfl) (Y8) (by intro hs;(repeat' ((try (conv=>whnf));first|with_reducible exact True.intro|with_reducible refine And.intro ?_ ?_|(with_reducible refine WkX.mk ?_;first|exact wvxQ3|fail)))) (by intro hs;(repeat' (first|with_reducible exact J5|refine AV5 hs (by first|decide|omega|simp) rfl rfl (by first|decide|omega|simp) ?_|refine J2 hs (by first|decide|omega|simp) rfl (by first|rfl) (by (first|exact ppx|fail|((refine plain_app ?_ ?_)<;>(first|exact ppx|fail)))) ?_|refine U6 (by first|decide|omega|simp) rfl (by repeat' (first|with_reducible exact M4|with_reducible refine C9 ?_ ?_|(first|exact wvxQ3|fail))) ?_|refine AB6 (by first|decide|omega|simp) rfl (by ((try subst hF);(try subst hF2);exact AL0 (Z5 (by (repeat' ((try (conv=>whnf));first|with_reducible exact True.intro|with_reducible refine And.intro ?_ ?_|(with_reducible refine WkX.mk ?_;first|exact wvxQ3|fail))))))) ?_|exact J5))))):p:=h
theorem AF7 {p:Prop} (h:p:=by (refine weak_t (by rfl) (by rfl) (BI9 x9 (by rfl) (fun hz=>by first|exact absurd rfl hz|(simp [lk,rn,V9,V6 hz,M5 hz];done)|rfl) (BI9 AR5 (by rfl) (fun hz=>by first|exact absurd rfl hz|(simp [lk,rn,V9,V6 hz,M5 hz];done)|rfl) (BI9 AS1 (by rfl) (fun hz=>by first|exact absurd rfl hz|(simp [lk,rn,V9,V6 hz,M5 hz];done)|rfl) tl_nil))) (by intro hs;(repeat' ((try (conv=>whnf));first|with_reducible exact True.intro|with_reducible refine And.intro ?_ ?_|(with_reducible refine WkX.mk ?_;first|exact wvxQ4|fail)))) (by intro hs;(repeat' (first|with_reducible exact J5|refine J2 hs (by first|decide|omega|simp) rfl (by first|rfl) (by (first|exact ppx|fail|((refine plain_app ?_ ?_)<;>(first|exact ppx|fail)))) ?_|refine U6 (by first|decide|omega|simp) rfl (by repeat' (first|with_reducible exact M4|with_reducible refine C9 ?_ ?_|(first|exact wvxQ4|fail))) ?_|refine AB6 (by first|decide|omega|simp) rfl (by ((try subst hF);(try subst hF2);exact AL0 (Z5 (by (repeat' ((try (conv=>whnf));first|with_reducible exact True.intro|with_reducible refine And.intro ?_ ?_|(with_reducible refine WkX.mk ?_;first|exact wvxQ4|fail))))))) ?_|exact J5))))):p:=h
theorem BA6 {p:Prop} (h:p:=by (refine Ar0 (by exact R7 rfl) (by exact AQ0 rfl) (by intro hs;(repeat' ((try (conv=>whnf));first|with_reducible exact True.intro|with_reducible refine And.intro ?_ ?_|(with_reducible refine WkX.mk ?_;first|exact Ah3|fail)))) (by intro hs;(try dsimp only);(repeat' (first|with_reducible exact J5|refine Ab6 (by first|decide|omega|simp) rfl rfl (by first|decide|omega|simp) rfl (by first|decide|omega|simp) rfl (by first|decide|omega|simp) rfl (by first|decide|omega|simp) ?_|refine Q7 hs (by first|decide|omega|simp) rfl rfl (E5 N8) ?_|refine Q7 hs (by first|decide|omega|simp) rfl rfl (E5 N9) ?_|refine Q7 hs (by first|decide|omega|simp) rfl rfl (E5 M6) ?_|refine AV5 hs (by first|decide|omega|simp) rfl rfl (by first|decide|omega|simp) ?_|refine J2 hs (by first|decide|omega|simp) rfl (by first|rfl) (by (first|exact ppx|fail|((refine plain_app ?_ ?_)<;>(first|exact ppx|fail)))) ?_|refine U6 (by first|decide|omega|simp) rfl (by repeat' (first|with_reducible exact M4|with_reducible refine C9 ?_ ?_|(first|exact Ah3|fail))) ?_|refine AB6 (by first|decide|omega|simp) rfl (by ((try subst hF);(try subst hF2);exact AL0 (Z5 (by (repeat' ((try (conv=>whnf));first|with_reducible exact True.intro|with_reducible refine And.intro ?_ ?_|(with_reducible refine WkX.mk ?_;first|exact Ah3|fail))))))) ?_|exact J5))))):p:=h
theorem sxA {p q:Prop} (hq:q) (h:Y3 q→p:=by (intro hA;((first|(with_reducible first|refine P6 ?_|refine K4 ?_|refine P9 ?_|refine Q5 ?_|refine K9 ?_|refine U9 ?_|refine O9 ?_|refine U8 rfl ?_|refine P5 ?_|refine I5 ?_|refine K7 ?_|refine K8 ?_|refine Q0 ?_|refine I4 ?_|refine K5 (by decide +kernel) ?_|refine J6 (by decide +kernel) ?_|refine AG2 ?_|refine AG3 ?_|refine Aj5 ?_|refine r9 ?_|refine AI4 ?_|refine Ag9 (by assumption) ?_|refine Ah0 (by assumption) ?_|refine p9 (by omega) ?_|refine AI2 ?_|fail)|((with_reducible refine AI5 ?_ ?_);focus omega)|((with_reducible refine AI6 ?_ ?_);focus omega)|((with_reducible refine Aj3 ?_ ?_);focus (first|omega|rfl|assumption|decide|(simp only [List.length_map,List.length_cons,List.length_nil];omega)))|(with_reducible first|refine AH9 ?_|refine p8 ?_|refine o9 ?_|refine AI1 ?_|refine AI0 ?_|refine AH7 ?_|refine Aj0 ?_|refine I6 ?_|refine l9 ?_|refine P8 ?_|refine P7 ?_|refine I7 ?_|refine AH8 (by omega) ?_|refine o8 (by omega) ?_|fail)|fail);repeat' ((try (conv=>whnf));(first|(with_reducible first|refine P6 ?_|refine K4 ?_|refine P9 ?_|refine Q5 ?_|refine K9 ?_|refine U9 ?_|refine O9 ?_|refine U8 rfl ?_|refine P5 ?_|refine I5 ?_|refine K7 ?_|refine K8 ?_|refine Q0 ?_|refine I4 ?_|refine K5 (by decide +kernel) ?_|refine J6 (by decide +kernel) ?_|refine AG2 ?_|refine AG3 ?_|refine Aj5 ?_|refine r9 ?_|refine AI4 ?_|refine Ag9 (by assumption) ?_|refine Ah0 (by assumption) ?_|refine p9 (by omega) ?_|refine AI2 ?_|fail)|((with_reducible refine AI5 ?_ ?_);focus omega)|((with_reducible refine AI6 ?_ ?_);focus omega)|((with_reducible refine Aj3 ?_ ?_);focus (first|omega|rfl|assumption|decide|(simp only [List.length_map,List.length_cons,List.length_nil];omega)))|(with_reducible first|refine AH9 ?_|refine p8 ?_|refine o9 ?_|refine AI1 ?_|refine AI0 ?_|refine AH7 ?_|refine Aj0 ?_|refine I6 ?_|refine l9 ?_|refine P8 ?_|refine P7 ?_|refine I7 ?_|refine AH8 (by omega) ?_|refine o8 (by omega) ?_|fail)|fail)));exact hA.out)):p:=h ⟨hq⟩
theorem sxF {p q:Prop} (hq:q) (h:Y3 q→p:=by (intro hA;(with_reducible first|refine AC6 ?_|refine Aq9.mk (by kernel_rfl) ?_|refine AD6 rfl ?_|refine AC8 (by decide +kernel) ?_|refine AC7 rfl ?_|fail);exact hA.out)):p:=h ⟨hq⟩
theorem sxN {p q:Prop} (hq:q) (h:Y3 q→p:=by (intro hA;(with_reducible first|refine AC6 ?_|refine Aq9.mk (by kernel_rfl) ?_|refine AC8 (by decide +kernel) ?_|refine AC7 rfl ?_|fail);exact hA.out)):p:=h ⟨hq⟩
theorem sxH {p q:Prop} (hq:q) (h:Y3 q→p:=by (intro hA;(first|refine I6 ?_|refine I7 ?_|refine AP6 rfl rfl ?_|refine l6 ?_|refine V8 rfl ?_|refine AP7 rfl ?_|refine AP3 rfl ?_|refine AD5 rfl ?_|refine S9 ?_|refine Au3.mk ?_|fail);exact hA.out)):p:=h ⟨hq⟩
end Go.Am
