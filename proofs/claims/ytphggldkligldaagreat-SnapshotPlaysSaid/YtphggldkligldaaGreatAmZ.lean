/-
 Zero values with very many cells: the code is turned with names for them. No program in sight.
-/
import Derived.Test.YtphggldkligldaaGreatQb
set_option linter.unusedSimpArgs false
set_option linter.unusedVariables false
namespace Go.Am
def eqVA (v:Value) (x:AV):Bool:=match v,x with
 | .int k a,.int k' b=>decide (k=k') && decide (a=b)
 | .bool a,.bool b=>a == b
 | .slice none 0 0,.nils=>true
 | _,_=>false
theorem eqVA_ok {v:Value} {x:AV} (h:eqVA v x=true):ofL v=some x:=by
 unfold eqVA at h
 split at h
 ·simp only [Bool.and_eq_true,decide_eq_true_eq] at h
  obtain ⟨rfl,rfl⟩:=h
  rfl
 ·simp only [beq_iff_eq] at h
  subst h;rfl
 ·rfl
 ·cases h
def chkV:List Value→List AV→Bool
 | [],[]=>true
 | v::r,y::s=>match eqVA v y with
  | true=>chkV r s
  | false=>false
 | _,_=>false
theorem chkV_ok:∀ {l:List Value} {m:List AV},chkV l m=true→l.mapM ofL=some m
 | [],[],_=>rfl
 | v::r,y::s,h=>by
  simp only [chkV] at h
  split at h
  ·rename_i e
   rw [List.mapM_cons,eqVA_ok e,chkV_ok h];rfl
  ·cases h
 | [],_::_,h=>by cases h
 | _::_,[],h=>by cases h
def chkZ (i:TypeInfo) (z:List AV):Bool:=match i.zero with
 | some v=>chkV v.cells.toList z
 | none=>false
theorem chkZ_ok {P:Program} {t:TypeId} {i:TypeInfo} {z:List AV} (h1:P.info? t=some i) (h:chkZ i z=true):zeroOf P t=some z:=by
 unfold chkZ at h
 unfold zeroOf
 rw [h1]
 split at h
 ·rename_i v hv
  show (i.zero).bind _=_
  rw [hv];exact chkV_ok h
 ·cases h
section
variable {P:Program} {Z:TypeId→Option (List AV)}
def copZ (Z:TypeId→Option (List AV)) (P:Program):Op→Option AOp
 | .alloc e=>(Z e).map .new
 | .build t ps=>match P.underlying t,Z t with
  | some (.struct fs),some z=>match fs.toList.mapM (fun f=>(P.info? f.type).map fun i=>(f.offset,i.size)) with
   | some pl=>(Aa0 (pl.toArray[·]?) ps.toList).map (.build z)
   | none=>none
  | some (.array _ e),some z=>(AM2 P e).bind fun s=>(Aa0 (fun i=>some (i * s,s)) ps.toList).map (.build z)
  | _,_=>none
 | op=>cop P op
def ZOk (Z:TypeId→Option (List AV)) (P:Program):Prop:=∀ t z,Z t=some z→zeroOf P t=some z
theorem copZ_ok (hZ:ZOk Z P) {op:Op} {ao:AOp} (h:copZ Z P op=some ao):cop P op=some ao:=by
 cases op
 case alloc e =>
  simp only [copZ,Option.map_eq_some_iff] at h
  obtain ⟨z,h1,rfl⟩:=h
  simp only [cop,hZ _ _ h1,Option.map_some]
 case build t ps =>
  simp only [copZ] at h
  split at h
  ·rename_i fs z h1 h2
   simp only [cop,h1,hZ _ _ h2]
   exact h
  ·rename_i n e z h1 h2
   simp only [cop,h1,hZ _ _ h2]
   exact h
  ·cases h
 all_goals exact h
def coperZ (Z:TypeId→Option (List AV)) (P:Program) (ops:Array Oper) (o:Oper):Option O7 :=
 match copZ Z P o.op with
 | none=>none
 | some a=>match o.guard with
  | none=>some { dst:=o.dst,op:=a }
  | some (j,b)=>((ops[j]?).bind (·.dst)).map fun t=>{ dst:=o.dst,op:=a,guard:=some (t,b) }
theorem BO7 (hZ:ZOk Z P) {ops:Array Oper} {o:Oper} {ao:O7} (h:coperZ Z P ops o=some ao):Ax4 P ops o=some ao:=by
 unfold coperZ at h
 unfold Ax4
 split at h
 ·cases h
 ·rename_i a ha;rw [copZ_ok hZ ha];exact h
theorem mapM_ok {α β:Type} {f g:α→Option β} (hf:∀ a b,f a=some b→g a=some b):∀ {l:List α} {m:List β},l.mapM f=some m→l.mapM g=some m
 | [],m,h=>by simpa using h
 | a::l,m,h=>by
  rw [List.mapM_cons] at h ⊢
  simp only [bind,Option.bind_eq_some_iff,pure,Option.some.injEq] at h ⊢
  obtain ⟨b,h1,m',h2,rfl⟩:=h
  exact ⟨b,hf _ _ h1,m',mapM_ok hf h2,rfl⟩
def AK6 (Z:TypeId→Option (List AV)) (P:Program):Code→Option ACode
 | .skip=>some .skip
 | .region _ ops false=>(ops.toList.mapM (coperZ Z P ops)).map .reg
 | .region _ ops true=>(ops.toList.mapM (coperZ Z P ops)).map fun l=>.regD l (ops.toList.map AM4)
 | .seq a b=>match AK6 Z P a,AK6 Z P b with|some a,some b=>some (.seq a b)|_,_=>none
 | .cond c a b=>match cox c,AK6 Z P a,AK6 Z P b with|some c,some a,some b=>some (.cond c a b)|_,_,_=>none
 | .block i c=>(AK6 Z P c).map (.block i)
 | .loop c=>(AK6 Z P c).map .loop
 | .rangeFunc f ps a b=>match cox f,AK6 Z P a,AK6 Z P b with|some f,some a,some b=>some (.rangeF f ps.toList a b)|_,_,_=>none
 | .exit i=>some (.exit i)
 | .ret=>some .ret
 | _=>none
theorem AD3 (hZ:ZOk Z P):∀ {c:Code} {ac:ACode},AK6 Z P c=some ac→AD4 P c=some ac
 | .skip,_,h=>h
 | .region _ ops false,_,h=>by
  simp only [AK6,Option.map_eq_some_iff] at h
  obtain ⟨l,h1,rfl⟩:=h
  have : BX4 P ops=some l:=mapM_ok (fun a b=>BO7 hZ) h1
  simp only [AD4,this,Option.map_some]
 | .region _ ops true,_,h=>by
  simp only [AK6,Option.map_eq_some_iff] at h
  obtain ⟨l,h1,rfl⟩:=h
  have : BX4 P ops=some l:=mapM_ok (fun a b=>BO7 hZ) h1
  simp only [AD4,this,Option.map_some]
 | .seq a b,_,h=>by
  simp only [AK6] at h
  split at h
  ·rename_i x y h1 h2
   simp only [AD4,AD3 hZ h1,AD3 hZ h2];exact h
  ·cases h
 | .cond c a b,_,h=>by
  simp only [AK6] at h
  split at h
  ·rename_i x y z h1 h2 h3
   simp only [AD4,h1,AD3 hZ h2,AD3 hZ h3];exact h
  ·cases h
 | .block i c,_,h=>by
  simp only [AK6,Option.map_eq_some_iff] at h
  obtain ⟨l,h1,rfl⟩:=h
  simp only [AD4,AD3 hZ h1,Option.map_some]
 | .loop c,_,h=>by
  simp only [AK6,Option.map_eq_some_iff] at h
  obtain ⟨l,h1,rfl⟩:=h
  simp only [AD4,AD3 hZ h1,Option.map_some]
 | .rangeFunc f ps a b,_,h=>by
  simp only [AK6] at h
  split at h
  ·rename_i x y z h1 h2 h3
   simp only [AD4,h1,AD3 hZ h2,AD3 hZ h3];exact h
  ·cases h
 | .exit i,_,h=>h
 | .ret,_,h=>h
end
end Go.Am
