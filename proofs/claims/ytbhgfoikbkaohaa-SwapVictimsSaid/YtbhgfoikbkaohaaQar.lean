/-
 What a row's reading of an argument is,as abstract values,by the shape of its type. No program in sight.
 The arguments of the rows: calls and plays.
-/
import Derived.Carry
import Derived.OpenShut
import Derived.Test.YtbhgfoikbkaohaaQap
import Derived.Test.YtbhgfoikbkaohaaRows
import Derived.KernelRfl
set_option linter.unusedSimpArgs false
set_option linter.unusedVariables false
namespace Go.Am
open Go.ChangeShapes Go.WideShapes Go.ChangeAt Go.RowKit
inductive Ty where
 | bool|int (k:IntKind)|str|slice (e:Ty)|nil|cons (a b:Ty)|struct (T:Ty)|arr (k:IntKind) (n:Nat)
def Ty.size:Ty→Nat
 | .bool=>1
 | .int _=>1
 | .str=>1
 | .slice _=>1
 | .nil=>0
 | .cons a b=>a.size+b.size
 | .struct T=>T.size
 | .arr _ n=>n
def Ac6 (P:Program):Ty→(TypeId→Bool) × (Nat→List Field→Bool)
 | .bool=>(fun t=>match P.underlying t with|some .bool=>true|_=>false,fun _ _=>false)
 | .int k=>(fun t=>match P.underlying t with|some (.int k')=>decide (k=k')|_=>false,fun _ _=>false)
 | .str=>(fun t=>match P.underlying t with|some .string=>true|_=>false,fun _ _=>false)
 | .slice e=>(fun t=>match P.underlying t with|some (.slice e')=>(Ac6 P e).1 e' && decide (P.cellsOf e'=e.size) && decide (0 < e.size)|_=>false,fun _ _=>false)
 | .nil=>(fun _=>false,fun _ fs=>match fs with | []=>true|_::_=>false)
 | .cons a b=>(fun _=>false,fun off fs=>match fs with | []=>false|f::r=>decide (f.offset=off) && decide (P.cellsOf f.type=a.size) && (Ac6 P a).1 f.type && (Ac6 P b).2 (off+a.size) r)
 | .struct T=>(fun t=>match P.underlying t with|some (.struct fs)=>decide (P.cellsOf t=T.size) && (Ac6 P T).2 0 fs.toList|_=>false,fun _ _=>false)
 | .arr k n=>(fun t=>match P.underlying t with|some (.array n' e)=>decide (n'=n) && decide (P.cellsOf t=n) && decide (P.cellsOf e=1) && (match P.underlying e with|some (.int k')=>decide (k=k')|_=>false)|_=>false,fun _ _=>false)
def Shp:Ty→List AV→Prop
 | .bool,xs=>∃ b,xs=[.bool b]
 | .int k,xs=>∃ n,xs=[.int k n]∧(Lit.int k n).wf=true
 | .str,xs=>∃ s,xs=[.str s]∧s.size≤maxLen
 | .slice e,xs=>∃ els:List (List AV),xs=[.isl els]∧els.length≤maxLen∧∀ el ∈ els,Shp e el
 | .nil,xs=>xs=[]
 | .cons a b,xs=>∃ ys zs,xs=ys++zs∧Shp a ys∧Shp b zs
 | .struct T,xs=>Shp T xs
 | .arr k n,xs=>∃ l:List Int,xs=l.map (AV.int k)∧l.length=n∧∀ x ∈ l,(Lit.int k x).wf=true
theorem AN1 {α:Type} {p:Nat→α→Prop}:∀ n:Nat,(∀ i,i < n→∃ x,p i x)→∃ l:List α,l.length=n∧∀ i x,l[i]? = some x→p i x
 | 0,_=>⟨[],rfl,fun i x h=>by simp at h⟩
 | n+1,h=>by
  obtain ⟨l,hl,hp⟩:=AN1 n fun i hi=>h i (by omega)
  obtain ⟨x,hx⟩:=h n (by omega)
  refine ⟨l++[x],by simp [hl],fun i y hy=>?_⟩
  rcases Nat.lt_trichotomy i n with hi|rfl|hi
  ·rw [List.getElem?_append_left (by omega)] at hy;exact hp i y hy
  ·rw [List.getElem?_append_right (by omega),hl,Nat.sub_self] at hy;cases hy;exact hx
  ·rw [List.getElem?_eq_none (by simp [hl];omega)] at hy;cases hy
theorem BR5 {k:IntKind} {n:Int}:One (.int k n):=⟨fun _ e=>(by cases e),fun _ e=>(by cases e)⟩
theorem one_bool {b:Bool}:One (.bool b):=⟨fun _ e=>(by cases e),fun _ e=>(by cases e)⟩
theorem one_str {b:ByteArray}:One (.string b):=⟨fun _ e=>(by cases e),fun _ e=>(by cases e)⟩
theorem AZ2 {A:Option Addr} {n m:Nat}:One (.slice A n m):=⟨fun _ e=>(by cases e),fun _ e=>(by cases e)⟩
theorem AR4 {c:Cx} {x:AV} {v:Value} {look:Nat→Option Value} (h:RR c x v) (ho:One v) (hl:look 0=some v):RC1 (RR c) [x] look:=fun j y hy=>by
 cases j with
 | zero=>cases hy;exact ⟨v,hl,h,ho⟩
 | succ j=>cases hy
theorem rc1_app {c:Cx} {xs ys:List AV} {look:Nat→Option Value} (h:RC1 (RR c) xs look) (h':RC1 (RR c) ys fun j=>look (xs.length+j)):RC1 (RR c) (xs++ys) look:=fun j y hy=>by
 by_cases hj:j < xs.length
 ·rw [List.getElem?_append_left hj] at hy;exact h j y hy
 ·rw [List.getElem?_append_right (by omega)] at hy
  obtain ⟨u,hu,hr⟩:=h' _ _ hy
  exact ⟨u,by rw [← hu];congr 1;omega,hr⟩
section
variable {P:Program} {H:Type} {enc:TypeId × Value→H} {spare:Nat→Bool} {held:Bool} {W:World}
def Rd1 (P:Program) (enc:TypeId × Value→H) (spare:Nat→Bool) (held:Bool) (W:World) (T:Ty):Prop:=∀ t,(Ac6 P T).1 t=true→∀ (fuel:Nat) (cs:List Value) (x:DataW H × List MemPlace),DataW.trod enc P W 0 spare held fuel t cs=some x →
  ∃ xs,Shp T xs∧xs.length=T.size∧cs.length=xs.length∧RC1 (RR (AA7 W)) xs fun j=>cs[j]?
def Rd2 (P:Program) (enc:TypeId × Value→H) (spare:Nat→Bool) (held:Bool) (W:World) (T:Ty):Prop:=∀ (off:Nat) (fs:List Field),(Ac6 P T).2 off fs=true→∀ (n:Nat) (cs:List Value),
  (∀ (i:Nat) (f:Field),fs[i]? = some f→∃ x,DataW.trod enc P W 0 spare held n f.type ((cs.drop f.offset).take (P.cellsOf f.type))=some x) →
  ∃ xs,Shp T xs∧xs.length=T.size∧RC1 (RR (AA7 W)) xs fun j=>cs[off+j]?
theorem BH3 {e:Ty} (ih:Rd1 P enc spare held W e):Rd1 P enc spare held W (.slice e):=fun t ht fuel cs x hx=>by
 simp only [Ac6] at ht
 split at ht
 case h_2=>cases ht
 case h_1 e' he' =>
 simp only [Bool.and_eq_true,decide_eq_true_eq] at ht
 obtain ⟨⟨h1,h2⟩,h3⟩:=ht
 rcases DataW.trod_slice he' hx with ⟨rfl,-⟩ | ⟨a,len,cap,elems,rest,n,-,rfl,-,-,hlc,hcm,hel,hE,-,-⟩
 ·refine ⟨[.isl []],⟨[],rfl,Nat.zero_le _,fun el h=>(by cases h)⟩,rfl,rfl,AR4 (X0.2 ⟨none,0,rfl,Nat.le_refl _,Nat.zero_le _,fun h=>absurd rfl h⟩) AZ2 rfl⟩
 ·rw [h2] at hE
  have hget:∀ i,i < len→∃ ds y,W.cells? 0 (a.add (i * e.size)) e.size=some ds∧DataW.trod enc P W 0 spare held n e' ds=some y:=fun i hi=>by
   have hEi:=hE i hi
   obtain ⟨y,hy⟩:∃ y,elems[i]? = some y:=⟨elems[i]'(by omega),List.getElem?_eq_getElem _⟩
   rw [hy] at hEi
   obtain ⟨ds,hds,hd⟩:=Option.bind_eq_some_iff.1 hEi
   exact ⟨ds,y,hds,hd⟩
  rcases Nat.eq_zero_or_pos len with rfl|hpos
  ·exact ⟨[.isl []],⟨[],rfl,Nat.zero_le _,fun el h=>(by cases h)⟩,rfl,rfl,AR4 (X0.2 ⟨some a,cap,rfl,Nat.zero_le _,hcm,fun h=>absurd rfl h⟩) AZ2 rfl⟩
  obtain ⟨ab,ao,asp⟩:=a
  have hsp:asp=none:=by
   obtain ⟨ds,y,hds,-⟩:=hget 0 hpos
   obtain ⟨-,hlen,hcell⟩:=World.cells?_some hds
   have hc0:=hcell 0 h3
   rw [List.getElem?_eq_getElem (by omega:0 < ds.length),Nat.zero_mul] at hc0
   have h8:=World.cell?_spot hc0
   simpa [Addr.add] using h8
  subst hsp
  have hx':∀ i,i < len→∃ el,Shp e el∧el.length=e.size∧ab < W.heap.size∧RC1 (RR (AA7 W)) el fun j=>W.cell? ⟨ab,ao+i * e.size+j,none⟩:=fun i hi=>by
   obtain ⟨ds,y,hds,hd⟩:=hget i hi
   obtain ⟨-,hlen,hcell⟩:=World.cells?_some hds
   obtain ⟨el,s1,s2,s3,s4⟩:=ih e' h1 n ds y hd
   have hcell':∀ j,j < e.size→W.cell? ⟨ab,ao+i * e.size+j,none⟩=ds[j]?:=fun j hj=>by
    have:=hcell j hj
    rwa [add_plain,add_plain] at this
   have hc0:=hcell' 0 h3
   rw [List.getElem?_eq_getElem (by omega:0 < ds.length)] at hc0
   have hbl:ab < W.heap.size:=by
    refine Classical.byContradiction fun hlt=>?_
    have hn:W.heap[ab]? = none:=by simp;omega
    simp [World.cell?,hn] at hc0
   refine ⟨el,s1,s2,hbl,s4.imp (fun _ _ h=>h) fun j u hu=>?_⟩
   have hj:j < ds.length:=(List.getElem?_eq_some_iff.1 hu).1
   rw [hcell' j (by omega)]
   exact hu
  obtain ⟨els,hl,hp⟩:=AN1 len hx'
  refine ⟨[.isl els],⟨els,rfl,by omega,fun el h=>?_⟩,rfl,rfl,AR4 (X0.2 ⟨some ⟨ab,ao,none⟩,cap,by rw [hl],by omega,hcm,fun hne=>?_⟩) AZ2 rfl⟩
  ·obtain ⟨i,hi⟩:=List.mem_iff_getElem?.1 h
   exact (hp i el hi).1
  ·obtain ⟨e0,he0⟩:∃ e0,els[0]? = some e0:=by
    cases els with
    | nil=>exact absurd rfl hne
    | cons y ys=>exact ⟨y,rfl⟩
   exact ⟨ab,ao,e.size,rfl,Ar9 (hp 0 e0 he0).2.2.1,fun k el hk=>⟨(hp k el hk).2.1,(hp k el hk).2.2.2⟩⟩
theorem read_all (T:Ty):Rd1 P enc spare held W T∧Rd2 P enc spare held W T:=by
 induction T with
 | bool =>
  refine ⟨fun t ht fuel cs x hx=>?_,fun off fs h=>by cases h⟩
  simp only [Ac6] at ht
  split at ht
  case h_2=>cases ht
  case h_1 he =>
  obtain ⟨b,rfl,-⟩:=DataW.trod_bool he hx
  exact ⟨[.bool b],⟨b,rfl⟩,rfl,rfl,AR4 (RR_bool.2 rfl) one_bool rfl⟩
 | int k =>
  refine ⟨fun t ht fuel cs x hx=>?_,fun off fs h=>by cases h⟩
  simp only [Ac6] at ht
  split at ht
  case h_2=>cases ht
  case h_1 k' he =>
  obtain rfl:=of_decide_eq_true ht
  obtain ⟨n,rfl,-,hw⟩:=DataW.trod_int he hx
  exact ⟨[.int k n],⟨n,rfl,hw⟩,rfl,rfl,AR4 (RR_int.2 rfl) BR5 rfl⟩
 | str =>
  refine ⟨fun t ht fuel cs x hx=>?_,fun off fs h=>by cases h⟩
  simp only [Ac6] at ht
  split at ht
  case h_2=>cases ht
  case h_1 he =>
  obtain ⟨s,rfl,-,hw⟩:=DataW.trod_string he hx
  exact ⟨[.str s],⟨s,rfl,hw⟩,rfl,rfl,AR4 (RR_str.2 rfl) one_str rfl⟩
 | slice e ih=>exact ⟨BH3 ih.1,fun off fs h=>by cases h⟩
 | nil =>
  refine ⟨fun t ht=>(by cases ht),fun off fs h n cs hcs=>?_⟩
  exact ⟨[],rfl,rfl,fun j x hx=>by simp at hx⟩
 | cons a b iha ihb =>
  refine ⟨fun t ht=>(by cases ht),fun off fs h n cs hcs=>?_⟩
  cases fs with
  | nil=>cases h
  | cons f r =>
   simp only [Ac6,Bool.and_eq_true,decide_eq_true_eq] at h
   obtain ⟨⟨⟨h1,h2⟩,h3⟩,h4⟩:=h
   obtain ⟨x,hx⟩:=hcs 0 f rfl
   obtain ⟨ys,s1,s2,s3,s4⟩:=iha.1 f.type h3 n _ x hx
   obtain ⟨zs,r1,r2,r3⟩:=ihb.2 _ r h4 n cs fun i g hg=>hcs (i+1) g hg
   refine ⟨ys++zs,⟨ys,zs,rfl,s1,r1⟩,by simp [s2,r2,Ty.size],rc1_app (s4.imp (fun _ _ h=>h) fun j u hu=>?_) (r3.imp (fun _ _ h=>h) fun j u hu=>?_)⟩
   ·rw [List.getElem?_take] at hu
    split at hu
    ·rw [List.getElem?_drop,h1] at hu;exact hu
    ·cases hu
   ·rw [s2,← hu];congr 1;omega
 | struct T ih =>
  refine ⟨fun t ht fuel cs x hx=>?_,fun off fs h=>by cases h⟩
  simp only [Ac6] at ht
  split at ht
  case h_2=>cases ht
  case h_1 fs he =>
  simp only [Bool.and_eq_true,decide_eq_true_eq] at ht
  obtain ⟨h1,h2⟩:=ht
  obtain ⟨xs,n,-,-,hl,hxl,hf⟩:=DataW.trod_struct he hx
  obtain ⟨ys,s1,s2,s3⟩:=ih.2 0 fs.toList h2 n cs fun i f hfi=>by
   have hfi':fs[i]? = some f:=by simpa using hfi
   have hi:i < fs.size:=(Array.getElem?_eq_some_iff.1 hfi').1
   exact ⟨xs[i]'(by omega),by rw [hf i f hfi'];exact List.getElem?_eq_getElem _⟩
  exact ⟨ys,s1,s2,by rw [hl,h1,s2],s3.imp (fun _ _ h=>h) fun j u hu=>by simpa using hu⟩
 | arr k n =>
  refine ⟨fun t ht fuel cs x hx=>?_,fun off fs h=>by cases h⟩
  simp only [Ac6] at ht
  split at ht
  case h_2=>cases ht
  case h_1 n' e he =>
  simp only [Bool.and_eq_true,decide_eq_true_eq] at ht
  obtain ⟨⟨⟨h1,h2⟩,h3⟩,h4⟩:=ht
  subst h1
  split at h4
  case h_2=>cases h4
  case h_1 k' hk' =>
  obtain rfl:=of_decide_eq_true h4
  obtain ⟨xs,m,-,-,hcl,hn,hel⟩:=DataW.trod_array he hx
  have hget:∀ i,i < n'→∃ z:Int,cs[i]? = some (.int k z)∧(Lit.int k z).wf=true:=fun i hi=>by
   have h0:=hel i hi
   rw [h3,Nat.mul_one] at h0
   obtain ⟨y,hy⟩:∃ y,xs[i]? = some y:=⟨xs[i]'(by omega),List.getElem?_eq_getElem _⟩
   rw [hy] at h0
   obtain ⟨z,e1,-,e3⟩:=DataW.trod_int hk' h0
   refine ⟨z,?_,e3⟩
   have h5:((cs.drop i).take 1)[0]? = some (.int k z):=by rw [e1];rfl
   rwa [List.getElem?_take,if_pos (by omega),List.getElem?_drop,Nat.add_zero] at h5
  obtain ⟨l,hl,hp⟩:=AN1 n' hget
  refine ⟨l.map (AV.int k),⟨l,rfl,hl,fun x hx=>?_⟩,by simp [hl,Ty.size],by rw [hcl,h2];simp [hl],fun j y hy=>?_⟩
  ·obtain ⟨i,hi⟩:=List.mem_iff_getElem?.1 hx
   exact (hp i x hi).2
  ·rw [List.getElem?_map] at hy
   obtain ⟨z,hz,rfl⟩:=Option.map_eq_some_iff.1 hy
   exact ⟨_,(hp j z hz).1,RR_int.2 rfl,BR5⟩
def argV:Ty→List AV→AV
 | .struct _,xs=>.agg xs
 | .arr _ _,xs=>.agg xs
 | _,x::_=>x
 | _,[]=>.undef
theorem Al2 {T:Ty} {xs:List AV} {v:Value} (hx:xs.length=1) (hv:v.cells.toList=[v]) (h:RC1 (RR (AA7 W)) xs fun j=>v.cells.toList[j]?):∃ x,xs=[x]∧RR (AA7 W) x v:=by
 match xs,hx with
 | [x],_ =>
  obtain ⟨u,hu,hr,-⟩:=h 0 x rfl
  rw [hv] at hu
  cases hu
  exact ⟨x,rfl,hr⟩
theorem arg_rr {T:Ty} {t:TypeId} {v:Value} {r:Reach} {base:Nat} {d:DataW H} {p:List MemPlace} (hT:(Ac6 P T).1 t=true) (hval:Value.okWide P W r base t v) (hd:DataW.Trod enc P W 0 spare held t v d p):∃ xs,Shp T xs∧RR (AA7 W) (argV T xs) v:=by
 obtain ⟨fuel,hf⟩:=hd
 obtain ⟨xs,s1,s2,s3,s4⟩:=(read_all T).1 t hT fuel _ _ hf
 refine ⟨xs,s1,?_⟩
 cases T with
 | nil=>cases hT
 | cons a b=>cases hT
 | bool =>
  simp only [Ac6] at hT
  split at hT
  case h_2=>cases hT
  case h_1 he =>
  obtain ⟨b,rfl⟩:=okWide_bool he hval
  obtain ⟨x,rfl,hr⟩:=Al2 (T:=.bool) s2 rfl s4
  exact hr
 | int k =>
  simp only [Ac6] at hT
  split at hT
  case h_2=>cases hT
  case h_1 k' he =>
  obtain ⟨b,rfl⟩:=okWide_int he hval
  obtain ⟨x,rfl,hr⟩:=Al2 (T:=.bool) s2 rfl s4
  exact hr
 | str =>
  simp only [Ac6] at hT
  split at hT
  case h_2=>cases hT
  case h_1 he =>
  obtain ⟨b,rfl⟩:=okWide_string he hval
  obtain ⟨x,rfl,hr⟩:=Al2 (T:=.bool) s2 rfl s4
  exact hr
 | slice e =>
  simp only [Ac6] at hT
  split at hT
  case h_2=>cases hT
  case h_1 k' he =>
  obtain ⟨a,l,c,rfl⟩:=okWide_slice he hval
  obtain ⟨x,rfl,hr⟩:=Al2 (T:=.bool) s2 rfl s4
  exact hr
 | struct T =>
  simp only [Ac6] at hT
  split at hT
  case h_2=>cases hT
  case h_1 fs he =>
  obtain ⟨cs,rfl,hcs⟩:=okWide_struct he hval
  exact U4.2 ⟨cs,rfl,by simpa [Value.cells] using s3,s4.imp (fun _ _ h=>h) fun j u hu=>by simpa [Value.cells] using hu⟩
 | arr k n =>
  simp only [Ac6] at hT
  split at hT
  case h_2=>cases hT
  case h_1 n' e he =>
  have hcs:∃ cs,v = .agg cs∧cs.size=P.cellsOf t:=by
   simp only [Value.okWide,he] at hval
   obtain ⟨cs,h1,h2,_⟩:=hval
   exact ⟨cs,h1,h2⟩
  obtain ⟨cs,rfl,hcs⟩:=hcs
  exact U4.2 ⟨cs,rfl,by simpa [Value.cells] using s3,s4.imp (fun _ _ h=>h) fun j u hu=>by simpa [Value.cells] using hu⟩
def BF6:List Ty→List (List AV)→Prop
 | [],[]=>True
 | T::Ts,xs::r=>Shp T xs∧BF6 Ts r
 | _,_=>False
def tysOk (P:Program):List Ty→List TypeId→Bool
 | [],[]=>true
 | T::Ts,t::ts=>(Ac6 P T).1 t && tysOk P Ts ts
 | _,_=>false
def argVs:List Ty→List (List AV)→List AV
 | T::Ts,xs::r=>argV T xs::argVs Ts r
 | _, _ => []
theorem args_rr {r:Reach} {base:Nat}:∀ {Ts:List Ty} {ts:List TypeId} {vs:List Value} {ds:List (DataW H)} {ps:List MemPlace},tysOk P Ts ts=true→(∀ (j:Nat) t v,ts[j]? = some t→vs[j]? = some v→Value.okWide P W r base t v) →
  DataW.TrodAll enc P W 0 spare held ts vs ds ps→∃ xss,BF6 Ts xss∧vs.length=(argVs Ts xss).length∧RCs (RR (AA7 W)) (argVs Ts xss) fun j=>vs[j]?
 | [],[],vs,ds,ps,_,_,hd=>by
  obtain ⟨rfl,rfl,rfl⟩:=trodAll_nil hd
  exact ⟨[],trivial,rfl,fun j x hx=>by cases hx⟩
 | T::Ts,t::ts,vs,ds,ps,hT,hv,hd=>by
  obtain ⟨v,vs',d,ds',p,q,rfl,rfl,rfl,h1,h2⟩:=trodAll_cons hd
  simp only [tysOk,Bool.and_eq_true] at hT
  obtain ⟨xs,s1,s2⟩:=arg_rr hT.1 (hv 0 t v rfl rfl) h1
  obtain ⟨xss,r1,r2,r3⟩:=args_rr hT.2 (fun j t v h h'=>hv (j+1) t v h h') h2
  refine ⟨xs::xss,⟨s1,r1⟩,by simp [argVs,r2],fun j x hx=>?_⟩
  cases j with
  | zero=>cases hx;exact ⟨v,rfl,s2⟩
  | succ j=>exact r3 j x hx
theorem As0 (hl:laidOutB P=true) {W':World} (hb:Below W.heap.size W W') {sp:Nat→Bool}:∀ {ts:List TypeId} {vs:List Value} {ds:List (DataW H)} {ps:List MemPlace},(∀ t ∈ ts,P.readableRec t=true∧t < P.types.size) →
  DataW.TrodAll enc P W 0 (fun _=>true) true ts vs ds ps→(∀ x ∈ ps,x.block < W.heap.size)→(∀ x ∈ ps,sp x.block=true)→DataW.TrodAll enc P W' 0 sp true ts vs ds ps
 | [],vs,ds,ps,_,hd,_,_=>by
  obtain ⟨rfl,rfl,rfl⟩:=trodAll_nil hd
  rfl
 | t::ts,vs,ds,ps,ht,hd,hlt,hsp=>by
  obtain ⟨v,vs',d,ds',p,q,rfl,rfl,rfl,h1,h2⟩:=trodAll_cons hd
  have ht0:=ht t (by simp)
  exact ⟨p,q,WideElems.Trod_stays hl ht0.1 ht0.2 h1 (fun x hx=>hb.same (hlt x (by simp [hx]))) (fun x hx=>hsp x (by simp [hx])),As0 hl hb (fun t' h'=>ht t' (by simp [h'])) h2 (fun x hx=>hlt x (by simp [hx])) (fun x hx=>hsp x (by simp [hx])),rfl⟩
end
end Go.Am
namespace Go.Proofs.Ytbhgfoikbkaohaa
open Go Go.Am Go.Pol
open Go.ChangeShapes Go.WideShapes Go.ChangeAt Go.WideElems Go.RowKit
theorem own:ownKnob Try.prog.godebug=none:=by kernel_rfl
theorem glo (c:Cx):AL8 G0 c:=fun n cs h=>by cases h
theorem BS3 {α:Type} {f:α→List AV} {q:α→Prop}:∀ {els:List (List AV)},(∀ el ∈ els,∃ c,el=f c∧q c)→∃ l:List α,els=l.map f∧∀ c ∈ l,q c
 | [],_=>⟨[],rfl,fun c hc=>by cases hc⟩
 | el::els,h=>by
  obtain ⟨c,rfl,hq⟩:=h el (List.mem_cons_self ..)
  obtain ⟨l,rfl,hl⟩:=BS3 fun e he=>h e (List.mem_cons_of_mem _ he)
  exact ⟨c::l,rfl,fun d hd=>(List.mem_cons.1 hd).elim (fun e=>e▸hq) (hl d)⟩
theorem wf_u8 {n:Int} (h:(Lit.int .u8 n).wf=true):∃ m:Nat,n=(m:Int)∧m < 256:=by
 simp [Lit.wf,IntKind.min,IntKind.max,IntKind.signed,IntKind.bits] at h
 exact ⟨n.toNat,by omega,by omega⟩
theorem wf_i64 {n:Int} (h:(Lit.int .i64 n).wf=true):-9223372036854775808≤n∧n≤9223372036854775807:=by
 simp [Lit.wf,IntKind.min,IntKind.max,IntKind.signed,IntKind.bits] at h
 omega
def i64 (n:Int):Prop:=-9223372036854775808≤n∧n≤9223372036854775807
theorem shp_one {T:Ty}:∀ {xss:List (List AV)},BF6 [T] xss→∃ xs,xss=[xs]∧Shp T xs
 | [xs],h=>⟨xs,rfl,h.1⟩
 | [],h=>h.elim
 | _::_::_,h=>h.2.elim
def rlT:Ty:=.struct (.cons (.int .i64) (.cons (.int .i64) (.cons (.int .i64) (.cons (.int .i64) .nil))))
def planT:Ty:=.struct (.cons (.slice rlT) .nil)
def actT:Ty:=.struct (.cons (.int .u8) (.cons (.int .i64) (.cons (.int .i64) (.cons (.int .i64) (.cons (.int .u8) (.cons planT .nil))))))
def BQ6:Ty:=.struct (.cons (.int .i64) (.cons (.int .i64) (.cons (.int .i64) (.cons (.int .i64) (.cons planT (.cons (.slice actT) .nil))))))
def okA (x:SAc):Prop:=0≤x.w∧0≤x.v∧x.v < 256
theorem shp_rl {xs:List AV} (h:Shp rlT xs):∃ x:Rl,xs=rlA x:=by
 obtain ⟨y1,z1,rfl,⟨a,rfl,-⟩,y2,z2,rfl,⟨b,rfl,-⟩,y3,z3,rfl,⟨c,rfl,-⟩,y4,z4,rfl,⟨d,rfl,-⟩,rfl⟩:=h
 exact ⟨⟨a,b,c,d⟩,rfl⟩
theorem BA2 {xs:List AV} (h:Shp planT xs):∃ l:List Rl,xs=[AV.isl (l.map rlA)]:=by
 obtain ⟨y1,z1,rfl,⟨els,rfl,hl,he⟩,rfl⟩:=h
 obtain ⟨l,rfl,-⟩:=BS3 (f:=rlA) (q:=fun _=>True) fun el hel=>(shp_rl (he el hel)).imp fun _ h=>⟨h,trivial⟩
 exact ⟨l,rfl⟩
theorem shp_act {xs:List AV} (h:Shp actT xs):∃ x:SAc,xs=AY5 x∧okA x:=by
 obtain ⟨y1,z1,rfl,⟨w,rfl,hw⟩,y2,z2,rfl,⟨p,rfl,-⟩,y3,z3,rfl,⟨n,rfl,-⟩,y4,z4,rfl,⟨t,rfl,-⟩,y5,z5,rfl,⟨b,rfl,hb⟩,y6,z6,rfl,h6,rfl⟩:=h
 obtain ⟨m,rfl,hm⟩:=wf_u8 hw
 obtain ⟨v,rfl,hv⟩:=wf_u8 hb
 obtain ⟨l,rfl⟩:=BA2 h6
 exact ⟨⟨(m:Nat),p,n,t,(v:Nat),l⟩,rfl,Int.natCast_nonneg m,Int.natCast_nonneg v,by show ((v:Nat):Int) < 256;omega⟩
theorem shp_play {xs:List AV} (h:Shp BQ6 xs):∃ p:SPy,xs=AY2 p∧p.X.length≤maxLen∧(∀ x ∈ p.X,okA x)∧i64 p.n:=by
 obtain ⟨y1,z1,rfl,⟨a,rfl,-⟩,y2,z2,rfl,⟨n,rfl,hn⟩,y3,z3,rfl,⟨pg,rfl,-⟩,y4,z4,rfl,⟨sl,rfl,-⟩,y5,z5,rfl,h5,y6,z6,rfl,⟨els,rfl,hl,he⟩,rfl⟩:=h
 obtain ⟨l,rfl⟩:=BA2 h5
 obtain ⟨X,rfl,hq⟩:=BS3 (f:=AY5) (q:=okA) fun el hel=>shp_act (he el hel)
 exact ⟨⟨a,n,pg,sl,l,X⟩,rfl,by rw [List.length_map] at hl;exact hl,hq,wf_i64 hn⟩
end Go.Proofs.Ytbhgfoikbkaohaa
