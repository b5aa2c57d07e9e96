/-
 SwapNone.
 What a row's reading of an argument is,as abstract values,by the shape of its type. No program in sight.
 The arguments of the rows: calls and plays.
-/
import Derived.Test.YtbhgfoikbkaohaaQap
import Derived.Carry
import Derived.OpenShut
import Derived.Test.YtbhgfoikbkaohaaRows
import Derived.KernelRfl
set_option linter.unusedSimpArgs false
set_option linter.unusedVariables false
set_option maxHeartbeats 3200000
namespace Go.Proofs.Ytbhgfoikbkaohaa.Sh
open Go Go.Am Go.Pol
theorem plx_Syf {p:Prop} (h:p:=by ((first|exact plw|(with_reducible first|apply O7|apply G9 _|apply H7 _|apply H6 _|apply j6|apply J4|apply O1|apply AD2|apply AG2 _|apply AO1 _|apply AD1|apply Q7|apply F5 P6|apply F5 w9|apply AO0 _|apply F9 Q6|apply Ah1|apply Am7|fail)|fail);first|done|fail)):p:=h
theorem ppx_Syf {p:Prop} (h:p:=by ((first|with_reducible assumption|(with_reducible first|apply H8|apply AH8|apply AG1|apply AB7|apply AG8|apply x9 _|apply AF8 _|apply hpy|apply hy|fail)|exact ppw|fail);first|done|fail)):p:=h
open Go.Proofs.Ytbhgfoikbkaohaa.Sh renaming plx_Syf → plx
open Go.Proofs.Ytbhgfoikbkaohaa.Sh renaming ppx_Syf → ppx
theorem wx_Syf {p q:Prop} (hq:q) (h:Y7 q→p:=by (intro hQz;((repeat' ((try (conv=>whnf));first|refine sxA ?_|refine J5 h0 ?_|refine sxF ?_|(refine R4 F6 b30 rfl ?_;unfold c30)|(refine R4 F6 b12 rfl ?_;unfold c12)|(refine R4 F6 b15 rfl ?_;unfold c15)|(refine R4 F6 b21 rfl ?_;unfold c21)|(refine R4 F6 b26 rfl ?_;unfold c26)|(refine R4 F6 b27 rfl ?_;unfold c27)|(refine R4 F6 b25 rfl ?_;unfold c25)|(refine R4 F6 b14 rfl ?_;unfold c14)|refine O4 hs ?_|(refine R4 F6 b28 rfl ?_;unfold c28)|(refine R4 F6 b23 rfl ?_;unfold c23)|(refine R4 F6 b22 rfl ?_;unfold c22)|(refine R4 F6 b37 rfl ?_;unfold c37)|refine O4 hsh ?_|refine sxH ?_|((with_reducible first|apply V7 hQz|apply V8 hQz)<;>(try intro hsp hQz))|exact hQz.out))<;>(try (conv=>whnf))))):p:=h ⟨hq⟩
theorem zP_pl:∀ x ∈ zP,Plain x:=fun x hx=>by
 unfold zP at hx
 rcases List.mem_cons.1 hx with rfl|hx
 ·exact Q7
 ·obtain rfl:=List.eq_of_mem_replicate hx;exact A8
theorem BK2:Aq9[0]? = some (.bool false):=by unfold Aq9;rw [List.getElem?_cons_zero]
theorem sysZ_pl:∀ x ∈ Aq9,Plain x:=fun x hx=>by
 obtain ⟨i,hi⟩:=List.getElem?_of_mem hx
 by_cases h:i=0
 ·subst h;rw [BK2] at hi;cases hi;exact D7
 ·have e:(Aq9.set 0 (.bool true))[i]? = some x:=by rw [List.getElem?_set_ne (by omega),hi]
  rw [sysZ_0] at e;exact D8 zP_pl _ (List.mem_of_getElem? e)
theorem k_same0:O5 19 [.agg [.int .i64 0,.int .i64 0,.int .i64 0,.int .i64 0,.nils,.nils,.int .i64 0,.int .i64 0],.agg [.int .i64 0,.int .i64 0,.int .i64 0,.int .i64 0,.nils,.nils,.int .i64 0,.int .i64 0]] (.bool true) :=
 ⟨(k_same25 (a:=0) (n:=0) (pg:=0) (sl:=0) (W:=[]) (D:=[]) (i:=0) (o:=0) (Nat.zero_le _) (Nat.zero_le _)).out.weak (Ax4.args ⟨Ar9 ⟨X5,X5,X5,X5,AW9,AW9,X5,X5,trivial⟩,Ar9 ⟨X5,X5,X5,X5,AW9,AW9,X5,X5,trivial⟩,trivial⟩)⟩
theorem k_none (x:SAc):O5 8 [.agg (sacE x)] (.bool true):=by
 obtain ⟨y,hy0⟩:∃ y,y=Aq9:=⟨_,rfl⟩
 have hy:∀ x ∈ y,Plain x:=by rw [hy0];exact sysZ_pl
 have h0:y[0]? = some (.bool false):=by rw [hy0];exact BK2
 have hs:=k_same0
 have hsh:=k_shown
 have hpy:=x9 x
 refine O5.mk (X0 F6 b8 K3 ⟨AG2 x,trivial⟩ D7 rfl ?_)
 unfold c8
 rw [← hy0]
 clear hy0
 unfold sacE at hpy ⊢
 (refine wx_Syf ?_;repeat' (first|with_reducible refine And.intro ?_ ?_|intro hsp))
 (refine V4 [1] (fun (i:Nat)=>[(3,.int .i64 (i:Nat))]) (fun (i:Nat)=>⟨[(0,.cells [.int .u8 x.w,.int .i64 x.p,.int .i64 x.t,.int .i64 x.n,.int .u8 x.v,.isl (x.l.map rlA)])],1⟩) (fun (i:Nat)=>i≤2) (fun (i:Nat)=>2 - i) (0) [] rfl (fun _=>by first|exact Nat.zero_le _|(dsimp only;omega)) ?_ (by ((try (conv=>whnf));exact AA8)) ?_)
 ·exact Nat.zero_le _
 intro i hi
 by_cases e0:i=0
 ·subst e0
  (refine wx_Syf ?_;repeat' (first|with_reducible refine And.intro ?_ ?_|intro hsp))
  all_goals first|exact l8 rfl|exact J8 1 [] (by (try dsimp only);omega) (by first|omega|(dsimp only;omega)) rfl (by exact AA8)
 ·by_cases e1:i=1
  ·subst e1
   (refine wx_Syf ?_;repeat' (first|with_reducible refine And.intro ?_ ?_|intro hsp))
   all_goals first|exact l8 rfl|exact J8 2 [] (by (try dsimp only);omega) (by first|omega|(dsimp only;omega)) rfl (by exact AA8)
  ·obtain rfl:i=2:=by omega
   (refine wx_Syf ?_;repeat' (first|with_reducible refine And.intro ?_ ?_|intro hsp))
   all_goals exact l8 rfl
end Go.Proofs.Ytbhgfoikbkaohaa.Sh
namespace Go.Am
open Go.ChangeShapes Go.WideShapes Go.ChangeAt Go.RowKit
inductive Ty where
 | bool|int (k:IntKind)|str|slice (e:Ty)|nil|cons (a b:Ty)|struct (T:Ty)|arr (k:IntKind) (n:Nat)
def Ty.size:Ty→Nat
 | .bool=>1
 | .int _=>1
 | .str=>1
 | .slice _=>1
 | .nil=>0
 | .cons a b=>a.size+b.size
 | .struct T=>T.size
 | .arr _ n=>n
def Ab7 (P:Program):Ty→(TypeId→Bool) × (Nat→List Field→Bool)
 | .bool=>(fun t=>match P.underlying t with|some .bool=>true|_=>false,fun _ _=>false)
 | .int k=>(fun t=>match P.underlying t with|some (.int k')=>decide (k=k')|_=>false,fun _ _=>false)
 | .str=>(fun t=>match P.underlying t with|some .string=>true|_=>false,fun _ _=>false)
 | .slice e=>(fun t=>match P.underlying t with|some (.slice e')=>(Ab7 P e).1 e' && decide (P.cellsOf e'=e.size) && decide (0 < e.size)|_=>false,fun _ _=>false)
 | .nil=>(fun _=>false,fun _ fs=>match fs with | []=>true|_::_=>false)
 | .cons a b=>(fun _=>false,fun off fs=>match fs with | []=>false|f::r=>decide (f.offset=off) && decide (P.cellsOf f.type=a.size) && (Ab7 P a).1 f.type && (Ab7 P b).2 (off+a.size) r)
 | .struct T=>(fun t=>match P.underlying t with|some (.struct fs)=>decide (P.cellsOf t=T.size) && (Ab7 P T).2 0 fs.toList|_=>false,fun _ _=>false)
 | .arr k n=>(fun t=>match P.underlying t with|some (.array n' e)=>decide (n'=n) && decide (P.cellsOf t=n) && decide (P.cellsOf e=1) && (match P.underlying e with|some (.int k')=>decide (k=k')|_=>false)|_=>false,fun _ _=>false)
def Shp:Ty→List AV→Prop
 | .bool,xs=>∃ b,xs=[.bool b]
 | .int k,xs=>∃ n,xs=[.int k n]∧(Lit.int k n).wf=true
 | .str,xs=>∃ s,xs=[.str s]∧s.size≤maxLen
 | .slice e,xs=>∃ els:List (List AV),xs=[.isl els]∧els.length≤maxLen∧∀ el ∈ els,Shp e el
 | .nil,xs=>xs=[]
 | .cons a b,xs=>∃ ys zs,xs=ys++zs∧Shp a ys∧Shp b zs
 | .struct T,xs=>Shp T xs
 | .arr k n,xs=>∃ l:List Int,xs=l.map (AV.int k)∧l.length=n∧∀ x ∈ l,(Lit.int k x).wf=true
theorem AM7 {α:Type} {p:Nat→α→Prop}:∀ n:Nat,(∀ i,i < n→∃ x,p i x)→∃ l:List α,l.length=n∧∀ i x,l[i]? = some x→p i x
 | 0,_=>⟨[],rfl,fun i x h=>by simp at h⟩
 | n+1,h=>by
  obtain ⟨l,hl,hp⟩:=AM7 n fun i hi=>h i (by omega)
  obtain ⟨x,hx⟩:=h n (by omega)
  refine ⟨l++[x],by simp [hl],fun i y hy=>?_⟩
  rcases Nat.lt_trichotomy i n with hi|rfl|hi
  ·rw [List.getElem?_append_left (by omega)] at hy;exact hp i y hy
  ·rw [List.getElem?_append_right (by omega),hl,Nat.sub_self] at hy;cases hy;exact hx
  ·rw [List.getElem?_eq_none (by simp [hl];omega)] at hy;cases hy
theorem BO9 {k:IntKind} {n:Int}:One (.int k n):=⟨fun _ e=>(by cases e),fun _ e=>(by cases e)⟩
theorem one_bool {b:Bool}:One (.bool b):=⟨fun _ e=>(by cases e),fun _ e=>(by cases e)⟩
theorem one_str {b:ByteArray}:One (.string b):=⟨fun _ e=>(by cases e),fun _ e=>(by cases e)⟩
theorem AY4 {A:Option Addr} {n m:Nat}:One (.slice A n m):=⟨fun _ e=>(by cases e),fun _ e=>(by cases e)⟩
theorem AQ5 {c:Cx} {x:AV} {v:Value} {look:Nat→Option Value} (h:RR c x v) (ho:One v) (hl:look 0=some v):RC1 (RR c) [x] look:=fun j y hy=>by
 cases j with
 | zero=>cases hy;exact ⟨v,hl,h,ho⟩
 | succ j=>cases hy
theorem rc1_app {c:Cx} {xs ys:List AV} {look:Nat→Option Value} (h:RC1 (RR c) xs look) (h':RC1 (RR c) ys fun j=>look (xs.length+j)):RC1 (RR c) (xs++ys) look:=fun j y hy=>by
 by_cases hj:j < xs.length
 ·rw [List.getElem?_append_left hj] at hy;exact h j y hy
 ·rw [List.getElem?_append_right (by omega)] at hy
  obtain ⟨u,hu,hr⟩:=h' _ _ hy
  exact ⟨u,by rw [← hu];congr 1;omega,hr⟩
section
variable {P:Program} {H:Type} {enc:TypeId × Value→H} {spare:Nat→Bool} {held:Bool} {W:World}
def Rd1 (P:Program) (enc:TypeId × Value→H) (spare:Nat→Bool) (held:Bool) (W:World) (T:Ty):Prop:=∀ t,(Ab7 P T).1 t=true→∀ (fuel:Nat) (cs:List Value) (x:DataW H × List MemPlace),DataW.trod enc P W 0 spare held fuel t cs=some x →
  ∃ xs,Shp T xs∧xs.length=T.size∧cs.length=xs.length∧RC1 (RR (AA6 W)) xs fun j=>cs[j]?
def Rd2 (P:Program) (enc:TypeId × Value→H) (spare:Nat→Bool) (held:Bool) (W:World) (T:Ty):Prop:=∀ (off:Nat) (fs:List Field),(Ab7 P T).2 off fs=true→∀ (n:Nat) (cs:List Value),
  (∀ (i:Nat) (f:Field),fs[i]? = some f→∃ x,DataW.trod enc P W 0 spare held n f.type ((cs.drop f.offset).take (P.cellsOf f.type))=some x) →
  ∃ xs,Shp T xs∧xs.length=T.size∧RC1 (RR (AA6 W)) xs fun j=>cs[off+j]?
theorem BF3 {e:Ty} (ih:Rd1 P enc spare held W e):Rd1 P enc spare held W (.slice e):=fun t ht fuel cs x hx=>by
 simp only [Ab7] at ht
 split at ht
 case h_2=>cases ht
 case h_1 e' he' =>
 simp only [Bool.and_eq_true,decide_eq_true_eq] at ht
 obtain ⟨⟨h1,h2⟩,h3⟩:=ht
 rcases DataW.trod_slice he' hx with ⟨rfl,-⟩ | ⟨a,len,cap,elems,rest,n,-,rfl,-,-,hlc,hcm,hel,hE,-,-⟩
 ·refine ⟨[.isl []],⟨[],rfl,Nat.zero_le _,fun el h=>(by cases h)⟩,rfl,rfl,AQ5 (X4.2 ⟨none,0,rfl,Nat.le_refl _,Nat.zero_le _,fun h=>absurd rfl h⟩) AY4 rfl⟩
 ·rw [h2] at hE
  have hget:∀ i,i < len→∃ ds y,W.cells? 0 (a.add (i * e.size)) e.size=some ds∧DataW.trod enc P W 0 spare held n e' ds=some y:=fun i hi=>by
   have hEi:=hE i hi
   obtain ⟨y,hy⟩:∃ y,elems[i]? = some y:=⟨elems[i]'(by omega),List.getElem?_eq_getElem _⟩
   rw [hy] at hEi
   obtain ⟨ds,hds,hd⟩:=Option.bind_eq_some_iff.1 hEi
   exact ⟨ds,y,hds,hd⟩
  rcases Nat.eq_zero_or_pos len with rfl|hpos
  ·exact ⟨[.isl []],⟨[],rfl,Nat.zero_le _,fun el h=>(by cases h)⟩,rfl,rfl,AQ5 (X4.2 ⟨some a,cap,rfl,Nat.zero_le _,hcm,fun h=>absurd rfl h⟩) AY4 rfl⟩
  obtain ⟨ab,ao,asp⟩:=a
  have hsp:asp=none:=by
   obtain ⟨ds,y,hds,-⟩:=hget 0 hpos
   obtain ⟨-,hlen,hcell⟩:=World.cells?_some hds
   have hc0:=hcell 0 h3
   rw [List.getElem?_eq_getElem (by omega:0 < ds.length),Nat.zero_mul] at hc0
   have h8:=World.cell?_spot hc0
   simpa [Addr.add] using h8
  subst hsp
  have hx':∀ i,i < len→∃ el,Shp e el∧el.length=e.size∧ab < W.heap.size∧RC1 (RR (AA6 W)) el fun j=>W.cell? ⟨ab,ao+i * e.size+j,none⟩:=fun i hi=>by
   obtain ⟨ds,y,hds,hd⟩:=hget i hi
   obtain ⟨-,hlen,hcell⟩:=World.cells?_some hds
   obtain ⟨el,s1,s2,s3,s4⟩:=ih e' h1 n ds y hd
   have hcell':∀ j,j < e.size→W.cell? ⟨ab,ao+i * e.size+j,none⟩=ds[j]?:=fun j hj=>by
    have:=hcell j hj
    rwa [add_plain,add_plain] at this
   have hc0:=hcell' 0 h3
   rw [List.getElem?_eq_getElem (by omega:0 < ds.length)] at hc0
   have hbl:ab < W.heap.size:=by
    refine Classical.byContradiction fun hlt=>?_
    have hn:W.heap[ab]? = none:=by simp;omega
    simp [World.cell?,hn] at hc0
   refine ⟨el,s1,s2,hbl,s4.imp (fun _ _ h=>h) fun j u hu=>?_⟩
   have hj:j < ds.length:=(List.getElem?_eq_some_iff.1 hu).1
   rw [hcell' j (by omega)]
   exact hu
  obtain ⟨els,hl,hp⟩:=AM7 len hx'
  refine ⟨[.isl els],⟨els,rfl,by omega,fun el h=>?_⟩,rfl,rfl,AQ5 (X4.2 ⟨some ⟨ab,ao,none⟩,cap,by rw [hl],by omega,hcm,fun hne=>?_⟩) AY4 rfl⟩
  ·obtain ⟨i,hi⟩:=List.mem_iff_getElem?.1 h
   exact (hp i el hi).1
  ·obtain ⟨e0,he0⟩:∃ e0,els[0]? = some e0:=by
    cases els with
    | nil=>exact absurd rfl hne
    | cons y ys=>exact ⟨y,rfl⟩
   exact ⟨ab,ao,e.size,rfl,Aq3 (hp 0 e0 he0).2.2.1,fun k el hk=>⟨(hp k el hk).2.1,(hp k el hk).2.2.2⟩⟩
theorem read_all (T:Ty):Rd1 P enc spare held W T∧Rd2 P enc spare held W T:=by
 induction T with
 | bool =>
  refine ⟨fun t ht fuel cs x hx=>?_,fun off fs h=>by cases h⟩
  simp only [Ab7] at ht
  split at ht
  case h_2=>cases ht
  case h_1 he =>
  obtain ⟨b,rfl,-⟩:=DataW.trod_bool he hx
  exact ⟨[.bool b],⟨b,rfl⟩,rfl,rfl,AQ5 (RR_bool.2 rfl) one_bool rfl⟩
 | int k =>
  refine ⟨fun t ht fuel cs x hx=>?_,fun off fs h=>by cases h⟩
  simp only [Ab7] at ht
  split at ht
  case h_2=>cases ht
  case h_1 k' he =>
  obtain rfl:=of_decide_eq_true ht
  obtain ⟨n,rfl,-,hw⟩:=DataW.trod_int he hx
  exact ⟨[.int k n],⟨n,rfl,hw⟩,rfl,rfl,AQ5 (RR_int.2 rfl) BO9 rfl⟩
 | str =>
  refine ⟨fun t ht fuel cs x hx=>?_,fun off fs h=>by cases h⟩
  simp only [Ab7] at ht
  split at ht
  case h_2=>cases ht
  case h_1 he =>
  obtain ⟨s,rfl,-,hw⟩:=DataW.trod_string he hx
  exact ⟨[.str s],⟨s,rfl,hw⟩,rfl,rfl,AQ5 (RR_str.2 rfl) one_str rfl⟩
 | slice e ih=>exact ⟨BF3 ih.1,fun off fs h=>by cases h⟩
 | nil =>
  refine ⟨fun t ht=>(by cases ht),fun off fs h n cs hcs=>?_⟩
  exact ⟨[],rfl,rfl,fun j x hx=>by simp at hx⟩
 | cons a b iha ihb =>
  refine ⟨fun t ht=>(by cases ht),fun off fs h n cs hcs=>?_⟩
  cases fs with
  | nil=>cases h
  | cons f r =>
   simp only [Ab7,Bool.and_eq_true,decide_eq_true_eq] at h
   obtain ⟨⟨⟨h1,h2⟩,h3⟩,h4⟩:=h
   obtain ⟨x,hx⟩:=hcs 0 f rfl
   obtain ⟨ys,s1,s2,s3,s4⟩:=iha.1 f.type h3 n _ x hx
   obtain ⟨zs,r1,r2,r3⟩:=ihb.2 _ r h4 n cs fun i g hg=>hcs (i+1) g hg
   refine ⟨ys++zs,⟨ys,zs,rfl,s1,r1⟩,by simp [s2,r2,Ty.size],rc1_app (s4.imp (fun _ _ h=>h) fun j u hu=>?_) (r3.imp (fun _ _ h=>h) fun j u hu=>?_)⟩
   ·rw [List.getElem?_take] at hu
    split at hu
    ·rw [List.getElem?_drop,h1] at hu;exact hu
    ·cases hu
   ·rw [s2,← hu];congr 1;omega
 | struct T ih =>
  refine ⟨fun t ht fuel cs x hx=>?_,fun off fs h=>by cases h⟩
  simp only [Ab7] at ht
  split at ht
  case h_2=>cases ht
  case h_1 fs he =>
  simp only [Bool.and_eq_true,decide_eq_true_eq] at ht
  obtain ⟨h1,h2⟩:=ht
  obtain ⟨xs,n,-,-,hl,hxl,hf⟩:=DataW.trod_struct he hx
  obtain ⟨ys,s1,s2,s3⟩:=ih.2 0 fs.toList h2 n cs fun i f hfi=>by
   have hfi':fs[i]? = some f:=by simpa using hfi
   have hi:i < fs.size:=(Array.getElem?_eq_some_iff.1 hfi').1
   exact ⟨xs[i]'(by omega),by rw [hf i f hfi'];exact List.getElem?_eq_getElem _⟩
  exact ⟨ys,s1,s2,by rw [hl,h1,s2],s3.imp (fun _ _ h=>h) fun j u hu=>by simpa using hu⟩
 | arr k n =>
  refine ⟨fun t ht fuel cs x hx=>?_,fun off fs h=>by cases h⟩
  simp only [Ab7] at ht
  split at ht
  case h_2=>cases ht
  case h_1 n' e he =>
  simp only [Bool.and_eq_true,decide_eq_true_eq] at ht
  obtain ⟨⟨⟨h1,h2⟩,h3⟩,h4⟩:=ht
  subst h1
  split at h4
  case h_2=>cases h4
  case h_1 k' hk' =>
  obtain rfl:=of_decide_eq_true h4
  obtain ⟨xs,m,-,-,hcl,hn,hel⟩:=DataW.trod_array he hx
  have hget:∀ i,i < n'→∃ z:Int,cs[i]? = some (.int k z)∧(Lit.int k z).wf=true:=fun i hi=>by
   have h0:=hel i hi
   rw [h3,Nat.mul_one] at h0
   obtain ⟨y,hy⟩:∃ y,xs[i]? = some y:=⟨xs[i]'(by omega),List.getElem?_eq_getElem _⟩
   rw [hy] at h0
   obtain ⟨z,e1,-,e3⟩:=DataW.trod_int hk' h0
   refine ⟨z,?_,e3⟩
   have h5:((cs.drop i).take 1)[0]? = some (.int k z):=by rw [e1];rfl
   rwa [List.getElem?_take,if_pos (by omega),List.getElem?_drop,Nat.add_zero] at h5
  obtain ⟨l,hl,hp⟩:=AM7 n' hget
  refine ⟨l.map (AV.int k),⟨l,rfl,hl,fun x hx=>?_⟩,by simp [hl,Ty.size],by rw [hcl,h2];simp [hl],fun j y hy=>?_⟩
  ·obtain ⟨i,hi⟩:=List.mem_iff_getElem?.1 hx
   exact (hp i x hi).2
  ·rw [List.getElem?_map] at hy
   obtain ⟨z,hz,rfl⟩:=Option.map_eq_some_iff.1 hy
   exact ⟨_,(hp j z hz).1,RR_int.2 rfl,BO9⟩
def argV:Ty→List AV→AV
 | .struct _,xs=>.agg xs
 | .arr _ _,xs=>.agg xs
 | _,x::_=>x
 | _,[]=>.undef
theorem Ak1 {T:Ty} {xs:List AV} {v:Value} (hx:xs.length=1) (hv:v.cells.toList=[v]) (h:RC1 (RR (AA6 W)) xs fun j=>v.cells.toList[j]?):∃ x,xs=[x]∧RR (AA6 W) x v:=by
 match xs,hx with
 | [x],_ =>
  obtain ⟨u,hu,hr,-⟩:=h 0 x rfl
  rw [hv] at hu
  cases hu
  exact ⟨x,rfl,hr⟩
theorem arg_rr {T:Ty} {t:TypeId} {v:Value} {r:Reach} {base:Nat} {d:DataW H} {p:List MemPlace} (hT:(Ab7 P T).1 t=true) (hval:Value.okWide P W r base t v) (hd:DataW.Trod enc P W 0 spare held t v d p):∃ xs,Shp T xs∧RR (AA6 W) (argV T xs) v:=by
 obtain ⟨fuel,hf⟩:=hd
 obtain ⟨xs,s1,s2,s3,s4⟩:=(read_all T).1 t hT fuel _ _ hf
 refine ⟨xs,s1,?_⟩
 cases T with
 | nil=>cases hT
 | cons a b=>cases hT
 | bool =>
  simp only [Ab7] at hT
  split at hT
  case h_2=>cases hT
  case h_1 he =>
  obtain ⟨b,rfl⟩:=okWide_bool he hval
  obtain ⟨x,rfl,hr⟩:=Ak1 (T:=.bool) s2 rfl s4
  exact hr
 | int k =>
  simp only [Ab7] at hT
  split at hT
  case h_2=>cases hT
  case h_1 k' he =>
  obtain ⟨b,rfl⟩:=okWide_int he hval
  obtain ⟨x,rfl,hr⟩:=Ak1 (T:=.bool) s2 rfl s4
  exact hr
 | str =>
  simp only [Ab7] at hT
  split at hT
  case h_2=>cases hT
  case h_1 he =>
  obtain ⟨b,rfl⟩:=okWide_string he hval
  obtain ⟨x,rfl,hr⟩:=Ak1 (T:=.bool) s2 rfl s4
  exact hr
 | slice e =>
  simp only [Ab7] at hT
  split at hT
  case h_2=>cases hT
  case h_1 k' he =>
  obtain ⟨a,l,c,rfl⟩:=okWide_slice he hval
  obtain ⟨x,rfl,hr⟩:=Ak1 (T:=.bool) s2 rfl s4
  exact hr
 | struct T =>
  simp only [Ab7] at hT
  split at hT
  case h_2=>cases hT
  case h_1 fs he =>
  obtain ⟨cs,rfl,hcs⟩:=okWide_struct he hval
  exact U3.2 ⟨cs,rfl,by simpa [Value.cells] using s3,s4.imp (fun _ _ h=>h) fun j u hu=>by simpa [Value.cells] using hu⟩
 | arr k n =>
  simp only [Ab7] at hT
  split at hT
  case h_2=>cases hT
  case h_1 n' e he =>
  have hcs:∃ cs,v = .agg cs∧cs.size=P.cellsOf t:=by
   simp only [Value.okWide,he] at hval
   obtain ⟨cs,h1,h2,_⟩:=hval
   exact ⟨cs,h1,h2⟩
  obtain ⟨cs,rfl,hcs⟩:=hcs
  exact U3.2 ⟨cs,rfl,by simpa [Value.cells] using s3,s4.imp (fun _ _ h=>h) fun j u hu=>by simpa [Value.cells] using hu⟩
def BD7:List Ty→List (List AV)→Prop
 | [],[]=>True
 | T::Ts,xs::r=>Shp T xs∧BD7 Ts r
 | _,_=>False
def tysOk (P:Program):List Ty→List TypeId→Bool
 | [],[]=>true
 | T::Ts,t::ts=>(Ab7 P T).1 t && tysOk P Ts ts
 | _,_=>false
def BU8:List Ty→List (List AV)→List AV
 | T::Ts,xs::r=>argV T xs::BU8 Ts r
 | _, _ => []
theorem BU7 {r:Reach} {base:Nat}:∀ {Ts:List Ty} {ts:List TypeId} {vs:List Value} {ds:List (DataW H)} {ps:List MemPlace},tysOk P Ts ts=true→(∀ (j:Nat) t v,ts[j]? = some t→vs[j]? = some v→Value.okWide P W r base t v) →
  DataW.TrodAll enc P W 0 spare held ts vs ds ps→∃ xss,BD7 Ts xss∧vs.length=(BU8 Ts xss).length∧RCs (RR (AA6 W)) (BU8 Ts xss) fun j=>vs[j]?
 | [],[],vs,ds,ps,_,_,hd=>by
  obtain ⟨rfl,rfl,rfl⟩:=trodAll_nil hd
  exact ⟨[],trivial,rfl,fun j x hx=>by cases hx⟩
 | T::Ts,t::ts,vs,ds,ps,hT,hv,hd=>by
  obtain ⟨v,vs',d,ds',p,q,rfl,rfl,rfl,h1,h2⟩:=trodAll_cons hd
  simp only [tysOk,Bool.and_eq_true] at hT
  obtain ⟨xs,s1,s2⟩:=arg_rr hT.1 (hv 0 t v rfl rfl) h1
  obtain ⟨xss,r1,r2,r3⟩:=BU7 hT.2 (fun j t v h h'=>hv (j+1) t v h h') h2
  refine ⟨xs::xss,⟨s1,r1⟩,by simp [BU8,r2],fun j x hx=>?_⟩
  cases j with
  | zero=>cases hx;exact ⟨v,rfl,s2⟩
  | succ j=>exact r3 j x hx
theorem Aq4 (hl:laidOutB P=true) {W':World} (hb:Below W.heap.size W W') {sp:Nat→Bool}:∀ {ts:List TypeId} {vs:List Value} {ds:List (DataW H)} {ps:List MemPlace},(∀ t ∈ ts,P.readableRec t=true∧t < P.types.size) →
  DataW.TrodAll enc P W 0 (fun _=>true) true ts vs ds ps→(∀ x ∈ ps,x.block < W.heap.size)→(∀ x ∈ ps,sp x.block=true)→DataW.TrodAll enc P W' 0 sp true ts vs ds ps
 | [],vs,ds,ps,_,hd,_,_=>by
  obtain ⟨rfl,rfl,rfl⟩:=trodAll_nil hd
  rfl
 | t::ts,vs,ds,ps,ht,hd,hlt,hsp=>by
  obtain ⟨v,vs',d,ds',p,q,rfl,rfl,rfl,h1,h2⟩:=trodAll_cons hd
  have ht0:=ht t (by simp)
  exact ⟨p,q,WideElems.Trod_stays hl ht0.1 ht0.2 h1 (fun x hx=>hb.same (hlt x (by simp [hx]))) (fun x hx=>hsp x (by simp [hx])),Aq4 hl hb (fun t' h'=>ht t' (by simp [h'])) h2 (fun x hx=>hlt x (by simp [hx])) (fun x hx=>hsp x (by simp [hx])),rfl⟩
end
end Go.Am
namespace Go.Proofs.Ytbhgfoikbkaohaa
open Go Go.Am Go.Pol
open Go.ChangeShapes Go.WideShapes Go.ChangeAt Go.WideElems Go.RowKit
theorem own:ownKnob Try.prog.godebug=none:=by kernel_rfl
theorem glo (c:Cx):AL4 G0 c:=fun n cs h=>by cases h
theorem map_of {α:Type} {f:α→List AV} {q:α→Prop}:∀ {els:List (List AV)},(∀ el ∈ els,∃ c,el=f c∧q c)→∃ l:List α,els=l.map f∧∀ c ∈ l,q c
 | [],_=>⟨[],rfl,fun c hc=>by cases hc⟩
 | el::els,h=>by
  obtain ⟨c,rfl,hq⟩:=h el (List.mem_cons_self ..)
  obtain ⟨l,rfl,hl⟩:=map_of fun e he=>h e (List.mem_cons_of_mem _ he)
  exact ⟨c::l,rfl,fun d hd=>(List.mem_cons.1 hd).elim (fun e=>e▸hq) (hl d)⟩
theorem wf_u8 {n:Int} (h:(Lit.int .u8 n).wf=true):∃ m:Nat,n=(m:Int)∧m < 256:=by
 simp [Lit.wf,IntKind.min,IntKind.max,IntKind.signed,IntKind.bits] at h
 exact ⟨n.toNat,by omega,by omega⟩
def i64 (n:Int):Prop:=-9223372036854775808≤n∧n≤9223372036854775807
theorem shp_one {T:Ty}:∀ {xss:List (List AV)},BD7 [T] xss→∃ xs,xss=[xs]∧Shp T xs
 | [xs],h=>⟨xs,rfl,h.1⟩
 | [],h=>h.elim
 | _::_::_,h=>h.2.elim
def rlT:Ty:=.struct (.cons (.int .i64) (.cons (.int .i64) (.cons (.int .i64) (.cons (.int .i64) .nil))))
def planT:Ty:=.struct (.cons (.slice rlT) .nil)
def actT:Ty:=.struct (.cons (.int .u8) (.cons (.int .i64) (.cons (.int .i64) (.cons (.int .i64) (.cons (.int .u8) (.cons planT .nil))))))
def okA (x:SAc):Prop:=0≤x.w∧0≤x.v∧x.v < 256
theorem shp_rl {xs:List AV} (h:Shp rlT xs):∃ x:Rl,xs=rlA x:=by
 obtain ⟨y1,z1,rfl,⟨a,rfl,-⟩,y2,z2,rfl,⟨b,rfl,-⟩,y3,z3,rfl,⟨c,rfl,-⟩,y4,z4,rfl,⟨d,rfl,-⟩,rfl⟩:=h
 exact ⟨⟨a,b,c,d⟩,rfl⟩
theorem shp_plan {xs:List AV} (h:Shp planT xs):∃ l:List Rl,xs=[AV.isl (l.map rlA)]:=by
 obtain ⟨y1,z1,rfl,⟨els,rfl,hl,he⟩,rfl⟩:=h
 obtain ⟨l,rfl,-⟩:=map_of (f:=rlA) (q:=fun _=>True) fun el hel=>(shp_rl (he el hel)).imp fun _ h=>⟨h,trivial⟩
 exact ⟨l,rfl⟩
theorem shp_act {xs:List AV} (h:Shp actT xs):∃ x:SAc,xs=sacE x∧okA x:=by
 obtain ⟨y1,z1,rfl,⟨w,rfl,hw⟩,y2,z2,rfl,⟨p,rfl,-⟩,y3,z3,rfl,⟨n,rfl,-⟩,y4,z4,rfl,⟨t,rfl,-⟩,y5,z5,rfl,⟨b,rfl,hb⟩,y6,z6,rfl,h6,rfl⟩:=h
 obtain ⟨m,rfl,hm⟩:=wf_u8 hw
 obtain ⟨v,rfl,hv⟩:=wf_u8 hb
 obtain ⟨l,rfl⟩:=shp_plan h6
 exact ⟨⟨(m:Nat),p,n,t,(v:Nat),l⟩,rfl,Int.natCast_nonneg m,Int.natCast_nonneg v,by show ((v:Nat):Int) < 256;omega⟩
end Go.Proofs.Ytbhgfoikbkaohaa
