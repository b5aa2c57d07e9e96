/-
 The document's store: its memory.
 Several slices of their own that grow: they stand one behind the other at the heap's end. No program in sight.
 A call that makes one block,in a region that draws its order;a call that reads alone. No program in sight.
 The runs of the program: its iterator,collected.
 Pages' bytes as wholes: compared,written,read.
 A store's inner calls: is,stated,numbers,the bytes of a frame.
 A store's inner calls: the first free frame,the first slot.
 A function that sorts a slice of numbers,told by its contract over memory: as a contract over a store of its own. In-place appends. No program in sight.
 The iterators over a map by its keys,and the sort: their code.
-/
import Derived.Test.YtbhgfoikbkaohaaGreatQan
import Derived.Sort.Grow
set_option linter.unusedSimpArgs false
set_option linter.unusedVariables false
set_option maxHeartbeats 800000
namespace Go.Pol
open Go.Am Go.Proofs.YtbhgfoikbkaohaaGreat.Sh
def rfF (F T Z:Nat→Int) (D:Nat→Nat→Int) (i:Nat):AV:=if i < 256 then .int .i64 (F i) else if i < 512 then .int .i64 (T (i - 256)) else if i < 768 then .int .i64 (Z (i - 512)) else .int .u8 (D ((i - 768) / 64) ((i - 768) % 64))
def rfC (s:Nat) (q:Sw):List AV:=.ptr s 0 :: .int .i64 (q.a:Nat) :: .int .i64 (q.n:Nat) :: .int .i64 (q.pg:Nat) :: .int .i64 (q.sl:Nat)::(memA 17152 (rfF q.F q.T q.Z q.D)++[.int .i64 q.ins,.int .i64 q.outs])
theorem rfF_plain {F T Z:Nat→Int} {D:Nat→Nat→Int} {i:Nat}:Plain (rfF F T Z D i):=by
 unfold rfF
 repeat' split
 all_goals exact A8
section
variable {s:Nat} {q:Sw}
theorem AA5:(rfC s q).length=17159:=by
 unfold rfC
 simp only [List.length_cons,List.length_append,R4,List.length_nil]
theorem rf_0:(rfC s q)[0]? = some (.ptr s 0):=rfl
theorem rf_1:(rfC s q)[1]? = some (.int .i64 (q.a:Nat)):=rfl
theorem rf_2:(rfC s q)[2]? = some (.int .i64 (q.n:Nat)):=rfl
theorem rf_3:(rfC s q)[3]? = some (.int .i64 (q.pg:Nat)):=rfl
theorem rf_4:(rfC s q)[4]? = some (.int .i64 (q.sl:Nat)):=rfl
theorem Aq1 {i:Nat} (h:i < 17152):(rfC s q)[5+i]? = some (rfF q.F q.T q.Z q.D i):=by
 rw [show 5+i=i+1+1+1+1+1 by omega]
 unfold rfC
 simp only [List.getElem?_cons_succ]
 rw [List.getElem?_append_left (by rw [R4];exact h),M7 h]
theorem rf_set {i:Nat} {v:AV} {q':Sw} (h:i < 17152) (e0:q'.a=q.a∧q'.n=q.n∧q'.pg=q.pg∧q'.sl=q.sl∧q'.ins=q.ins∧q'.outs=q.outs) (e:∀ j,j < 17152→rfF q'.F q'.T q'.Z q'.D j=if j=i then v else rfF q.F q.T q.Z q.D j):(rfC s q).set (5+i) v=rfC s q':=by
 obtain ⟨e1,e2,e3,e4,e5,e6⟩:=e0
 rw [show 5+i=i+1+1+1+1+1 by omega]
 unfold rfC
 simp only [List.set_cons_succ]
 rw [List.set_append_left _ _ (by rw [R4];exact h),AT1,e1,e2,e3,e4,e5,e6]
 have : memA 17152 (fun j=>if j=i then v else rfF q.F q.T q.Z q.D j)=memA 17152 (rfF q'.F q'.T q'.Z q'.D):=AB1 fun j hj=>(e j hj).symm
 rw [this]
theorem rf_F {p:Nat} (h:p < 256):(rfC s q)[5+p]? = some (.int .i64 (q.F p)):=by
 rw [Aq1 (by omega)];unfold rfF;rw [if_pos h]
theorem rf_T {p:Nat} (h:p < 256):(rfC s q)[261+p]? = some (.int .i64 (q.T p)):=by
 rw [show 261+p=5+(256+p) by omega,Aq1 (by omega)];unfold rfF
 rw [if_neg (by omega),if_pos (by omega),Nat.add_sub_cancel_left]
theorem rf_Z {p:Nat} (h:p < 256):(rfC s q)[517+p]? = some (.int .i64 (q.Z p)):=by
 rw [show 517+p=5+(512+p) by omega,Aq1 (by omega)];unfold rfF
 rw [if_neg (by omega),if_neg (by omega),if_pos (by omega),Nat.add_sub_cancel_left]
theorem Aj7 {p:Nat} {v:Int} (h:p < 256):(rfC s q).set (5+p) (.int .i64 v)=rfC s { q with F:=E9 q.F p v }:=by
 refine rf_set (by omega) ⟨rfl,rfl,rfl,rfl,rfl,rfl⟩ fun j hj=>?_
 unfold rfF
 by_cases e:j=p
 ·subst e;rw [if_pos h,if_pos rfl];show AV.int .i64 (if j=j then v else q.F j)=_;rw [if_pos rfl]
 ·rw [if_neg e]
  split
  ·dsimp only;rw [show E9 q.F p v j=q.F j from upd_ne e]
  ·rfl
theorem Aj6 {p:Nat} {v:Int} (h:p < 256):(rfC s q).set (261+p) (.int .i64 v)=rfC s { q with T:=E9 q.T p v }:=by
 rw [show 261+p=5+(256+p) by omega]
 refine rf_set (by omega) ⟨rfl,rfl,rfl,rfl,rfl,rfl⟩ fun j hj=>?_
 unfold rfF
 by_cases e:j=256+p
 ·subst e;rw [if_neg (by omega),if_pos (by omega),if_pos rfl,Nat.add_sub_cancel_left];show AV.int .i64 (if p=p then v else q.T p)=_;rw [if_pos rfl]
 ·rw [if_neg e]
  split
  ·rfl
  ·split
   ·dsimp only;rw [show E9 q.T p v (j - 256)=q.T (j - 256) from upd_ne (by omega)]
   ·rfl
theorem BI7 {p:Nat} {v:Int} (h:p < 256):(rfC s q).set (517+p) (.int .i64 v)=rfC s { q with Z:=E9 q.Z p v }:=by
 rw [show 517+p=5+(512+p) by omega]
 refine rf_set (by omega) ⟨rfl,rfl,rfl,rfl,rfl,rfl⟩ fun j hj=>?_
 unfold rfF
 by_cases e:j=512+p
 ·subst e;rw [if_neg (by omega),if_neg (by omega),if_pos (by omega),if_pos rfl,Nat.add_sub_cancel_left];show AV.int .i64 (if p=p then v else q.Z p)=_;rw [if_pos rfl]
 ·rw [if_neg e]
  split
  ·rfl
  ·split
   ·rfl
   ·split
    ·dsimp only;rw [show E9 q.Z p v (j - 512)=q.Z (j - 512) from upd_ne (by omega)]
    ·rfl
theorem rf_D {k:Nat} (h:k < 256):((rfC s q).drop (773+k * 64)).take 64=bcA (q.D k):=by
 refine List.ext_getElem? fun i=>?_
 by_cases hi:i < 64
 ·rw [List.getElem?_take_of_lt hi,List.getElem?_drop,show 773+k * 64+i=5+(768+k * 64+i) by omega,Aq1 (by omega)]
  unfold bcA rfF
  rw [M7 hi,if_neg (by omega),if_neg (by omega),if_neg (by omega),show (768+k * 64+i - 768) / 64=k by omega,show (768+k * 64+i - 768) % 64=i by omega]
 ·rw [List.getElem?_eq_none (by rw [List.length_take];omega),List.getElem?_eq_none (by rw [S9];omega)]
theorem BQ9:∀ (vs cs:List AV) (o j:Nat),o+vs.length≤cs.length→(over cs o vs)[j]? = if o≤j∧j < o+vs.length then vs[j - o]? else cs[j]?
 | [],cs,o,j,_=>by show cs[j]? = _;rw [if_neg (by rw [List.length_nil];omega)]
 | v::vs,cs,o,j,h=>by
  show (over (cs.set o v) (o+1) vs)[j]? = _
  rw [List.length_cons] at h ⊢
  rw [BQ9 vs (cs.set o v) (o+1) j (by rw [List.length_set];omega),List.getElem?_set]
  by_cases e:o=j
  ·subst e;rw [if_neg (by omega),if_pos rfl,if_pos (by omega),if_pos (by omega),Nat.sub_self];rfl
  ·by_cases h1:o+1≤j∧j < o+1+vs.length
   ·rw [if_pos h1,if_pos (by omega),show j - o=(j - (o+1))+1 by omega];rfl
   ·rw [if_neg h1,if_neg e,if_neg (by omega)]
theorem updP_self {D:Nat→Nat→Int} {k j:Nat} {x:Nat→Int} (h:j=k):AF5 D k x j=x:=if_pos h
theorem updP_ne {D:Nat→Nat→Int} {k j:Nat} {x:Nat→Int} (h:j ≠ k):AF5 D k x j=D j:=if_neg h
theorem rf_low {j:Nat} {D':Nat→Nat→Int} (h:j < 5):(rfC s q)[j]? = (rfC s { q with D:=D' })[j]?:=by
 unfold rfC
 rcases (show j=0∨j=1∨j=2∨j=3∨j=4 by omega) with rfl|rfl|rfl|rfl|rfl
 all_goals simp only [List.getElem?_cons_zero,List.getElem?_cons_succ,Nat.reduceAdd]
theorem BP4 {m:Nat}:(rfC s q)[5+(17152+m)]? = [AV.int .i64 q.ins,.int .i64 q.outs][m]?:=by
 rw [show 5+(17152+m)=(17152+m)+1+1+1+1+1 by omega]
 unfold rfC
 simp only [List.getElem?_cons_succ]
 rw [List.getElem?_append_right (by rw [R4];omega),R4,Nat.add_sub_cancel_left]
theorem rf_high {m:Nat} {D':Nat→Nat→Int}:(rfC s q)[5+(17152+m)]? = (rfC s { q with D:=D' })[5+(17152+m)]?:=by
 rw [BP4,BP4]
theorem rf_midD {i k:Nat} {x:Nat→Int} (h:k < 256) (hi:i < 17152):(if 773+k * 64≤5+i∧5+i < 773+k * 64+64 then (bcA x)[5+i - (773+k * 64)]? else some (rfF q.F q.T q.Z q.D i))=some (rfF q.F q.T q.Z (AF5 q.D k x) i):=by
 by_cases hb:773+k * 64≤5+i∧5+i < 773+k * 64+64
 ·rw [if_pos hb]
  unfold bcA rfF
  rw [M7 (by omega),if_neg (by omega),if_neg (by omega),if_neg (by omega),updP_self (by omega),show (i - 768) % 64=5+i - (773+k * 64) by omega]
 ·rw [if_neg hb]
  unfold rfF
  by_cases h1:i < 256
  ·rw [if_pos h1,if_pos h1]
  ·rw [if_neg h1,if_neg h1]
   by_cases h2:i < 512
   ·rw [if_pos h2,if_pos h2]
   ·rw [if_neg h2,if_neg h2]
    by_cases h3:i < 768
    ·rw [if_pos h3,if_pos h3]
    ·rw [if_neg h3,if_neg h3,updP_ne (by omega)]
theorem rf_setD {k:Nat} {x:Nat→Int} (h:k < 256):over (rfC s q) (773+k * 64) (bcA x)=rfC s { q with D:=AF5 q.D k x }:=by
 refine List.ext_getElem? fun j=>?_
 rw [BQ9 _ _ _ _ (by rw [S9,AA5];omega),S9]
 by_cases hj:j < 5
 ·rw [if_neg (by omega)]
  exact rf_low hj
 ·obtain ⟨i,rfl⟩:∃ i,j=5+i:=⟨j - 5,by omega⟩
  by_cases hi:i < 17152
  ·rw [Aq1 hi,Aq1 hi]
   exact rf_midD h hi
  ·rw [if_neg (by omega)]
   obtain ⟨m,rfl⟩:∃ m,i=17152+m:=⟨i - 17152,by omega⟩
   exact rf_high
theorem rf_ins {o:Nat} (h:o=17157):(rfC s q)[o]? = some (.int .i64 q.ins):=by rw [h];exact BP4 (m:=0)
theorem rf_outs {o:Nat} (h:o=17158):(rfC s q)[o]? = some (.int .i64 q.outs):=by rw [h];exact BP4 (m:=1)
theorem rf_insE {o:Nat} (h:o=17157) {x:Int} (e:q.ins=x):(rfC s q)[o]? = some (.int .i64 x):=by rw [← e];exact rf_ins h
theorem rf_outsE {o:Nat} (h:o=17158) {x:Int} (e:q.outs=x):(rfC s q)[o]? = some (.int .i64 x):=by rw [← e];exact rf_outs h
theorem rf_FE {p:Nat} (h:p < 256) {x:Int} (e:q.F p=x):(rfC s q)[5+p]? = some (.int .i64 x):=by rw [← e];exact rf_F h
theorem rf_TE {p:Nat} (h:p < 256) {x:Int} (e:q.T p=x):(rfC s q)[261+p]? = some (.int .i64 x):=by rw [← e];exact rf_T h
theorem BA8 {m:Nat} {v:AV}:(rfC s q).set (5+(17152+m)) v = .ptr s 0 :: .int .i64 (q.a:Nat) :: .int .i64 (q.n:Nat) :: .int .i64 (q.pg:Nat) :: .int .i64 (q.sl:Nat)::(memA 17152 (rfF q.F q.T q.Z q.D)++[AV.int .i64 q.ins,.int .i64 q.outs].set m v):=by
 rw [show 5+(17152+m)=(17152+m)+1+1+1+1+1 by omega]
 unfold rfC
 simp only [List.set_cons_succ]
 rw [List.set_append_right _ _ (by rw [R4];omega),R4,Nat.add_sub_cancel_left]
theorem rf_setIns {o:Nat} (h:o=17157) {v:Int}:(rfC s q).set o (.int .i64 v)=rfC s { q with ins:=v }:=by rw [h];exact BA8 (m:=0)
theorem BX0 {o:Nat} (h:o=17158) {v:Int}:(rfC s q).set o (.int .i64 v)=rfC s { q with outs:=v }:=by rw [h];exact BA8 (m:=1)
end
end Go.Pol
namespace Go.Am
section
variable {α:Type} {f:α→List AV} {L:List α} {d i:Nat} {r:List (Nat × AObj)}
theorem del_tS {k:List (Nat × AObj)→Prop} (h:BG5 r d k):BG5 (AE4 d f L++r) d k:=by
 by_cases hz:L.length=0
 ·rw [AQ8 hz];exact h
 ·rw [AI2 hz];simp only [List.cons_append,List.nil_append,BG5];rw [show Nat.beq d d=true by simp];exact h
theorem del_tO {k:List (Nat × AObj)→Prop} (hi:Nat.beq i d=false) (h:BG5 r i fun r'=>k (AE4 d f L++r')):BG5 (AE4 d f L++r) i k:=by
 by_cases hz:L.length=0
 ·rw [AQ8 hz] at h ⊢;exact h
 ·rw [AI2 hz] at h ⊢;simp only [List.cons_append,List.nil_append,BG5,hi] at h ⊢;exact h
theorem Au8 (hz:L.length=0):lk (AE4 d f L++r) i=lk r i:=by rw [AQ8 hz];rfl
theorem lk_tA {r':List (Nat × AObj)} (h:i ≠ d):lk (r'++AE4 d f L) i=lk r' i:=by
 by_cases hz:L.length=0
 ·rw [AQ8 hz,List.append_nil]
 ·rw [AI2 hz]
  induction r' with
  | nil=>simp [lk,h]
  | cons p r' ih=>obtain ⟨j,o⟩:=p;simp only [List.cons_append,lk];rw [ih]
theorem AN9 (h:i ≠ d):lk (AE4 d f L) i=none:=by
 have:=lk_tA (f:=f) (L:=L) (r':=[]) h
 exact this
theorem del_n {k:List (Nat × AObj)→Prop} (h:k []):BG5 [] i k:=h
end
structure TlO (P:Program) (σ:Nat→Nat) (h h':Hp) (ks:List Nat) (tl:List (Nat × AObj)):Prop where
 key:∀ j o,lk tl j=some o→j ∈ ks
 sub:∀ j o,lk tl j=some o→∃ o',lk h.l (σ j)=some o'
 wko:AH3 σ h h'→WkO P σ h h' tl
section
variable {P:Program} {σ:Nat→Nat} {h h':Hp} {ks:List Nat} {r:List (Nat × AObj)} {α:Type} {f:α→List AV} {L:List α} {i n:Nat}
theorem tl_nil:TlO P σ h h' [] []:=⟨fun j o hj=>(by cases hj),fun j o hj=>(by cases hj),fun _=>I5⟩
theorem Ai6 (hp:∀ c,∀ x ∈ f c,Plain x) (h4:Nat.blt i h'.next=true) (h3:L.length ≠ 0→lk h.l (σ i)=some (.cells (flat f L))) (hr:TlO P σ h h' ks r):TlO P σ h h' (i::ks) (AE4 i f L++r):=by
 refine ⟨fun j o hj=>?_,fun j o hj=>?_,fun hs=>Ab4 (wko_own (Ao0 h4) hp hs h3) (hr.wko hs)⟩
 ·rcases Af0 hj with hj|hj
  ·obtain ⟨rfl,_⟩:=AM7 hj;exact List.mem_cons_self ..
  ·exact List.mem_cons_of_mem _ (hr.key j o hj)
 ·rcases Af0 hj with hj|hj
  ·obtain ⟨rfl,hz⟩:=AM7 hj;exact ⟨_,h3 hz⟩
  ·exact hr.sub j o hj
theorem lk_keys:∀ {ks:List Nat} {j:Nat},j ∈ ks→∃ o,lk (ks.map fun k=>(k,AObj.cells [])) j=some o
 | k::ks,j,hj=>by
  simp only [List.map_cons,lk]
  by_cases e:j=k
  ·exact ⟨_,if_pos e⟩
  ·rw [if_neg e]
   rcases List.mem_cons.1 hj with e2|hj
   ·exact absurd e2 e
   ·exact lk_keys hj
theorem lk_up2 {tl:List (Nat × AObj)} (hk:∀ j o,lk tl j=some o→j ∈ ks) {j:Nat} {o:AObj}:∀ {l0:List (Nat × AObj)},lk (l0++tl) j=some o→∃ o',lk (l0++ks.map fun k=>(k,AObj.cells [])) j=some o'
 | [],hj=>lk_keys (hk j o hj)
 | (q,x)::l0,hj=>by
  simp only [List.cons_append,lk] at hj ⊢
  split
  ·exact ⟨_,rfl⟩
  ·rename_i e;rw [if_neg e] at hj;exact lk_up2 hk hj
theorem weak_t {ren:List (Nat × Nat)} {sf sf':SF} {l0 tl:List (Nat × AObj)} {nx:Nat} (h1:Ab1 ((l0.map fun p=>rn ren p.1)++ks.map (rn ren))=true) (h2:subB (rn ren) h.l l0=true) (ht:TlO P (rn ren) h ⟨l0++tl,nx⟩ ks tl)
  (hf:AH3 (rn ren) h ⟨l0++tl,nx⟩→WkF P (rn ren) h ⟨l0++tl,nx⟩ sf sf') (ho:AH3 (rn ren) h ⟨l0++tl,nx⟩→WkO P (rn ren) h ⟨l0++tl,nx⟩ l0):Ay2 P ren n sf h sf' ⟨l0++tl,nx⟩:=by
 have hs:AH3 (rn ren) h ⟨l0++tl,nx⟩:=fun j o hj=>by
  rcases Af0 hj with hj|hj
  ·exact AP8 (h:=h) (h':=⟨l0,nx⟩) h2 j o hj
  ·exact ht.sub j o hj
 have h5:Ay3 (rn ren) (l0++ks.map fun k=>(k,AObj.cells [])):=O7 (by rw [List.map_append,List.map_map];exact h1)
 have h6:Ay3 (rn ren) (l0++tl):=fun a b o o' ha hb e=>by
  obtain ⟨_,ha⟩:=lk_up2 ht.key ha
  obtain ⟨_,hb⟩:=lk_up2 ht.key hb
  exact h5 a b _ _ ha hb e
 exact ⟨Ai1 h6 (AG3 (X3 (hf hs))) (Ab4 (ho hs) (ht.wko hs))⟩
end
end Go.Am
namespace Go.Am
section
variable {P:Program} {G:Gl}
def oneMore (ns:List Nat) (id i j:Nat):Prop:=ns[i]? = some j∨(i=ns.length∧j=id)
theorem fnU_new {f:Nat} {args args0 cs cs':List AV} {r r':AV} {at_:At} {id:Nat} (ns:List Nat) (hc:AU0 P G f args0 [] ns.length fun x h1=>x=r∧h1=⟨[(ns.length,.cells cs)],ns.length+1⟩) (hGp:AO8 G) (hin:∀ n ∈ ns,∃ o,at_ n=some o)
  (ha:RnL (enter ns) args args0) (hr:RnV (oneMore ns id) r r') (hcs:RnL (oneMore ns id) cs cs'):FnU P G f args ns at_ r' [(id,some (.cells cs'))] id:=by
 refine ⟨hc.1,fun c vs hR hG hid hat hargs=>?_⟩
 let c0:Cx:={ U:=fun i=>i < ns.length,at_:=lk [],mu:=fun i=>c.mu (ns.getD i 0),w:=c.w,hid:=fun b=>c.hid b∨∃ id o,c.at_ id=some o∧(c.mu id).1=b }
 have getD_:∀ {j n},ns[j]? = some n→ns.getD j 0=n:=fun {j n} e=>by simp [List.getD_eq_getElem?_getD,e]
 have hlt':∀ {j n},ns[j]? = some n→j < ns.length:=fun {j n} e=>(List.getElem?_eq_some_iff.1 e).1
 have hcU:∀ {j n},ns[j]? = some n→c.U n:=fun {j n} e=>by
  have hm:=List.mem_of_getElem? e
  obtain ⟨o,ho⟩:=hin n hm
  exact hR.used _ _ ((hat n hm).trans ho)
 have sub0:Sub (enter ns) c c0 :=
  ⟨fun i j (hij:ns[j]? = some i) _=>⟨hlt' hij,by show c.mu (ns.getD j 0)=_;rw [getD_ hij]⟩,rfl,fun b hb=>⟨hb.1,fun j o ho=>(by cases ho),fun hh=>hh.elim hb.3 fun ⟨i,o,ho,e⟩=>hb.2 i o ho e⟩⟩
 have hR0:Rel P c0:=⟨fun j o ho=>(by cases ho),fun j j' o o' ho _ _=>(by cases ho),fun j o ho=>(by cases ho),⟨ns.length,fun i hi=>hi⟩,fun j o ho=>(by cases ho),fun b hb=>hb.elim (hR.hidlt b) fun ⟨i,o,ho,e⟩=>e▸(hR.obj i o ho).lt⟩
 have hG0:AT9 G c0:=fun n cs hn=>F5 (AH0 (hGp n cs hn)) c c0 _ sub0 (hG n cs hn)
 have hm0:Mat c0 ⟨[],ns.length⟩:=⟨rfl,fun i=>Iff.rfl⟩
 have ha0:AF4 c0 args0 vs:=⟨by rw [hargs.1,ha.spec.1],ha.rcs sub0 hargs.2⟩
 refine (hc.2 c0 _ hR0 hG0 hm0 ha0).mono ?_
 rintro e w' ⟨v,rfl,x,h1,c2,rfl,⟨rfl,rfl⟩,hrv,hR2,hm2,he2⟩
 have hk2:c2.at_ ns.length=some (.cells cs):=by rw [hm2.at_];simp [lk]
 have hkU:c2.U ns.length:=hR2.used _ _ hk2
 have hnid:∀ {j},c.U j→j ≠ id:=fun h e=>hid (e▸h)
 let c':Cx:={ U:=fun i=>c.U i∨i=id,at_:=upd c.at_ [(id,some (.cells cs'))],mu:=fun i=>if i=id then c2.mu ns.length else c.mu i,w:=c2.w,hid:=c.hid }
 have muO:∀ {j},j ≠ id→c'.mu j=c.mu j:=fun h=>if_neg h
 have muI:c'.mu id=c2.mu ns.length:=if_pos rfl
 have spec1:∀ j o,c'.at_ j=some o→(j ≠ id∧c.at_ j=some o)∨(j=id∧o = .cells cs'):=fun j o ho=>by
  have ho':(if j=id then some (AObj.cells cs') else c.at_ j)=some o:=ho
  split at ho'
  ·rename_i e;cases ho';exact .inr ⟨e,rfl⟩
  ·rename_i e;exact .inl ⟨e,ho'⟩
 have hidO:∀ j o,c.at_ j=some o→c2.hid (c.mu j).1:=fun j o ho=>(he2.hid _).2 (.inr ⟨j,o,ho,rfl⟩)
 have hidC:∀ b,c.hid b→c2.hid b:=fun b hb=>(he2.hid b).2 (.inl hb)
 have hfroz:∀ b,c2.Froz b→c'.Froz b:=fun b hb=>by
  refine ⟨hb.1,fun j o ho=>?_,fun hh=>hb.3 (hidC b hh)⟩
  rcases spec1 j o ho with ⟨k1,k2⟩ | ⟨rfl,_⟩
  ·rw [muO k1];exact fun e=>hb.3 (e▸hidO j o k2)
  ·rw [muI];exact hb.2 _ _ hk2
 have sub1:Sub (oneMore ns id) c2 c':=by
  refine ⟨fun i j hij hi=>?_,rfl,hfroz⟩
  rcases hij with e | ⟨rfl,rfl⟩
  ·refine ⟨.inl (hcU e),?_⟩
   rw [muO (hnid (hcU e)),he2.mu i (hlt' e)]
   show c.mu j=c.mu (ns.getD i 0)
   rw [getD_ e]
  ·exact ⟨.inr rfl,muI⟩
 have he:Ext c c':=by
  refine ⟨fun i hi=>.inl hi,fun i hi=>muO (hnid hi),he2.csz,fun b hb=>?_,he2.size,fun _=>Iff.rfl,fun b hb=>he2.hidh b (.inl hb),he2.env⟩
  have k:=he2.froz b (sub0.froz b hb)
  exact ⟨hfroz b k.1,k.2⟩
 refine ⟨v,c',rfl,rfl,hr c2 c' v sub1 hrv,?_,he,rfl,fun i=>?_⟩
 ·refine ⟨fun j o ho=>?_,fun j j' o o' ho ho' e=>?_,fun j o ho=>?_,?_,fun j o ho hh=>?_,fun b hb=>Nat.lt_of_lt_of_le (hR.hidlt b hb) he2.size⟩
  ·rcases spec1 j o ho with ⟨k1,k2⟩ | ⟨rfl,_⟩
   ·exact .inl (hR.used j o k2)
   ·exact .inr rfl
  ·rcases spec1 j o ho with ⟨k1,k2⟩ | ⟨rfl,_⟩
   ·rcases spec1 j' o' ho' with ⟨k1',k2'⟩ | ⟨rfl,_⟩
    ·rw [muO k1,muO k1'] at e;exact hR.inj j j' _ _ k2 k2' e
    ·rw [muO k1,muI] at e;exact absurd (e▸hidO j o k2) (hR2.nohid _ _ hk2)
   ·rcases spec1 j' o' ho' with ⟨k1',k2'⟩ | ⟨rfl,_⟩
    ·rw [muO k1',muI] at e;exact absurd (e▸hidO j' o' k2') (hR2.nohid _ _ hk2)
    ·rfl
  ·rcases spec1 j o ho with ⟨k1,k2⟩ | ⟨rfl,rfl⟩
   ·rw [muO k1];exact (hR.obj j o k2).ext he (he2.hidh _ (.inr ⟨j,o,k2,rfl⟩))
   ·rw [muI]
    obtain ⟨a,T,q1,q2⟩:=hR2.obj _ _ hk2
    exact ⟨a,T,q1,hcs.rc1 sub1 q2⟩
  ·obtain ⟨N,hN⟩:=hR.many
   exact ⟨max N (id+1),fun i hi=>hi.elim (fun h=>Nat.lt_of_lt_of_le (hN i h) (Nat.le_max_left ..)) fun h=>by subst h;exact Nat.lt_of_lt_of_le (Nat.lt_succ_self _) (Nat.le_max_right ..)⟩
  ·rcases spec1 j o ho with ⟨k1,k2⟩ | ⟨rfl,_⟩
   ·rw [muO k1] at hh;exact hR.nohid j o k2 hh
   ·rw [muI] at hh;exact hR2.nohid _ _ hk2 (hidC _ hh)
 ·have : AA3 [(id,some (AObj.cells cs'))] id=[id]:=by simp [AA3]
  rw [this];simp;rfl
theorem dcx_new {f:Nat} {args args0 cs cs':List AV} {r r':AV} {h:Hp} {K:AV→Up→List Nat→Prop} (ns:List Nat) (hc:AU0 P G f args0 [] ns.length fun x h1=>x=r∧h1=⟨[(ns.length,.cells cs)],ns.length+1⟩) (hGp:AO8 G) (hin:∀ n ∈ ns,∃ o,lk h.l n=some o)
  (ha:RnL (enter ns) args args0) (hr:RnV (oneMore ns h.next) r r') (hcs:RnL (oneMore ns h.next) cs cs') (hk:K r' [(h.next,some (.cells cs'))] ns):AK0 P G f args h K:=⟨r',_,ns,fnU_new ns hc hGp hin ha hr hcs,hk⟩
end
theorem Aa9 {qa qb:Prop} {α:Type} {L:List α} {l:List (Nat × AObj)} {nx sz bytes d:Nat} {x:AV} {k:AV→Up→List Nat→Prop} (hq:Y2 ((L.length=0→qa)∧(L.length ≠ 0→qb))) (h:Y2 (L.length=0→qa)→Y2 (L.length ≠ 0→qb)→AppX l nx sz bytes (AP3 d sz L.length) x k):AppX l nx sz bytes (AP3 d sz L.length) x k:=h ⟨hq.out.1⟩ ⟨hq.out.2⟩
end Go.Am
namespace Go.Proofs.YtbhgfoikbkaohaaGreat
open Go Go.Am Go.Pol
theorem ppx_Ti {p:Prop} (h:p:=by ((first|with_reducible assumption|(with_reducible first|apply O6 _|apply Y7 O6|apply Y7 Y5|apply Y5|apply C8|apply AM4|apply F7 C8|apply H6 C8|apply F6|apply G8|apply F7 hP|fail)|exact ppw|fail);first|done|fail)):p:=h
open Go.Proofs.YtbhgfoikbkaohaaGreat renaming plx_Sd → plx
open Go.Proofs.YtbhgfoikbkaohaaGreat renaming ppx_Ti → ppx
theorem wx_Ti {p q:Prop} (hq:q) (h:Y2 q→p:=by (intro hQz;((repeat' ((try (conv=>whnf));first|refine sxA ?_|refine D6 (by with_reducible assumption) ?_|refine sxF ?_|refine An1 F9 rfl hF hA hB rfl ?_|refine AC3 (f:=rnA) (l2:=[⟨(p:Nat),(q:Int) - (p:Int),K p⟩]) AO6 (AA1 rfl rfl) (fun hz=>by first|(simp [lk,F8 hz];done)|exact F8 hz) (fun hz=>by first|(simp [lk,AD9 hz];done)|exact AD9 hz) rfl (by decide) ⟨by omega,by omega⟩ rfl ?_|(refine AC2 (f:=rnA) (l2:=[⟨(p:Nat),(q:Int) - (p:Int),K p⟩]) AO6 (AA1 rfl rfl) (fun hz=>by first|(simp [lk,F8 hz];done)|exact F8 hz) rfl (by decide) ⟨by omega,by omega⟩ ?_ ?_<;>intro hzz)|refine AC3 (f:=rnA) (l2:=[⟨(p:Nat),((1024:Nat):Int) - (p:Int),K p⟩]) AO6 (AA1 rfl rfl) (fun hz=>by first|(simp [lk,F8 hz];done)|exact F8 hz) (fun hz=>by first|(simp [lk,AD9 hz];done)|exact AD9 hz) rfl (by decide) ⟨by omega,by omega⟩ rfl ?_|(refine AC2 (f:=rnA) (l2:=[⟨(p:Nat),((1024:Nat):Int) - (p:Int),K p⟩]) AO6 (AA1 rfl rfl) (fun hz=>by first|(simp [lk,F8 hz];done)|exact F8 hz) rfl (by decide) ⟨by omega,by omega⟩ ?_ ?_<;>intro hzz)|(refine AF9 F9 b89 rfl ?_;unfold c89)|refine sxH ?_|((with_reducible first|apply U3 hQz|apply U4 hQz)<;>(try intro hsp hQz))|exact hQz.out))<;>(try (conv=>whnf))))):p:=h ⟨hq⟩
section
variable {K:Nat→Int} {M:Nat→Bool} {B:Nat→Nat→Int} {P:List AV}
theorem wk_frzRn {σ:Nat→Nat} {h h':Hp} {d n:Nat} {L:List Rn} (hn:L.length=n) (hi:L.length ≠ 0→lk h.l d=some (.cells (flat rnA L))) (hi':∀ j o,lk h'.l j=some o→σ j ≠ d) (hs:AH3 σ h h'):WkV Tryz.prog σ h h' (AP3 d 3 n) (.isl (L.map rnA)):=by
 subst hn
 by_cases hz:L.length=0
 ·rw [hz,own_z]
  cases List.eq_nil_of_length_eq_zero hz
  exact BH3
 ·rw [Af6 hz]
  refine BN9 (hi hz) hi' hs (by simp) (fun e he=>?_) ?_ fun e he x hx=>?_
  ·obtain ⟨s,_,rfl⟩:=List.mem_map.1 he;rfl
  ·rw [List.drop_zero,List.take_of_length_le (by rw [AT4 AO6];exact Nat.le_refl _)];rfl
  ·obtain ⟨s,_,rfl⟩:=List.mem_map.1 he;exact Y5 s x hx
theorem end_col {top:Bool} {h:Hp} {x r:AV} {cs:List AV} (hr:WkV Tryz.prog (rn []) h ⟨[(0,.cells cs),(1,.cells [.ptr 0 0])],2⟩ x r) (h0:lk h.l 0=some (.cells cs)) (h1:lk h.l 1=some (.cells [.ptr 0 0])) (pd:∀ x ∈ cs,Plain x) :
  AV3 top Tryz.prog 2 h x (fun r' h'=>r'=r∧h'=⟨[(0,.cells cs),(1,.cells [.ptr 0 0])],2⟩):=by
 have hs:AH3 (rn []) h ⟨[(0,.cells cs),(1,.cells [.ptr 0 0])],2⟩:=fun i o hi=>by
  simp only [lk] at hi
  show ∃ o',lk h.l i=some o'
  split at hi
  ·rename_i e;subst e;exact ⟨_,h0⟩
  ·split at hi
   ·rename_i e;subst e;exact ⟨_,h1⟩
   ·cases hi
 exact AB9 [] rfl (Nat.le_refl _) (O7 rfl) hr (G9 hs (show 0 < 2 by decide) h0 rfl pd (M8 (show 1 < 2 by decide) h1 (A9 (U5 rfl (show 0 < 2 by decide)) G7) I5)) ⟨rfl,rfl⟩
theorem col_not {cs:List AV} {d:Nat} (hd:2≤d):∀ j o,lk (Hp.mk [(0,.cells cs),(1,.cells [.ptr 0 0])] 2).l j=some o→rn [] j ≠ d:=fun j o hj=>by
 simp only [lk] at hj
 show j ≠ d
 split at hj
 ·omega
 ·split at hj
  ·omega
  ·cases hj
theorem col_sub {h:Hp} {cs:List AV} (h0:∃ o,lk h.l 0=some o) (h1:∃ o,lk h.l 1=some o):AH3 (rn []) h ⟨[(0,.cells cs),(1,.cells [.ptr 0 0])],2⟩:=fun i o hi=>by
 simp only [lk] at hi
 show ∃ o',lk h.l i=some o'
 split at hi
 ·rename_i e;subst e;exact h0
 ·split at hi
  ·rename_i e;subst e;exact h1
  ·cases hi
theorem l_collect (hP:∀ x ∈ P,Plain x):AU0 Tryz.prog G0 62 [.fn 90 [] [.ptr 1 0]] [(0,.cells (sysB K M B P)),(1,.cells [.ptr 0 0])] 2 fun x h1=>x = .isl ((F4 K 1024).map rnA)∧h1=⟨[(0,.cells (sysB K M B P)),(1,.cells [.ptr 0 0])],2⟩:=by
 refine G6 F9 b62 rfl ?_
 unfold c62
 (refine wx_Ti ?_;repeat' (first|with_reducible refine And.intro ?_ ?_|intro hsp))
 refine range_x F9 b90 rfl trivial ?_
 intro frl asl bdl hF hA hB
 unfold c90
 (refine wx_Ti ?_;repeat' (first|with_reducible refine And.intro ?_ ?_|intro hsp))
 (refine H7 [0,1] (fun (p:Nat)=>[(3,.int .i64 (p:Nat))]) (fun (p:Nat)=>⟨[(0,.cells (sysB K M B P)),(1,.cells [.ptr 0 0]),(2,.cells [AP3 4 3 (F4 K p).length]),(3,.loop .ready none frl [7] asl bdl)]++AE4 4 rnA (F4 K p),5⟩) (fun (p:Nat)=>p≤1024∧(p=0∨p=1024∨K (p - 1) ≠ K p)) (fun (p:Nat)=>1024 - p) (0) [] rfl (fun _=>by first|exact Nat.zero_le _|(dsimp only;omega)) ?_ (by ((try (conv=>whnf));exact BH1)) ?_)
 ·exact ⟨Nat.zero_le _,.inl rfl⟩
 rintro p ⟨hp,hb⟩
 have hL:=V4 (K:=K) (n:=p)
 by_cases hp4:p < 1024
 ·have hk:(sysB K M B P)[1+p * 66+0]? = some (.int .i64 (K p)):=AN3 (by omega)
  (refine wx_Ti ?_;repeat' (first|with_reducible refine And.intro ?_ ?_|intro hsp))
  (refine H7 [0,1,4] (fun (q:Nat)=>[(3,.int .i64 (q:Nat))]) (fun (q:Nat)=>⟨[(0,.cells (sysB K M B P)),(1,.cells [.ptr 0 0]),(2,.cells [AP3 4 3 (F4 K p).length]),(3,.loop .ready none frl [7] asl bdl),(5,.cells [.int .i64 (p:Nat),.int .i64 ((q:Int) - (p:Int)),.int .i64 (K p)])]++AE4 4 rnA (F4 K p),6⟩) (fun (q:Nat)=>p≤q∧q≤1024∧∀ i,i < q - p→K (p+i)=K p) (fun (q:Nat)=>1024 - q) (p) [] rfl (fun _=>by first|exact Nat.zero_le _|(dsimp only;omega)) ?_ (by ((try (conv=>whnf));(rw [Int.sub_self]);exact BH1)) ?_)
  ·exact ⟨Nat.le_refl _,by omega,fun i hi=>by omega⟩
  rintro q ⟨h1,h2,h3⟩
  by_cases hq:q < 1024
  ·have hk:(sysB K M B P)[1+q * 66+0]? = some (.int .i64 (K q)):=AN3 (by omega)
   by_cases h4:K q=K p
   ·(refine wx_Ti ?_;repeat' (first|with_reducible refine And.intro ?_ ?_|intro hsp))
    all_goals exact D7 (q+1) [] ⟨by omega,by omega,fun i hi=>if e:p+i=q then by rw [e];exact h4 else h3 i (by omega)⟩ (by first|omega|(dsimp only;omega)) rfl (by exact BH1)
   ·have hpq:p < q:=by
     by_cases e:q=p
     ·exact absurd (by rw [e]) h4
     ·omega
    have hb2:K (q - 1) ≠ K q:=by
     have:=h3 (q - 1 - p) (by omega)
     rw [show p+(q - 1 - p)=q - 1 by omega] at this
     rw [this];exact fun e=>h4 e.symm
    (refine wx_Ti ?_;repeat' (first|with_reducible refine And.intro ?_ ?_|intro hsp))
    ·have hr:F4 K q=F4 K p:=by
      have:=Aj4 (K:=K) (p:=p) (j:=q - p) fun i hi=>(h3 i hi).trans hsp
      rw [show p+(q - p)=q by omega] at this;exact this
     exact D7 q [] ⟨h2,.inr (.inr hb2)⟩ (by first|omega|(dsimp only;omega)) rfl (by ((try dsimp only);rw [hr]);exact BH1)
    ·have hr:F4 K q=F4 K p++[⟨(p:Nat),(q:Int) - (p:Int),K p⟩]:=by
      have:=At3 (K:=K) (p:=p) (j:=q - p - 1) (hb.elim .inl fun h=>h.elim (fun h=>by omega) .inr) hsp fun i hi=>h3 i (by omega)
      rw [show p+(q - p - 1+1)=q by omega] at this;rw [this];congr 3;omega
     exact D7 q [(4,22)] ⟨h2,.inr (.inr hb2)⟩ (by first|omega|(dsimp only;omega)) rfl (by ((try dsimp only);rw [hr]);exact BH1)
  ·have hpq:p < q:=by omega
   obtain rfl:q=1024:=by omega
   (refine wx_Ti ?_;repeat' (first|with_reducible refine And.intro ?_ ?_|intro hsp))
   ·have hr:F4 K 1024=F4 K p:=by
     have:=Aj4 (K:=K) (p:=p) (j:=1024 - p) fun i hi=>(h3 i hi).trans hsp
     rw [show p+(1024 - p)=1024 by omega] at this;exact this
    exact D7 1024 [] ⟨h2,.inr (.inl rfl)⟩ (by first|omega|(dsimp only;omega)) rfl (by ((try dsimp only);rw [hr]);exact BH1)
   ·have hr:F4 K 1024=F4 K p++[⟨(p:Nat),((1024:Nat):Int) - (p:Int),K p⟩]:=by
     have:=At3 (K:=K) (p:=p) (j:=1024 - p - 1) (hb.elim .inl fun h=>h.elim (fun h=>by omega) .inr) hsp fun i hi=>h3 i (by omega)
     rw [show p+(1024 - p - 1+1)=1024 by omega] at this;rw [this];congr 3;omega
    exact D7 1024 [(4,22)] ⟨h2,.inr (.inl rfl)⟩ (by first|omega|(dsimp only;omega)) rfl (by ((try dsimp only);rw [hr]);exact BH1)
 ·obtain rfl:p=1024:=by omega
  (refine wx_Ti ?_;repeat' (first|with_reducible refine And.intro ?_ ?_|intro hsp))
  all_goals exact end_col (wk_frzRn rfl (fun hz=>F8 hz) (col_not (by decide)) (col_sub ⟨_,rfl⟩ ⟨_,rfl⟩)) rfl rfl (F7 hP)
end
end Go.Proofs.YtbhgfoikbkaohaaGreat
namespace Go.Pol
open Go.Am
theorem AZ6:∀ {vs cs pre:List AV},cs.length=vs.length→over (pre++cs) pre.length vs=pre++vs
 | [],cs,pre,h=>by
  have : cs=[]:=List.eq_nil_of_length_eq_zero (by simpa using h)
  subst this;rfl
 | v::vs,[],pre,h=>by simp at h
 | v::vs,c::cs,pre,h=>by
  show over ((pre++c::cs).set pre.length v) (pre.length+1) vs=_
  rw [List.set_append_right _ _ (Nat.le_refl _),Nat.sub_self,List.set_cons_zero]
  have:=AZ6 (vs:=vs) (cs:=cs) (pre:=pre++[v]) (by simpa using h)
  rw [List.length_append,List.append_assoc,List.append_assoc] at this
  exact this
theorem BN8 {y:List AV} (h:y.length=64):y.take 64=y:=List.take_of_length_le (by omega)
theorem y_drop {y:List AV}:y.drop 0=y:=rfl
theorem over_y {y:List AV} (h:y.length=64):over (List.replicate 64 (AV.int .u8 0)) 0 y=y:=AZ6 (pre:=[]) (by rw [h];rfl)
theorem Ak4 {y:List AV} {x:AV} (h:y.length=64):over (x::List.replicate 64 (AV.int .u8 0)) 1 y=x::y:=AZ6 (pre:=[x]) (by rw [h];rfl)
theorem AJ2 (b:Nat→Int):eqL (List.replicate 64 0) (byA b) (List.replicate 64 (.int .u8 0))=some (decide (AD3 b)):=by
 have key:∀ (F:Nat→Int) (n k:Nat),∃ t,eqL (List.replicate n 0) ((List.range' k n).map fun j=>.int .u8 (F j)) (List.replicate n (.int .u8 0))=some t∧(t=true ↔ ∀ j,k≤j→j < k+n→F j=0):=by
  intro F n
  induction n with
  | zero=>intro k;exact ⟨true,rfl,⟨fun _ j h1 h2=>by omega,fun _=>rfl⟩⟩
  | succ n ih =>
   intro k
   obtain ⟨t,h1,h2⟩:=ih (k+1)
   refine ⟨(F k == 0) && t,?_,?_⟩
   ·rw [List.replicate_succ,List.replicate_succ,List.range'_succ,List.map_cons]
    simp only [eqL,eq1,if_true,Option.bind_some,h1,Option.map_some]
   ·rw [Bool.and_eq_true,beq_iff_eq,h2]
    constructor
    ·rintro ⟨h1,h2⟩ j hj1 hj2
     by_cases e:j=k
     ·rw [e];exact h1
     ·exact h2 j (by omega) (by omega)
    ·intro h;exact ⟨h k (Nat.le_refl _) (by omega),fun j h1 h2=>h j (by omega) (by omega)⟩
 obtain ⟨t,h1,h2⟩:=key b 64 0
 unfold byA
 rw [List.range_eq_range',h1]
 congr 1
 rw [Bool.eq_iff_iff,h2,decide_eq_true_eq]
 exact ⟨fun h j hj=>h j (Nat.zero_le _) (by omega),fun h j _ hj=>h j (by omega)⟩
section
variable {K:Nat→Int} {M G:Nat→Bool} {B:Nat→Nat→Int} {P:List AV} {p o:Nat}
theorem sys_bytes (hp:p < 1024):((sysB K M B P).drop (1+p * 66+2)).take 64=byA (B p):=by
 rw [sysB,Aa0 (by omega)]
 unfold byA
 refine List.map_congr_left fun j hj=>?_
 have hj:=List.mem_range.1 hj
 rw [Nat.add_assoc (1+p * 66),AE9 hp (by omega)]
 unfold Ak3
 rw [if_neg (by omega),if_neg (by omega),show 2+j - 2=j by omega]
theorem X5 (hp:p < 1024):((refK K G B P).drop (1088+p * 64)).take 64=byA (B p):=by
 rw [refK,Aa0 (by omega)]
 unfold byA
 exact List.map_congr_left fun j hj=>AL9 hp (List.mem_range.1 hj)
theorem sys_rules {l:List Rl} {C H:Nat→Int} (h:o=67585):(sysB K M B (stA l C H))[o+0+0]? = some (.isl (l.map rlA)):=by
 show _[o]? = _
 have e:=Ai7 (K:=K) (M:=M) (B:=B) h (Y4 (l:=l) (C:=C) (H:=H))
 have:=List.getElem?_take_of_lt (l:=(sysB K M B (stA l C H)).drop o) (i:=0) (j:=15) (by decide)
 rw [e,List.getElem?_drop,Nat.add_zero] at this
 rw [← this];rfl
theorem R8 {l:List Rl} {C H:Nat→Int} (h:o=66624):(refK K G B (stA l C H))[o+0+0]? = some (.isl (l.map rlA)):=by
 show _[o]? = _
 have e:=Q0 (K:=K) (G:=G) (B:=B) h (Y4 (l:=l) (C:=C) (H:=H))
 have:=List.getElem?_take_of_lt (l:=(refK K G B (stA l C H)).drop o) (i:=0) (j:=15) (by decide)
 rw [e,List.getElem?_drop,Nat.add_zero] at this
 rw [← this];rfl
end
end Go.Pol
namespace Go.Pol
open Go.Am Go.Proofs.YtbhgfoikbkaohaaGreat.Sh
def U7 (a n pg sl:Int):Prop:=0≤a∧a < 1024∧1≤n∧n≤1024 - a∧1≤pg∧pg≤256∧0≤sl∧sl≤256
instance (a n pg sl:Int):Decidable (U7 a n pg sl):=by unfold U7;infer_instance
theorem As6:AV.agg (List.replicate 64 (.int .u8 0))=byE fun _=>0:=by
 unfold byE bcA
 congr 1
 refine List.ext_getElem? fun i=>?_
 by_cases h:i < 64
 ·rw [List.getElem?_replicate,if_pos h,M7 h]
 ·rw [List.getElem?_eq_none (by rw [List.length_replicate];omega),List.getElem?_eq_none (by rw [R4];omega)]
theorem AL1 {x:Nat→Int}:over (List.replicate 64 (AV.int .u8 0)) 0 (bcA x)=bcA x:=AZ6 (pre:=[]) (by rw [S9];rfl)
theorem mlook_d {l:List (Nat × AObj)} {i:Nat} {z:AV} {L:List (Int × (Nat→Int))} {k:Int} {x:Nat→Int} {K:AV→Up→List Nat→Prop} (hD:(match mgI L k with|some b=>b|none=>fun _=>0)=x) (hz:z=byE fun _=>0) (h1:lk l i=some (.maps (encW byE L))) (hk:K (byE x) [] [i]):Af3 l false false [0] z (.mapr i) (.int .i64 k) K:=by
 cases hm:mgI L k with
 | none=>rw [hm] at hD;subst hD;subst hz;exact BC9 hm h1 hk
 | some b=>rw [hm] at hD;subst hD;exact AF1 hm h1 hk
theorem BC8 {l:List (Nat × AObj)} {i:Nat} {z:AV} {L:List (Int × (Nat→Int))} {k:Int} {K:AV→Up→List Nat→Prop} (hg:mgI L k=none) (hz:z=byE fun _=>0) (h1:lk l i=some (.maps (encW byE L))) (hk:K (.tup [byE fun _=>0,.bool false]) [] [i]):Af3 l true false [0] z (.mapr i) (.int .i64 k) K:=by
 subst hz;exact AK6 hg h1 hk
end Go.Pol
namespace Go.Proofs.YtbhgfoikbkaohaaGreat.Sh
open Go Go.Am Go.Pol
theorem plx_Sxc {p:Prop} (h:p:=by ((first|exact plw|(with_reducible first|apply R3|apply J7 _|apply J8 _|apply J5 _|apply w9|fail)|fail);first|done|fail)):p:=h
theorem ppx_Sxc {p:Prop} (h:p:=by ((first|with_reducible assumption|(with_reducible first|apply G8|apply F6|apply AH8|apply AE7|apply AR3|fail)|exact ppw|fail);first|done|fail)):p:=h
open Go.Proofs.YtbhgfoikbkaohaaGreat.Sh renaming plx_Sxc → plx
open Go.Proofs.YtbhgfoikbkaohaaGreat.Sh renaming ppx_Sxc → ppx
theorem wx_Sxc {p q:Prop} (hq:q) (h:Y2 q→p:=by (intro hQz;((repeat' ((try (conv=>whnf));first|refine sxA ?_|refine L8 (by rw [R4];omega) hset ?_|refine U2 (by rw [S9];omega) List.drop_zero (Q7 (by rw [S9];omega) Ae0 ?_)|refine ⟨S9,?_⟩|refine X6 (by simp only [S9];omega) (over_self _) ?_|refine D6 hxk ?_|refine sxF ?_|refine M0 (by assumption) rfl (by decide) ?_|refine M0 hws rfl (by decide) ?_|refine sxH ?_|((with_reducible first|apply U3 hQz|apply U4 hQz)<;>(try intro hsp hQz))|exact hQz.out))<;>(try (conv=>whnf))))):p:=h ⟨hq⟩
theorem R3:Plain (.tup []):=E5 fun x hx=>by cases hx
theorem w9 {f:Nat→Int}:Plain (.agg (bcA f)):=M4 AE7
theorem Ah2 (a n pg sl:Int):I6 41 [.int .i64 a,.int .i64 n,.int .i64 pg,.int .i64 sl] (.bool (decide (U7 a n pg sl))):=by
 refine I6.mk (N7 F9 b41 H8 ⟨A8,A8,A8,A8,trivial⟩ C9 rfl ?_)
 unfold c41
 (refine wx_Sxc ?_;repeat' (first|with_reducible refine And.intro ?_ ?_|intro hsp))
 all_goals first|(exfalso;omega)|exact J4 (by first|exact decide_eq_decide.2 (by unfold U7;omega)|exact (decide_eq_true (show U7 a n pg sl by unfold U7;omega)).symm|exact (decide_eq_false (show ¬ U7 a n pg sl by unfold U7;omega)).symm)
section
variable {q:Sw} {t:WS}
theorem w_is:T9 46 [] q t (.bool true) q t:=by
 refine T9.mk (G6 F9 b46 rfl ?_) (fun x hx=>by cases hx) C9
 unfold c46
 unfold stN stC
 (refine wx_Sxc ?_;repeat' (first|with_reducible refine And.intro ?_ ?_|intro hsp))
 all_goals exact V9 rfl C9 rfl rfl rfl rfl rfl
theorem Az5 (hp:q.pg≤256) (a now:Int):T9 64 [.int .i64 a,.int .i64 now] q t (.bool (decide (q.nums a now))) q t:=by
 refine T9.mk (G6 F9 b64 rfl ?_) (fun x hx=>by
  simp only [List.mem_cons,List.not_mem_nil,or_false] at hx
  rcases hx with rfl|rfl<;>exact A8) C9
 unfold c64
 unfold stN stC
 (refine wx_Sxc ?_;repeat' (first|with_reducible refine And.intro ?_ ?_|intro hsp))
 all_goals first|(exfalso;omega)|exact V9 (by first|exact congrArg AV.bool (decide_eq_decide.2 (by unfold Sw.nums;omega))|exact congrArg AV.bool (decide_eq_true (show q.nums a now by unfold Sw.nums;omega)).symm|exact congrArg AV.bool (decide_eq_false (show ¬ q.nums a now by unfold Sw.nums;omega)).symm) C9 rfl rfl rfl rfl rfl
theorem w_get {f:Nat} (hf:f < 1024) (hk:q.s.K f=2):T9 97 [.int .i64 (f:Nat)] q t (.agg (bcA (q.s.B f))) q t:=by
 refine T9.mk (G6 F9 b97 rfl ?_) (fun x hx=>by obtain rfl:=List.mem_singleton.1 hx;exact A8) w9
 unfold c97
 unfold stN stC
 rw [← rdK_0 (f:=q.s.B f)]
 (refine wx_Sxc ?_;repeat' (first|with_reducible refine And.intro ?_ ?_|intro hsp))
 (refine H7 [0,1,4] (fun (k:Nat)=>[(6,.int .i64 (k:Nat))]) (fun (k:Nat)=>⟨stN q t 0 1 2 3 4++[(5,.cells (memA 64 (rdK (q.s.B f) k)))],6⟩) (fun (k:Nat)=>k≤64) (fun (k:Nat)=>64 - k) (0) [] rfl (fun _=>by first|exact Nat.zero_le _|(dsimp only;omega)) ?_ (by ((try (conv=>whnf));exact AD4)) ?_)
 ·exact Nat.zero_le _
 intro k hkk
 by_cases hkl:k < 64
 ·have c1:=p_read (s:=q.s) (a:=(f:Int) * 64+(k:Nat))
  rw [read_at hk hf hkl] at c1
  dsimp only at c1
  have hset:=rdK_s (f:=q.s.B f) hkl
  unfold stN stC
  generalize q.s.B f k=y at *
  (refine wx_Sxc ?_;repeat' (first|with_reducible refine And.intro ?_ ?_|intro hsp))
  all_goals exact D7 (k+1) [] (by (try dsimp only);omega) (by first|omega|(dsimp only;omega)) rfl (by exact AD4)
 ·obtain rfl:k=64:=by omega
  rw [rdK_all]
  unfold stN stC
  (refine wx_Sxc ?_;repeat' (first|with_reducible refine And.intro ?_ ?_|intro hsp))
  all_goals exact V9 rfl w9 rfl rfl rfl rfl rfl
theorem w_set (hg:GoodS q.s) {f:Nat} (hf:f < 1024) (hk:q.s.K f=2) (x:Nat→Int):T9 94 [.int .i64 (f:Nat),.agg (bcA x)] q t (.tup []) { q with s:=q.s.page f x } t:=by
 refine T9.mk (G6 F9 b94 rfl ?_) (fun y hy=>by
  simp only [List.mem_cons,List.not_mem_nil,or_false] at hy
  rcases hy with rfl|rfl
  ·exact A8
  ·exact w9) R3
 unfold c94
 unfold stN stC
 (refine wx_Sxc ?_;repeat' (first|with_reducible refine And.intro ?_ ?_|intro hsp))
 have hw0:=BG8 (s:=q.s) (f:=f) (x:=x)
 (refine H7 [0,1,8] (fun (k:Nat)=>[(9,.int .i64 (k:Nat))]) (fun (k:Nat)=>⟨stN { q with s:=wrK q.s f x k } t 0 1 2 3 4,5⟩) (fun (k:Nat)=>k≤64) (fun (k:Nat)=>64 - k) (0) [] rfl (fun _=>by first|exact Nat.zero_le _|(dsimp only;omega)) ?_ (by ((try (conv=>whnf));(rw [hw0]);exact AD4)) ?_)
 ·exact Nat.zero_le _
 intro k hkk
 by_cases hkl:k < 64
 ·have hws:=p_write (s:=wrK q.s f x k) (a:=(f:Int) * 64+(k:Nat)) (b:=x k)
  rw [BG7 hk hf hkl] at hws
  dsimp only at hws
  have hxk:(bcA x)[k]? = some (.int .u8 (x k)):=M7 hkl
  unfold stN stC
  dsimp only
  (refine wx_Sxc ?_;repeat' (first|with_reducible refine And.intro ?_ ?_|intro hsp))
  all_goals exact D7 (k+1) [] (by (try dsimp only);omega) (by first|omega|(dsimp only;omega)) rfl (by exact AD4)
 ·obtain rfl:k=64:=by omega
  rw [AV4 hg]
  unfold stN stC
  dsimp only
  (refine wx_Sxc ?_;repeat' (first|with_reducible refine And.intro ?_ ?_|intro hsp))
  all_goals exact V9 (q:={ q with s:=q.s.page f x }) rfl R3 rfl rfl rfl rfl rfl
end
end Go.Proofs.YtbhgfoikbkaohaaGreat.Sh
namespace Go.Pol
open Go.Am Go.Proofs.YtbhgfoikbkaohaaGreat.Sh
def opA (o:Option Nat):Int:=match o with|some f=>(f:Nat)|none=>-1
theorem Av7 {a n i:Nat} {p:Nat→Bool} (hi:i < n) (h1:∀ j,j < i→p (a+j)=false) (h2:p (a+i)=true):(List.range' a n).find? p=some (a+i):=by
 rw [range_cut (Nat.le_of_lt hi),List.find?_append,List.find?_eq_none.2 fun f hf=>by
  obtain ⟨k,hk,rfl⟩:=List.mem_range'.1 hf
  rw [Nat.one_mul,h1 k hk];exact Bool.false_ne_true]
 obtain ⟨m,hm⟩:∃ m,n - i=m+1:=⟨n - i - 1,by omega⟩
 rw [hm,List.range'_succ,List.find?_cons,h2]
 rfl
theorem Av6 {a n:Nat} {p:Nat→Bool} (h:∀ j,j < n→p (a+j)=false):(List.range' a n).find? p=none:=List.find?_eq_none.2 fun f hf=>by
 obtain ⟨k,hk,rfl⟩:=List.mem_range'.1 hf
 rw [Nat.one_mul,h k hk];exact Bool.false_ne_true
theorem held_H {w:Sw} {t:WS} (h:WOk w t) (hg:F3 w) {f:Nat}:(mgI t.H (f:Nat)).isSome=decide (w.heldF f):=by
 by_cases hh:w.heldF f
 ·obtain ⟨p,hp,hF⟩:=hh
  rw [(h.gH (f:Nat) (p:Nat)).2 ⟨by omega,by omega,by rw [Int.toNat_natCast];exact hF⟩,decide_eq_true (show w.heldF f from ⟨p,hp,hF⟩)];rfl
 ·rw [decide_eq_false hh]
  cases hm:mgI t.H (f:Nat) with
  | none=>rfl
  | some p =>
   obtain ⟨h1,h2,h3⟩:=(h.gH (f:Nat) p).1 hm
   exact absurd ⟨p.toNat,AK7 hg (by omega),h3⟩ hh
theorem held_D {w:Sw} {t:WS} (h:WOk w t) {k:Nat}:(mgI t.D (k:Nat)).isSome=decide (w.heldT k):=by
 rw [h.gD]
 by_cases hh:w.heldT k
 ·rw [decide_eq_true hh,if_pos ⟨by omega,by rw [Int.toNat_natCast];exact hh⟩];rfl
 ·rw [decide_eq_false hh,if_neg fun h2=>hh (by rw [Int.toNat_natCast] at h2;exact h2.2)];rfl
end Go.Pol
namespace Go.Proofs.YtbhgfoikbkaohaaGreat.Sh
open Go Go.Am Go.Pol
open Go.Proofs.YtbhgfoikbkaohaaGreat.Sh renaming plx_Sxc → plx
open Go.Proofs.YtbhgfoikbkaohaaGreat.Sh renaming ppx_Sxc → ppx
theorem wx_Sxd {p q:Prop} (hq:q) (h:Y2 q→p:=by (intro hQz;((repeat' ((try (conv=>whnf));first|refine sxA ?_|refine AG8 hp rfl ?_|refine AK6 hp rfl ?_|refine ⟨S9,?_⟩|refine X6 (by simp only [List.length_replicate,S9];omega) hov ?_|refine BC8 hp As6 rfl ?_|refine sxF ?_|(refine AF9 F9 b92 rfl ?_;unfold c92)|(refine AF9 F9 b91 rfl ?_;unfold c91)|(refine AF9 F9 b96 rfl ?_;unfold c96)|refine sxH ?_|((with_reducible first|apply U3 hQz|apply U4 hQz)<;>(try intro hsp hQz))|exact hQz.out))<;>(try (conv=>whnf))))):p:=h ⟨hq⟩
section
variable {q:Sw} {t:WS}
structure LocL (q:Sw) (t:WS):Prop where
 out:AU0 Tryz.prog G0 91 [.int .i64 (q.a:Nat),.int .i64 ((q.a:Int)+(q.n:Nat)),.fn 92 [] [.ptr 5 0]] (stN q t 0 1 2 3 4++[(5,.cells [.ptr 0 0])]) 6 fun x h1=>x = .int .i64 (opA q.free)∧h1=⟨stN q t 0 1 2 3 4++[(5,.cells [.ptr 0 0])],6⟩
theorem end_L {top:Bool} {h:Hp} {N0:Nat} {x r:AV} (hx:x=r) (hp:Plain r) (g0:lk h.l 0=some (.cells (stC 4 1 2 3 q))) (g1:lk h.l 1=some (.maps (encW pgE t.W))) (g2:lk h.l 2=some (.maps (encW byE t.D))) (g3:lk h.l 3=some (.maps (encW nuE t.H))) (g4:lk h.l 4=some (.cells q.s.a)) (g5:lk h.l 5=some (.cells [.ptr 0 0])) (hN0:N0≤6:=by decide) :
  AV3 top Tryz.prog N0 h x (fun r' h'=>r'=r∧h'=⟨stN q t 0 1 2 3 4++[(5,.cells [.ptr 0 0])],6⟩):=by
 subst hx
 have hs:AH3 (rn []) h ⟨stN q t 0 1 2 3 4++[(5,.cells [.ptr 0 0])],6⟩:=fun i o hi=>by
  simp only [stN,List.cons_append,List.nil_append,lk] at hi
  show ∃ o',lk h.l i=some o'
  split at hi
  ·rename_i e;subst e;exact ⟨_,g0⟩
  ·split at hi
   ·rename_i e;subst e;exact ⟨_,g1⟩
   ·split at hi
    ·rename_i e;subst e;exact ⟨_,g2⟩
    ·split at hi
     ·rename_i e;subst e;exact ⟨_,g3⟩
     ·split at hi
      ·rename_i e;subst e;exact ⟨_,g4⟩
      ·split at hi
       ·rename_i e;subst e;exact ⟨_,g5⟩
       ·cases hi
 refine AB9 [] rfl hN0 (O7 rfl) (X4 hs hp) ?_ ⟨rfl,rfl⟩
 exact wko_st (o':=0) (w':=1) (d':=2) (m':=3) (s':=4) hs rfl rfl rfl rfl rfl ⟨show 0 < 6 by decide,show 1 < 6 by decide,show 2 < 6 by decide,show 3 < 6 by decide,show 4 < 6 by decide⟩ g0 g1 g2 g3 g4 (M8 (show 5 < 6 by decide) g5 (A9 (U5 (i:=0) rfl (show 0 < 6 by decide)) G7) I5)
theorem w_free (hg:F3 q) (h:WOk q t):LocL q t:=by
 have hrng:=hg.rng
 refine LocL.mk (G6 F9 b91 rfl ?_)
 unfold c91
 unfold stN stC
 (refine wx_Sxd ?_;repeat' (first|with_reducible refine And.intro ?_ ?_|intro hsp))
 (refine H7 [0,1,2] (fun (i:Nat)=>[(7,.int .i64 ((q.a+i:Nat):Int))]) (fun (i:Nat)=>⟨stN q t 0 1 2 3 4++[(5,.cells [.ptr 0 0])],6⟩) (fun (i:Nat)=>i≤q.n∧∀ j,j < i→q.heldF (q.a+j)) (fun (i:Nat)=>q.n - i) (0) [] rfl (fun _=>by first|exact Nat.zero_le _|(dsimp only;omega)) ?_ (by ((try (conv=>whnf));exact AD4)) ?_)
 ·exact ⟨Nat.zero_le _,fun j hj=>absurd hj (Nat.not_lt_zero _)⟩
 intro i hi
 obtain ⟨hi,hall⟩:=hi
 by_cases hil:i < q.n
 ·have hhd:=held_H h hg (f:=q.a+i)
  by_cases hh:q.heldF (q.a+i)
  ·have hnext:i+1≤q.n∧∀ j,j < i+1→q.heldF (q.a+j):=⟨hil,fun j hj=>by
    by_cases e:j=i
    ·rw [e];exact hh
    ·exact hall j (by omega)⟩
   rw [decide_eq_true hh] at hhd
   obtain ⟨p,hp⟩:=Option.isSome_iff_exists.1 hhd
   have ea:((q.a+i:Nat):Int)=(q.a:Int)+(i:Nat):=by omega
   unfold stN stC
   (refine wx_Sxd ?_;repeat' (first|with_reducible refine And.intro ?_ ?_|intro hsp))
   all_goals first|(exfalso;omega)|exact D7 (i+1) [] hnext (by first|omega|(dsimp only;omega)) rfl (by exact AD4)
  ·have hfr:q.free=some (q.a+i):=Av7 hil (fun j hj=>by rw [decide_eq_false_iff_not];exact fun h2=>h2 (hall j hj)) (decide_eq_true hh)
   rw [decide_eq_false hh] at hhd
   have hp:mgI t.H ((q.a+i:Nat):Int)=none:=Option.not_isSome_iff_eq_none.1 (by rw [hhd];exact Bool.false_ne_true)
   rw [hfr]
   unfold stN stC
   (refine wx_Sxd ?_;repeat' (first|with_reducible refine And.intro ?_ ?_|intro hsp))
   all_goals first|(exfalso;omega)|exact end_L rfl A8 rfl rfl rfl rfl rfl rfl
 ·obtain rfl:i=q.n:=by omega
  have hfr:q.free=none:=Av6 fun j hj=>by rw [decide_eq_false_iff_not];exact fun h2=>h2 (hall j hj)
  rw [hfr]
  unfold stN stC
  (refine wx_Sxd ?_;repeat' (first|with_reducible refine And.intro ?_ ?_|intro hsp))
  all_goals first|(exfalso;omega)|exact end_L rfl A8 rfl rfl rfl rfl rfl rfl
set_option maxRecDepth 20000 in
theorem w_slot (h:WOk q t) (hsl6:q.sl≤256) (g:Int):T9 68 [.int .i64 g] q t (.int .i64 (opA (q.slot g))) q t:=by
 refine T9.mk (G6 F9 b68 rfl ?_) (fun x hx=>by obtain rfl:=List.mem_singleton.1 hx;exact A8) A8
 unfold c68
 unfold stN stC
 (refine wx_Sxd ?_;repeat' (first|with_reducible refine And.intro ?_ ?_|intro hsp))
 (refine H7 [0,1,2] (fun (i:Nat)=>[(7,.int .i64 (i:Nat))]) (fun (i:Nat)=>⟨stN q t 0 1 2 3 4++[(5,.cells [.ptr 0 0]),(6,.cells [.int .i64 g])],7⟩) (fun (i:Nat)=>i≤q.sl∧∀ j,j < i→¬ (((j:Nat):Int)=g∨¬ q.heldT j)) (fun (i:Nat)=>q.sl - i) (0) [] rfl (fun _=>by first|exact Nat.zero_le _|(dsimp only;omega)) ?_ (by ((try (conv=>whnf));exact AD4)) ?_)
 ·exact ⟨Nat.zero_le _,fun j hj=>absurd hj (Nat.not_lt_zero _)⟩
 intro i hi
 obtain ⟨hi,hall⟩:=hi
 by_cases hil:i < q.sl
 ·have hhd:=held_D h (k:=i)
  by_cases hh:q.heldT i
  ·rw [decide_eq_true hh] at hhd
   obtain ⟨b,hp⟩:=Option.isSome_iff_exists.1 hhd
   have hov:=AL1 (x:=b)
   by_cases hg:((i:Nat):Int)=g
   ·have hsl:q.slot g=some i:=by
     have:=Av7 (a:=0) (n:=q.sl) (p:=fun k=>decide (((k:Nat):Int)=g∨¬ q.heldT k)) hil (fun j hj=>by rw [Nat.zero_add,decide_eq_false_iff_not];exact hall j hj) (by rw [Nat.zero_add];exact decide_eq_true (.inl hg))
     rw [Nat.zero_add] at this
     unfold Sw.slot
     rw [List.range_eq_range'];exact this
    rw [hsl]
    unfold stN stC
    (refine wx_Sxd ?_;repeat' (first|with_reducible refine And.intro ?_ ?_|intro hsp))
    all_goals first|(exfalso;omega)|exact V9 rfl A8 rfl rfl rfl rfl rfl
   ·have hnext:i+1≤q.sl∧∀ j,j < i+1→¬ (((j:Nat):Int)=g∨¬ q.heldT j):=⟨hil,fun j hj=>by
     by_cases e:j=i
     ·rw [e];exact fun h2=>h2.elim hg fun h3=>h3 hh
     ·exact hall j (by omega)⟩
    unfold stN stC
    (refine wx_Sxd ?_;repeat' (first|with_reducible refine And.intro ?_ ?_|intro hsp))
    all_goals first|(exfalso;omega)|exact D7 (i+1) [] hnext (by first|omega|(dsimp only;omega)) rfl (by exact AD4)
  ·have hsl:q.slot g=some i:=by
    have:=Av7 (a:=0) (n:=q.sl) (p:=fun k=>decide (((k:Nat):Int)=g∨¬ q.heldT k)) hil (fun j hj=>by rw [Nat.zero_add,decide_eq_false_iff_not];exact hall j hj) (by rw [Nat.zero_add];exact decide_eq_true (.inr hh))
    rw [Nat.zero_add] at this
    unfold Sw.slot
    rw [List.range_eq_range'];exact this
   rw [decide_eq_false hh] at hhd
   have hp:mgI t.D (i:Nat)=none:=Option.not_isSome_iff_eq_none.1 (by rw [hhd];exact Bool.false_ne_true)
   have hov:=AL1 (x:=fun _=>0)
   rw [hsl]
   unfold stN stC
   (refine wx_Sxd ?_;repeat' (first|with_reducible refine And.intro ?_ ?_|intro hsp))
   all_goals first|(exfalso;omega)|exact V9 rfl A8 rfl rfl rfl rfl rfl
 ·obtain rfl:i=q.sl:=by omega
  have hsl:q.slot g=none:=by
   have:=Av6 (a:=0) (n:=q.sl) (p:=fun k=>decide (((k:Nat):Int)=g∨¬ q.heldT k)) fun j hj=>by rw [Nat.zero_add,decide_eq_false_iff_not];exact hall j hj
   unfold Sw.slot
   rw [List.range_eq_range'];exact this
  rw [hsl]
  unfold stN stC
  (refine wx_Sxd ?_;repeat' (first|with_reducible refine And.intro ?_ ?_|intro hsp))
  all_goals first|(exfalso;omega)|exact V9 rfl A8 rfl rfl rfl rfl rfl
end
end Go.Proofs.YtbhgfoikbkaohaaGreat.Sh
namespace Go.Am
open Go.Sort
section
variable {P:Program} {G:Gl}
theorem ext_more {c:Cx} {w':World} (hR:Rel P c) (hs:c.w.heap.size≤w'.heap.size) (ho:∀ b,b < c.w.heap.size→w'.heap[b]? = c.w.heap[b]?) (he:w'.os=c.w.os∧w'.tape=c.w.tape∧w'.output=c.w.output):Ext c (c.wd w')∧Rel P (c.wd w'):=by
 have k:Kept c w'.heap.size w':=⟨hs,fun b hb _=>ho b hb,fun h=>by omega,fun id o hi h=>by have:=(hR.obj id o hi).lt;omega,he⟩
 have e:=k.extR hR
 refine ⟨⟨e.used,e.mu,e.csz,fun b hb=>e.froz b (by have:=hb.lt;omega) hb,e.size,e.hid,fun b hb=>e.hidh b (by have:=hR.hidlt b hb;omega) hb,e.env⟩,k.rel hR⟩
theorem loc_sort {f n:Nat} {zs S:List Int} (hok:fnOk P f=true) (hn:zs.length=n) (hS:zs.mergeSort (fun x y=>decide (x≤y))=S) (hz:n < 4611686018427387904)
  (hc:∀ (blk off cap:Nat) (w:World),Holds (Value.int .i64) w blk off zs.toArray→blk < w.heap.size→Calls P f #[.slice (some ⟨blk,off,none⟩) zs.length cap] w fun e w'=>e = .returned (.tuple #[])∧∃ n os,w'=grow (putRow (Value.int .i64) (Sort.ahead w n) blk off (zs.mergeSort fun x y=>decide (x≤y)).toArray) os) :
  AU0 P G f [.sl 0 0 n n 1] [(0,.cells (zs.map (AV.int .i64)))] 1 fun x h=>x = .tup []∧h=⟨[(0,.cells (S.map (AV.int .i64)))],1⟩:=by
 refine ⟨hok,fun c vs hR hG hm ha=>?_⟩
 obtain ⟨v,hv⟩:∃ v,vs = #[v]:=by
  have:=ha.1
  match vs,this with
  | ⟨[v]⟩,_=>exact ⟨v,rfl⟩
 subst hv
 obtain ⟨u,hu,hx⟩:=ha.2 0 _ rfl
 have hu':u=v:=by simpa using hu.symm
 subst hu'
 obtain ⟨hU,hlt,cap,hval,h1,h2,h3,h4⟩:=AK1.1 hx
 have hat:c.at_ 0=some (.cells (zs.map (AV.int .i64))):=by rw [hm.at_];simp [lk]
 obtain ⟨a,T,hb,hcs⟩:=hR.obj 0 _ hat
 obtain ⟨blk,hblk⟩:∃ blk,blk=(c.mu 0).1:=⟨_,rfl⟩
 obtain ⟨off,hoff⟩:∃ off,off=(c.mu 0).2:=⟨_,rfl⟩
 rw [Nat.add_zero] at hval
 rw [← hblk] at hb hlt hval
 rw [← hoff] at hcs hval
 have hcell:∀ j z,zs[j]? = some z→a[off+j]? = some (.int .i64 z):=fun j z hj=>by
  obtain ⟨u,h5,h6,_⟩:=hcs j (.int .i64 z) (by rw [List.getElem?_map,hj];rfl)
  rw [RR_int.1 h6] at h5;exact h5
 have hH:Holds (Value.int .i64) c.w blk off zs.toArray:=fun j hj=>by
  have hj':j < zs.length:=by simpa using hj
  have h5:=hcell j zs[j] (List.getElem?_eq_getElem hj')
  refine ⟨?_,by simp [World.frozen?,hb]⟩
  simp only [World.cell?,hb,Option.isSome_none,Bool.false_eq_true,if_false,h5]
  simp [hj']
 rw [hval,← hn]
 refine (hc blk off cap c.w hH hlt).mono ?_
 rintro e w' ⟨rfl,m,os,rfl⟩
 rw [hS]
 have hSl:S.length=zs.length:=by rw [← hS];exact List.length_mergeSort _
 obtain ⟨w1,hw1⟩:∃ w1,w1=putRow (Value.int .i64) (Sort.ahead c.w m) blk off S.toArray:=⟨_,rfl⟩
 rw [← hw1]
 have hb1:w1.heap[blk]? = some (.cells (putCells (Value.int .i64) off S.toArray a) T (0,0)):=by
  rw [hw1]
  show (c.w.heap.modify blk _)[blk]? = _
  rw [Array.getElem?_modify,if_pos rfl,hb];rfl
 have ho1:∀ b,b ≠ blk→w1.heap[b]? = c.w.heap[b]?:=fun b hne=>by
  rw [hw1]
  show (c.w.heap.modify blk _)[b]? = _
  rw [Array.getElem?_modify,if_neg (Ne.symm hne)]
 have hs1:w1.heap.size=c.w.heap.size:=by rw [hw1];simp [putRow,mapBlock,Sort.ahead]
 have hcs1:csize w1 (c.mu 0).1=csize c.w (c.mu 0).1:=by
  rw [← hblk]
  simp only [csize,hb,hb1]
  simp [putCells]
 have henv:w1.os=c.w.os∧w1.tape=c.w.tape∧w1.output=c.w.output:=by rw [hw1];exact ⟨rfl,rfl,rfl⟩
 have e1:=BL4 (o2:=.cells (S.map (AV.int .i64))) hR hat (fun b hne=>ho1 b (by rw [hblk];exact hne)) hcs1 hs1 henv
 have r1:=rel_wrO (o2:=.cells (S.map (AV.int .i64))) hR hat (fun b hne=>ho1 b (by rw [hblk];exact hne)) hcs1 hs1 henv ⟨_,T,by rw [← hblk];exact hb1,fun j x hj=>by
  rw [List.getElem?_map] at hj
  cases h5:S[j]? with
  | none=>rw [h5] at hj;cases hj
  | some z =>
   rw [h5] at hj;cases hj
   have hjl:=(List.getElem?_eq_some_iff.1 h5).1
   have h6:=hcell j (zs[j]'(by omega)) (List.getElem?_eq_getElem _)
   have hal:off+j < a.size:=(Array.getElem?_eq_some_iff.1 h6).1
   refine ⟨.int .i64 z,?_,RR_int.2 rfl,fun _ e=>(by cases e),fun _ e=>(by cases e)⟩
   rw [← hoff]
   show (putCells (Value.int .i64) off S.toArray a)[off+j]? = _
   unfold putCells
   rw [Array.getElem?_mapIdx,Array.getElem?_eq_getElem hal,Option.map_some,if_pos ⟨by omega,by simp;omega⟩]
   have h7:S.toArray[off+j - off]! = z:=by
    rw [Nat.add_sub_cancel_left,getElem!_pos _ _ (by simpa using hjl)]
    have:=(List.getElem?_eq_some_iff.1 h5).2
    simpa using this
   rw [h7]⟩
 obtain ⟨e2,r2⟩:=ext_more (w':=grow w1 os) r1 (by show w1.heap.size≤(w1.heap++os).size;simp) (fun b hb'=>by
  have hb2:b < w1.heap.size:=hb'
  show (w1.heap++os)[b]? = w1.heap[b]?
  rw [Array.getElem?_append,if_pos hb2]) ⟨rfl,rfl,rfl⟩
 refine ⟨_,rfl,.tup [],⟨[(0,.cells (S.map (AV.int .i64)))],1⟩,_,rfl,⟨rfl,rfl⟩,AG6.2 ⟨#[],rfl,rfl,fun j x hx=>by simp at hx⟩,r2,⟨?_,hm.U⟩,e1.trans e2⟩
 funext j
 show upd c.at_ [(0,some (.cells (S.map (AV.int .i64))))] j=lk [(0,.cells (S.map (AV.int .i64)))] j
 rw [BV9,hm.at_]
 by_cases e:j=0
 ·subst e;simp [lk]
 ·simp [lk,e]
@[irreducible] def kyC (vis:List Int) (n:Nat):List AV:=vis.map (AV.int .i64)++List.replicate (n - vis.length) (.int .i64 0)
theorem kyC_len {vis:List Int} {n:Nat} (h:vis.length≤n):(kyC vis n).length=n:=by unfold kyC;simp;omega
theorem kyC_0 {n:Nat}:(List.replicate n [AV.int .i64 0]).flatten=kyC [] n:=by unfold kyC;rw [List.flatten_replicate_singleton];simp
theorem kyC_s {vis:List Int} {n:Nat} {k:Int} (h:vis.length < n):over (kyC vis n) (vis.length * 1) [.int .i64 k]=kyC (vis++[k]) n:=by
 unfold kyC
 show ((vis.map (AV.int .i64)++List.replicate (n - vis.length) (AV.int .i64 0)).set (vis.length * 1) (.int .i64 k))=_
 rw [Nat.mul_one,List.set_append_right _ _ (by simp),List.length_map,Nat.sub_self]
 obtain ⟨q,hq⟩:∃ q,n - vis.length=q+1:=⟨n - vis.length - 1,by omega⟩
 rw [hq,List.replicate_succ,List.set_cons_zero,List.map_append,List.append_assoc]
 congr 1
 rw [List.length_append]
 show _=[AV.int .i64 k]++_
 rw [show n - (vis.length + [k].length)=q by simp;omega]
 rfl
theorem kyC_s0 {vis:List Int} {n:Nat} {k:Int} (h:vis.length < n):over (kyC vis n) (0+vis.length * 1) [.int .i64 k]=kyC (vis++[k]) n:=by rw [Nat.zero_add];exact kyC_s h
theorem BK6 {vis:List Int} {n:Nat} (h:vis.length=n):kyC vis n=vis.map (AV.int .i64):=by unfold kyC;rw [h,Nat.sub_self];simp
theorem AR3 {vis:List Int} {n:Nat}:∀ x ∈ kyC vis n,Plain x:=fun x hx=>by
 unfold kyC at hx
 rcases List.mem_append.1 hx with h|h
 ·obtain ⟨_,_,rfl⟩:=List.mem_map.1 h;exact A8
 ·rw [(List.mem_replicate.1 h).2];exact A8
theorem BV0 {l:List (Nat × AObj)} {nx bytes d n:Nat} {vis:List Int} {k:Int} {x:AV} {rd:List Nat} {K:AV→Up→Prop} (hs:At2 (lk l) 1 x=some ([.int .i64 k],1,rd)) (hd:lk l d=some (.cells (kyC vis n))) (hl:vis.length < n) (hk:K (.sl d 0 (vis.length+1) n 1) [(d,some (.cells (kyC (vis++[k]) n)))]):AppSX l nx 1 bytes (.sl d 0 vis.length n 1) x K :=
 AS3 (by rw [appV_in hs hd (by omega) (by rw [kyC_len (by omega)];omega),kyC_s0 hl]) hk
theorem Au9 {α:Type} [DecidableEq α]:∀ {a b:List α},a.Nodup→(∀ x ∈ a,x ∈ b)→a.length≤b.length
 | [],_,_,_=>Nat.zero_le _
 | x::r,b,hn,h=>by
  have hn':=List.nodup_cons.1 hn
  have hx:=h x (List.mem_cons_self ..)
  have ih:=Au9 (b:=b.erase x) hn'.2 fun y hy=>(List.mem_erase_of_ne (fun e:y=x=>hn'.1 (e▸hy))).2 (h y (List.mem_cons_of_mem _ hy))
  have hl:=List.length_erase_of_mem hx
  have hp:=List.length_pos_of_mem hx
  rw [List.length_cons];omega
structure LocSo (P:Program) (G:Gl) (f n:Nat) (zs S:List Int):Prop where
 out:AU0 P G f [.sl 0 0 n n 1] [(0,.cells (zs.map (AV.int .i64)))] 1 fun x h=>x = .tup []∧h=⟨[(0,.cells (S.map (AV.int .i64)))],1⟩
theorem Ar4 {l:List Int}:∀ x ∈ l.map (AV.int .i64),Plain x:=fun x hx=>by
 obtain ⟨_,_,rfl⟩:=List.mem_map.1 hx;exact A8
theorem cx_so {f n d nx:Nat} {zs S:List Int} {l:List (Nat × AObj)} {K:AV→Hp→Prop} (hG:AO8 G) (hc:LocSo P G f n zs S) (h0:lk l d=some (.cells (zs.map (AV.int .i64)))) (hlt:d < nx) (hk:AO2 [d] l fun l2=>K (.tup []) ⟨([(d,.cells (S.map (AV.int .i64)))]:List (Nat × AObj))++l2,nx⟩):AL4 P G (.fn f [] []) [.sl d 0 n n 1] ⟨l,nx⟩ K:=by
 have e0:enter [d] d 0:=rfl
 have k0:back [d] nx 0 d:=rfl
 refine AO7 (r':=.tup []) (l1:=[(d,.cells (S.map (AV.int .i64)))]) [d] hc.out hG rfl (.cons e0 h0 (D8 Ar4) .nil) ?_ (by intro x hx;simp only [List.mem_cons,List.not_mem_nil,or_false] at hx;omega) (F5 (E5 fun x hx=>by cases hx)) (.cons k0 (D8 Ar4) .nil) hk
 simp only [List.nil_append,List.append_nil]
 exact ⟨rn_sl e0,trivial⟩
end
end Go.Am
namespace Go.Proofs.YtbhgfoikbkaohaaGreat.Sh
open Go Go.Am
def cKs0:ACode:=.reg [⟨some 7,.load false 1 (.t 1),none⟩,⟨some 8,.mlen (.t 7),none⟩,⟨some 9,.mks 1 8 [.int .i64 0] (.k (.int .i64 0)) (.t 8),none⟩,⟨some 3,.mv (.t 9),none⟩]
def cKs4:ACode:=.reg [⟨some 16,.mv (.t 3),none⟩,⟨some 17,.mv (.t 4),none⟩,⟨some 18,.bslice 1 1 [.int .i64 0] [(0,1,.t 17)],none⟩,⟨some 19,.append 1 8 (.t 16) (.t 18),none⟩,⟨some 3,.mv (.t 19),none⟩]
def cKsR (z:AV):ACode:=.seq (.reg [⟨some 22,.mv (.t 3),none⟩,⟨some 23,.len (.t 22),none⟩,⟨some 24,.mv (.k (.int .i64 0)),none⟩]) (.block 2 (.loop (.seq (.reg [⟨some 25,.bin .lss (.t 24) (.t 23),none⟩]) (.seq (.cond (.t 25) .skip (.exit 2)) (.seq (.block 3 (.seq (.reg [⟨some 26,.iaddrS 1 (.t 22) (.t 24),none⟩,⟨some 27,.load false 1 (.t 26),none⟩,⟨some 6,.mv (.t 27),none⟩])
 (.seq (.reg [⟨some 28,.mv (.t 0),none⟩,⟨some 29,.mv (.t 6),none⟩,⟨some 30,.load false 1 (.t 1),none⟩,⟨some 31,.mv (.t 6),none⟩,⟨some 32,.mlook false false [0] z (.t 30) (.t 31),none⟩,⟨some 33,.call (.t 28) [.t 29,.t 32],none⟩,⟨some 34,.un .not (.t 33),none⟩]) (.cond (.t 34) .ret .skip)))) (.reg [⟨some 35,.bin .add (.t 24) (.k (.int .i64 1)),none⟩,⟨some 24,.mv (.t 35),none⟩]))))))
def cKs1 (z:AV):ACode:=.seq (.reg [⟨some 20,.mv (.t 3),none⟩,⟨some 21,.call (.k (.fn 81 [] [])) [.t 20],none⟩]) (cKsR z)
theorem bS_page:BodyS Tryz.prog 80 cKs0 1 10 11 12 13 14 15 4 cKs4 (cKs1 (.agg [.int .i64 0,.int .i64 0,.int .i64 0])) [] 36 :=
 ⟨by kernel_rfl,_,_,_,_,Tryz.func80,rfl,by kernel_rfl,⟨_,_,_,_,_,_,_,_,_,_,_,_,_,_,_,_,_,rfl,⟨rfl,rfl,rfl⟩,⟨rfl,rfl,rfl⟩,⟨rfl,rfl,rfl⟩,⟨rfl,rfl,rfl⟩,⟨rfl,rfl,rfl⟩,⟨rfl,rfl,rfl⟩,⟨rfl,rfl,rfl⟩,Tryz.underlying113,by kernel_rfl,by kernel_rfl⟩,by kernel_rfl,by kernel_rfl,rfl⟩
theorem bS_bytes:BodyS Tryz.prog 82 cKs0 1 10 11 12 13 14 15 4 cKs4 (cKs1 (.agg (List.replicate 64 (.int .u8 0)))) [] 36 :=
 ⟨by kernel_rfl,_,_,_,_,Tryz.func82,rfl,by kernel_rfl,⟨_,_,_,_,_,_,_,_,_,_,_,_,_,_,_,_,_,rfl,⟨rfl,rfl,rfl⟩,⟨rfl,rfl,rfl⟩,⟨rfl,rfl,rfl⟩,⟨rfl,rfl,rfl⟩,⟨rfl,rfl,rfl⟩,⟨rfl,rfl,rfl⟩,⟨rfl,rfl,rfl⟩,Tryz.underlying114,by kernel_rfl,by kernel_rfl⟩,by kernel_rfl,by kernel_rfl,rfl⟩
end Go.Proofs.YtbhgfoikbkaohaaGreat.Sh
