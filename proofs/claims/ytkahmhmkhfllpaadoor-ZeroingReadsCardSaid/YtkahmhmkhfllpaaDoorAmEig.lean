/-
 Calls with what is only read,told of by relations: named blocks as values for the time of a call. No program in sight.
 Slices that grow,without parting: nil or not. No program in sight.
 Calls that are walked into;ranges over functions that are walked into. No program in sight.
-/
import Derived.Test.YtkahmhmkhfllpaaDoorAmSev
set_option linter.unusedSimpArgs false
set_option linter.unusedVariables false
namespace Go.Am
section
variable {P:Program} {G:Gl}
def FrzTo (P:Program) (at_:At) (rd:List Nat) (x y:AV):Prop:=∀ c c',Frz c c' rd at_→Rel P c→∀ v,RR c x v→RR c' y v
def FrzL (P:Program) (at_:At) (rd:List Nat):List AV→List AV→Prop
 | [],[]=>True
 | x::xs,y::ys=>FrzTo P at_ rd x y∧FrzL P at_ rd xs ys
 | _,_=>False
theorem FrzL.spec {at_:At} {rd:List Nat}:∀ {xs ys:List AV},FrzL P at_ rd xs ys→xs.length=ys.length∧∀ (j:Nat) y,ys[j]? = some y→∃ x,xs[j]? = some x∧FrzTo P at_ rd x y
 | [],[],_=>⟨rfl,fun j y hy=>by simp at hy⟩
 | x::xs,y::ys,hw=>by
  obtain ⟨h1,h2⟩:=hw.2.spec
  refine ⟨by simp [h1],fun j z hz=>?_⟩
  cases j with
  | zero=>simp at hz;subst hz;exact ⟨x,rfl,hw.1⟩
  | succ j=>obtain ⟨u,hu,hr⟩:=h2 j z (by simpa using hz);exact ⟨u,by simpa using hu,hr⟩
 | [],_::_,hw=>hw.elim
 | _::_,[],hw=>hw.elim
theorem frz_plain {at_:At} {rd:List Nat} {x:AV} (hp:Plain x):FrzTo P at_ rd x x:=fun _ _ hf _ _ hv=>hp.frz hf hv
theorem frzl_plain {at_:At} {rd:List Nat}:∀ {xs:List AV},(∀ x ∈ xs,Plain x)→FrzL P at_ rd xs xs
 | [],_=>trivial
 | x::xs,h=>⟨frz_plain (h x (List.mem_cons_self ..)),frzl_plain fun y hy=>h y (List.mem_cons_of_mem _ hy)⟩
theorem FrzL.rcs {at_:At} {rd:List Nat} {c c':Cx} {xs ys:List AV} {look:Nat→Option Value} (h:FrzL P at_ rd xs ys) (hf:Frz c c' rd at_) (hR:Rel P c) (hr:RCs (RR c) xs look):RCs (RR c') ys look:=fun j y hy=>by
 obtain ⟨x,hx,hxy⟩:=h.spec.2 j y hy
 obtain ⟨u,hu,hxu⟩:=hr j x hx
 exact ⟨u,hu,hxy c c' hf hR u hxu⟩
theorem FrzL.rc1 {at_:At} {rd:List Nat} {c c':Cx} {xs ys:List AV} {look:Nat→Option Value} (h:FrzL P at_ rd xs ys) (hf:Frz c c' rd at_) (hR:Rel P c) (hr:RC1 (RR c) xs look):RC1 (RR c') ys look:=fun j y hy=>by
 obtain ⟨x,hx,hxy⟩:=h.spec.2 j y hy
 obtain ⟨u,hu,hxu,h1⟩:=hr j x hx
 exact ⟨u,hu,hxy c c' hf hR u hxu,h1⟩
theorem frz_agg {at_:At} {rd:List Nat} {xs ys:List AV} (h:FrzL P at_ rd xs ys):FrzTo P at_ rd (.agg xs) (.agg ys):=fun c c' hf hR v hv=>by
 obtain ⟨vs,rfl,h1,h2⟩:=RR_agg.1 hv
 exact RR_agg.2 ⟨vs,rfl,by rw [h1,h.spec.1],h.rc1 hf hR h2⟩
theorem flatten_getE {sz:Nat}:∀ (els:List (List AV)),(∀ e ∈ els,e.length=sz)→∀ (k:Nat) (el:List AV) (j:Nat),els[k]? = some el→j < sz→els.flatten[k * sz+j]? = el[j]?
 | [],_,k,el,j,hk,_=>by simp at hk
 | e::els,hall,k,el,j,hk,hj=>by
  rw [List.flatten_cons]
  have he:=hall e (List.mem_cons_self ..)
  cases k with
  | zero =>
   simp at hk;subst hk
   rw [List.getElem?_append_left (by omega)];simp
  | succ k =>
   rw [List.getElem?_append_right (by rw [Nat.succ_mul];omega),he,← flatten_getE els (fun e he=>hall e (List.mem_cons_of_mem _ he)) k el j (by simpa using hk) hj]
   congr 1;rw [Nat.succ_mul];omega
theorem frz_slE {at_:At} {rd:List Nat} {i off len cp sz:Nat} {cs:List AV} {els els':List (List AV)} (hi:i ∈ rd) (hcs:at_ i=some (.cells cs)) (hl:els.length=len) (hl':els'.length=len) (hsz:∀ e ∈ els,e.length=sz) (hc:(cs.drop off).take (len * sz)=els.flatten)
  (he:∀ (k:Nat) e e',els[k]? = some e→els'[k]? = some e'→FrzL P at_ rd e e'):FrzTo P at_ rd (.sl i off len cp sz) (.isl els'):=fun c c' hf hR v hv=>by
 obtain ⟨_,hlt,cap,rfl,g1,g2,g3,g4⟩:=RR_sl.1 hv
 have hci:c.at_ i=some (.cells cs):=by rw [hf.at_ i hi];exact hcs
 obtain ⟨ar,T,h1,h2⟩:=hR.obj i _ hci
 refine RR_isl.2 ⟨_,cap,by rw [hl'],by omega,g3,fun _=>⟨_,_,sz,rfl,hf.nm i hi _ hci,fun k el hk=>?_⟩⟩
 have hk':k < els.length:=by have:=(List.getElem?_eq_some_iff.1 hk).1;omega
 have hke:els[k]? = some els[k]:=List.getElem?_eq_getElem hk'
 have hfe:=he k _ _ hke hk
 have hlen:=hsz _ (List.getElem_mem hk')
 refine ⟨by rw [← hfe.spec.1];exact hlen,?_⟩
 rw [hf.w]
 refine hfe.rc1 hf hR fun j x hx=>?_
 have hj:j < sz:=by have:=(List.getElem?_eq_some_iff.1 hx).1;omega
 have hcx:cs[off+(k * sz+j)]? = some x:=by
  have q:=flatten_getE els hsz k _ j hke hj
  rw [← hc,List.getElem?_take] at q
  split at q
  ·rw [List.getElem?_drop] at q;rw [q];exact hx
  ·rw [hx] at q;cases q
 obtain ⟨u,hu,hxu⟩:=h2 _ x hcx
 refine ⟨u,?_,hxu⟩
 show c.w.cell? _=_
 rw [cell_of h1,show (c.mu i).2+off+k * sz+j=(c.mu i).2+(off+(k * sz+j)) by omega]
 exact hu
theorem frz_row {α:Type} {f:α→List AV} {at_:At} {rd:List Nat} {i cp sz n:Nat} {l:List α} (hf:∀ x,(f x).length=sz) (hp:∀ c,∀ x ∈ f c,Plain x) (hi:i ∈ rd) (hcs:at_ i=some (.cells (flat f l))) (hn:n=l.length):FrzTo P at_ rd (.sl i 0 n cp sz) (.isl (l.map f)):=by
 subst hn
 refine frz_slE (els:=l.map f) hi hcs (by simp) (by simp) (fun e he=>?_) ?_ fun k e e' h1 h2=>?_
 ·obtain ⟨c,_,rfl⟩:=List.mem_map.1 he;exact hf c
 ·rw [List.drop_zero,List.take_of_length_le (by rw [flat_len hf];exact Nat.le_refl _)];rfl
 ·rw [h1] at h2;cases h2
  obtain ⟨c,_,rfl⟩:=List.mem_map.1 (List.mem_of_getElem? h1)
  exact frzl_plain (hp c)
theorem frz_nils {at_:At} {rd:List Nat}:FrzTo P at_ rd .nils (.isl []):=fun c c' _ _ v hv=>by
 obtain ⟨A,rfl⟩:=RR_nils.1 hv
 exact RR_isl.2 ⟨A,0,rfl,Nat.le_refl _,Nat.zero_le _,fun h=>absurd rfl h⟩
theorem fnU_frzR {g:Nat} {args args':List AV} {at_:At} {id:Nat} {r:AV} (rd:List Nat) (hp:PureC P G g args' r) (hG:PlainG G) (ha:FrzL P at_ rd args args') (hr:Scal r):FnU P G g args rd at_ r [] id:=by
 refine ⟨(hp at_ id).1,fun c vs hR hg hid hat hargs=>?_⟩
 let cb:Cx:={ U:=fun _=>False,at_:=fun _=>none,mu:=c.mu,w:=c.w,hid:=fun b=>c.hid b∨∃ id o,c.at_ id=some o∧id ∉ rd∧(c.mu id).1=b }
 have hf:Frz c cb rd at_:=by
  refine ⟨rfl,fun b hb=>⟨hb.1,fun _ _ h=>(by cases h),fun hh=>hh.elim hb.3 fun ⟨i,o,ho,_,e⟩=>hb.2 i o ho e⟩,fun i hi o ho=>⟨(hR.obj i o ho).lt,fun _ _ h=>(by cases h),fun hh=>hh.elim (hR.nohid i o ho) fun ⟨j,o',hj,hn,e⟩=>hn (hR.inj j i _ _ hj ho e▸hi)⟩,hat⟩
 have hRb:Rel P cb:=⟨fun _ _ h=>(by cases h),fun _ _ _ _ h=>(by cases h),fun _ _ h=>(by cases h),⟨0,fun _ h=>h.elim⟩,fun _ _ h=>(by cases h),fun b hb=>hb.elim (hR.hidlt b) fun ⟨i,o,ho,_,e⟩=>e▸(hR.obj i o ho).lt⟩
 have hgb:RelG G cb:=fun k cs hk=>(plain_iptr (hG k cs hk)).frz hf (hg k cs hk)
 have hab:argsR cb args' vs:=⟨by rw [hargs.1,ha.spec.1],ha.rcs hf hR hargs.2⟩
 refine ((hp (fun _=>none) 0).2 cb vs hRb hgb (fun h=>h) (fun i hi=>by cases hi) hab).mono ?_
 rintro e w' ⟨v,c2,rfl,rfl,hrv,hR2,he2,hat2,hU2⟩
 have named:∀ i o,c.at_ i=some o→c2.w.heap[(c.mu i).1]? = c.w.heap[(c.mu i).1]?:=fun i o ho=>by
  by_cases hi:i ∈ rd
  ·exact (he2.froz _ (hf.nm i hi o ho)).2
  ·exact he2.hidh _ (.inr ⟨i,o,ho,hi,rfl⟩)
 have he:Ext c { c with w:=c2.w }:=⟨fun _ h=>h,fun _ _=>rfl,he2.csz,fun b hb=>⟨⟨Nat.lt_of_lt_of_le hb.1 he2.size,hb.2,hb.3⟩,(he2.froz b (hf.froz b hb)).2⟩,he2.size,fun _=>Iff.rfl,fun b hb=>he2.hidh b (.inl hb),he2.env⟩
 refine ⟨v,{ c with w:=c2.w },rfl,rfl,hr c2 _ v hrv,?_,he,rfl,fun i=>by simp [newOf]⟩
 exact ⟨hR.used,hR.inj,fun i o ho=>(hR.obj i o ho).ext he (named i o ho),hR.many,hR.nohid,fun b hb=>Nat.lt_of_lt_of_le (hR.hidlt b hb) he2.size⟩
end
end Go.Am
namespace Go.Am
section
variable {α:Type} {f:α→List AV} {l:List α} {i j:Nat} {o:AObj} {r:List (Nat × AObj)}
theorem lk_own (h:j ≠ i):lk (ownH i f l++r) j=lk r j:=by
 by_cases hz:l.length=0
 ·rw [ownH_z hz];rfl
 ·rw [ownH_s hz];simp [lk,h]
theorem lk_ownS (hz:l.length ≠ 0):lk (ownH i f l++r) i=some (.cells (flat f l)):=by rw [ownH_s hz];simp [lk]
theorem lk_ownE (hz:l.length ≠ 0):lk (ownH i f l) i=some (.cells (flat f l)):=by rw [ownH_s hz];simp [lk]
theorem len_own {sz n:Nat}:lenV (ownV i sz n)=some (.int .i64 n):=by
 by_cases hz:n=0
 ·subst hz;rfl
 ·rw [own_s hz];rfl
end
section
variable {P:Program} {G:Gl} {fr:List AV} {h:Hp} {α:Type} {f:α→List AV} {l l2:List α}
theorem wk_own {σ:Nat→Nat} {h h':Hp} {i j sz n:Nat} (e:σ i=j) (hi:i < h'.next):WkV P σ h h' (ownV j sz n) (ownV i sz n):=by
 by_cases hz:n=0
 ·subst hz;rw [own_z,own_z];exact fun c v hR hm hr=>RR_nils.2 (RR_nils.1 hr)
 ·rw [own_s hz,own_s hz];exact wk_sl e hi rfl (Nat.le_refl _) (Nat.le_refl _)
theorem wk_frzS {σ:Nat→Nat} {h:Hp} {k i sz n:Nat} (hf:∀ x,(f x).length=sz) (hp:∀ c,∀ x ∈ f c,Plain x) (hi:lk h.l i=some (.cells (flat f l))) (hn:n=l.length):WkV P σ h ⟨[],k⟩ (.sl i 0 n n sz) (.isl (l.map f)):=by
 subst hn
 refine wk_frz hi (fun j o hj=>by cases hj) subH_nil (by simp) (fun e he=>?_) ?_ fun e he x hx=>?_
 ·obtain ⟨c,_,rfl⟩:=List.mem_map.1 he;exact hf c
 ·rw [List.drop_zero,List.take_of_length_le (by rw [flat_len hf];exact Nat.le_refl _)];rfl
 ·obtain ⟨c,_,rfl⟩:=List.mem_map.1 he;exact hp c x hx
theorem wk_frzO {σ:Nat→Nat} {h:Hp} {k i sz:Nat} (hf:∀ x,(f x).length=sz) (hp:∀ c,∀ x ∈ f c,Plain x) (hi:l.length ≠ 0→lk h.l i=some (.cells (flat f l))):WkV P σ h ⟨[],k⟩ (ownV i sz l.length) (.isl (l.map f)):=by
 by_cases hz:l.length=0
 ·rw [hz,own_z]
  cases List.eq_nil_of_length_eq_zero hz
  exact wk_nils
 ·rw [own_s hz];exact wk_frzS hf hp (hi hz) rfl
end
end Go.Am
namespace Go.Am
section
variable {P:Program} {G:Gl}
end
end Go.Am
