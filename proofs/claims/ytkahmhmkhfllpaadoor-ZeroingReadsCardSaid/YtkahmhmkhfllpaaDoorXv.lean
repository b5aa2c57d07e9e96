/-
 ZeroingReads: whatever the input,the law returns true,and each argument reads behind the call as it read before. Condition: the table of package math/bits reads as the program's text lays it (the card ties it to that text).
-/
import Derived.Test.YtkahmhmkhfllpaaDoorXf
import Derived.Test.YtkahmhmkhfllpaaDoorAmRead
import Derived.Test.YtkahmhmkhfllpaaDoorRows
import Derived.Test.YtkahmhmkhfllpaaDoorTie
import Derived.Test.YtkahmhmkhfllpaaDoorCards
import Derived.ProofKit
import Derived.LaidMore
import Derived.OpenShut
import Derived.Stop.Joined
import Derived.SevenTiedAt
set_option linter.unusedSimpArgs false
set_option linter.unusedVariables false
namespace Go.Proofs.YtkahmhmkhfllpaaDoor
open Go Go.Am Go.Pol
open Go.ChangeShapes Go.WideShapes Go.ChangeAt Go.WideMaps Go.WideElems Go.RowKit
theorem own:ownKnob Tryd.prog.godebug=none:=by kernel_rfl
abbrev laidZ:List (String × DataW Unit):=[("math/bits.deBruijn64tab",Rows.laid_math_bits_deBruijn64tab)]
theorem gTab:Tryd.prog.globalNamed "math/bits.deBruijn64tab" = some 0:=by kernel_rfl
theorem tTab:(Tryd.prog.globals[0]?).map (·.type)=some 65:=by kernel_rfl
theorem door_met (os:Os) (args:Array Value):laidMetH Tryd.prog laidZ ((World.doorLaid Tryd.prog 400 os).forCall (fun _ _=>0) ⟨#[],args,[]⟩).memory :=
 laidMetH_of_parts3 (fuel:=8) (laidMet_of_run' 8 (by kernel_rfl) (by kernel_rfl)) (by kernel_rfl) (by kernel_rfl)
theorem tab_read {P:Program} {H:Type} {enc:TypeId × Value→H} {w:World} {base fuel n:Nat} {spare:Nat→Bool} {held:Bool} {t e:TypeId} {k:IntKind} {L:List Int} {cs:List Value} {ps:List MemPlace} (ht:P.underlying t=some (.array n e)) (he:P.underlying e=some (.int k)) (h1:P.cellsOf e=1) (hL:L.length=n)
  (hd:DataW.trod enc P w base spare held fuel t cs=some (.agg (L.map fun x=>.lit (.int k x)),ps)) (j:Nat) (x:Int) (hx:L[j]? = some x):cs[j]? = some (.int k x):=by
 obtain ⟨xs,m,-,hx1,-,hn,hel⟩:=DataW.trod_array ht hd
 simp only [Prod.mk.injEq,DataW.agg.injEq] at hx1
 have hj:j < n:=by rw [← hL];exact (List.getElem?_eq_some_iff.1 hx).1
 have h0:=hel j hj
 rw [h1,Nat.mul_one] at h0
 obtain ⟨y,hy⟩:∃ y,xs[j]? = some y:=⟨xs[j]'(by omega),List.getElem?_eq_getElem _⟩
 rw [hy] at h0
 obtain ⟨z,e1,e2,-⟩:=DataW.trod_int he h0
 have h2:(xs.map (·.1))[j]? = some y.1:=by rw [List.getElem?_map,hy];rfl
 rw [← hx1.1,List.getElem?_map,hx,e2] at h2
 simp only [Option.map_some,Option.some.injEq,DataW.lit.injEq,Lit.int.injEq] at h2
 have h3:((cs.drop j).take 1)[0]? = some (.int k z):=by rw [e1];rfl
 rw [List.getElem?_take,if_pos (by omega),List.getElem?_drop,Nat.add_zero] at h3
 rw [h3,h2.2]
theorem tab_lits:(Rows.laid_math_bits_deBruijn64tab:DataW Unit) = .agg ((Lib.deBruijn64tab.map fun (n:Nat)=>(n:Int)).map fun x=>.lit (.int .u8 x)):=by kernel_rfl
theorem of_laid {W:World} (h:laidMetH Tryd.prog laidZ W):RelG G0 (baseCx W):=by
 rw [MakeChecks.laidMetH_plain _ _ _ (by kernel_rfl)] at h
 obtain ⟨ps,⟨g0,t0,cs0,f0,p0,q0,hg0,ht0,hv0,hd0,_,_⟩,_,_⟩:=h
 obtain rfl:=Option.some.inj (gTab.symm.trans hg0)
 obtain rfl:=Option.some.inj (tTab.symm.trans ht0)
 rw [tab_lits] at hd0
 have hr:=tab_read Tryd.underlying65 Tryd.underlying5 (by kernel_rfl) (by simp [Lib.deBruijn64tab]) hd0
 have hcell:∀ j x,tabA[j]? = some x→∃ u,W.cell? ⟨0,0+j,none⟩=some u∧RR (baseCx W) x u∧One u:=fun j x hx=>by
  simp only [tabA,List.getElem?_map,Option.map_eq_some_iff] at hx
  obtain ⟨m,hm,rfl⟩:=hx
  have h1:=hr j (m:Int) (by rw [List.getElem?_map,hm];rfl)
  have h2:=World.var?_cell hg0 hv0 j
  refine ⟨_,?_,RR_int.2 rfl,one_int⟩
  rw [Nat.zero_add,h2,← h1]
  simp
 intro n cs hn
 unfold G0 at hn
 split at hn
 ·rename_i e
  cases hn
  subst e
  obtain ⟨u,hu,-⟩:=hcell 0 (.int .u8 0) (by kernel_rfl)
  have hlt:0 < W.heap.size:=by
   refine Classical.byContradiction fun hlt=>?_
   have hnn:W.heap[0]? = none:=Array.getElem?_eq_none (by omega)
   simp [World.cell?,hnn] at hu
  exact RR_iptr.2 ⟨_,_,rfl,base_froz hlt,hcell⟩
 ·cases hn
def cutT:Ty:=.struct (.cons (.int .i64) (.cons (.int .i64) .nil))
def pageT:Ty:=.struct (.cons (.int .i64) (.cons (.slice cutT) .nil))
def stT:Ty:=.struct (.cons (.slice pageT) .nil)
theorem map_of {α:Type} {f:α→List AV} {q:α→Prop}:∀ {els:List (List AV)},(∀ el ∈ els,∃ c,el=f c∧q c)→∃ l:List α,els=l.map f∧∀ c ∈ l,q c
 | [],_=>⟨[],rfl,fun c hc=>by cases hc⟩
 | el::els,h=>by
  obtain ⟨c,rfl,hq⟩:=h el (List.mem_cons_self ..)
  obtain ⟨l,rfl,hl⟩:=map_of fun e he=>h e (List.mem_cons_of_mem _ he)
  exact ⟨c::l,rfl,fun d hd=>(List.mem_cons.1 hd).elim (fun e=>e▸hq) (hl d)⟩
theorem shp_two {xs:List AV} (h:Shp cutT xs):∃ c:Cut,xs=cutA c:=by
 obtain ⟨ys,zs,rfl,⟨a,rfl,-⟩,us,vs,rfl,⟨b,rfl,-⟩,rfl⟩:=h
 exact ⟨(a,b),rfl⟩
theorem wf_b8 {n:Int} (h:(Lit.int .u8 n).wf=true):∃ m:Nat,n=(m:Int)∧m < 256:=by
 simp [Lit.wf,IntKind.min,IntKind.max,IntKind.signed,IntKind.bits] at h
 exact ⟨n.toNat,by omega,by omega⟩
def putT:Ty:=.struct (.cons (.int .i64) (.cons (.int .u8) .nil))
def madeT:Ty:=.struct (.cons (.slice cutT) (.cons (.slice putT) .nil))
theorem shp_put {xs:List AV} (h:Shp putT xs):∃ c:II,xs=puA c∧0≤c.2∧c.2 < 256:=by
 obtain ⟨ys,zs,rfl,⟨a,rfl,-⟩,us,vs,rfl,⟨b,rfl,hb⟩,rfl⟩:=h
 obtain ⟨m,rfl,hm⟩:=wf_b8 hb
 exact ⟨(a,(m:Nat)),rfl,Int.natCast_nonneg m,by show (m:Int) < 256;omega⟩
theorem shp_made {xs:List AV} (h:Shp madeT xs):∃ X P:List II,xs=[.isl (X.map cutA),.isl (P.map puA)]∧X.length≤maxLen∧P.length≤maxLen∧∀ c ∈ P,0≤c.2∧c.2 < 256:=by
 obtain ⟨ys,zs,rfl,⟨els,rfl,hl,he⟩,us,vs,rfl,⟨els2,rfl,hl2,he2⟩,rfl⟩:=h
 obtain ⟨l,rfl,-⟩:=map_of (f:=cutA) (q:=fun _=>True) fun el hel=>by
  obtain ⟨c,rfl⟩:=shp_two (he el hel);exact ⟨c,rfl,trivial⟩
 obtain ⟨m,rfl,hm⟩:=map_of (f:=puA) (q:=fun c=>0≤c.2∧c.2 < 256) fun el hel=>shp_put (he2 el hel)
 exact ⟨l,m,rfl,by simpa using hl,by simpa using hl2,hm⟩
theorem args_ok:tysOk Tryd.prog [madeT,cutT] [25,30]=true:=by kernel_rfl
theorem shp_args {T U:Ty}:∀ {xss:List (List AV)},ShpAll [T,U] xss→∃ xs ys,xss=[xs,ys]∧Shp T xs∧Shp U ys
 | [xs,ys],h=>⟨xs,ys,rfl,h.1,h.2.1⟩
 | [],h=>h.elim
 | [_],h=>h.2.elim
 | _::_::_::_,h=>h.2.2.elim
set_option maxRecDepth 100000 in
theorem law_true {W:World} {xss:List (List AV)} {vs:Array Value} (hs:ShpAll [madeT,cutT] xss) (hG:RelG G0 (baseCx W)) (ha:argsR (baseCx W) (argVs [madeT,cutT] xss) vs):Calls Tryd.prog 4 vs W fun e w'=>e = .returned (.bool true)∧Below W.heap.size W w':=by
 obtain ⟨xs,ys,rfl,h1,h2⟩:=shp_args hs
 obtain ⟨X,P,rfl,l1,l2,-⟩:=shp_made h1
 obtain ⟨⟨a,n⟩,rfl⟩:=shp_two h2
 have hk:=(k_reads (X:=X) (P:=P) (at_:=a) (n:=n) (by unfold maxLen at l1;omega) (by unfold maxLen at l2;omega)).out
 exact calls_true hk hG ha
set_option maxRecDepth 100000 in
theorem lifted (os:Os) (started:os.Started) (H:Type) (enc:TypeId × Value→H) :
  ReturnsInHanded {} Tryd.checked os 4 .any (fun w args=>(Rows.zeroingReadsSpec.pre enc Tryd.prog Tryd.f4 [] false w args∧laidMetH Tryd.prog laidZ w)∧sizedMet enc Tryd.prog Tryd.f4 (OpenSpec.ofChange Rows.zeroingReadsSpec) false w args)
   (Rows.zeroingReadsSpec.post enc Tryd.prog Tryd.f4 false true false false):=by
 refine returnsInHanded_of_change_and (C:=Tryd.checked) (X:=fun w _=>laidMetH Tryd.prog laidZ w) (fun _ _ _ hh h=>h.of_heap hh) own started (by kernel_rfl) Tryd.func4
  (ChangeSpec.witness_shaped (enc:=enc) (C:=Tryd.checked) (os:=os) (X:=fun w _=>laidMetH Tryd.prog laidZ w) false (World.doorLaid Tryd.prog 400 os) #[.agg #[.slice none 0 0,.slice none 0 0],.agg #[.int .i64 0,.int .i64 0]] 8 rfl (World.shaped_of_RefB (by kernel_rfl) (by kernel_rfl)) (by kernel_rfl) (by kernel_rfl) (by kernel_rfl) (door_met os _)) ?_
 intro W base args ds gs before hval0 hW _ _ hL _
 have hval:∀ (j:Nat) t v,Tryd.f4.params[j]? = some t→args[j]? = some v→Value.okWide Tryd.prog W .any base t v:=hval0
 have hW':=hW
 obtain ⟨p,q,hA0,hV,rfl,hfz,hnd⟩:=hW
 have hA:DataW.TrodAll enc Tryd.prog W 0 (fun _=>true) true Tryd.f4.params.toList args.toList ds p:=hA0
 have hlt:∀ x ∈ p,x.block < W.heap.size:=fun x hx=>hW'.lt x (List.mem_append_left _ hx)
 have hA1:=hA
 rw [Tryd.params4] at hA hval
 obtain ⟨rfl,rfl⟩:=trodVars_none hV
 have hA2:DataW.TrodAll enc Tryd.prog W 0 (fun _=>true) true [25,30] args.toList ds p:=hA
 obtain ⟨v0,v1,d0,d1,p0,p1,rfl,rfl,rfl,h0,h1⟩:=trodAll_two hA2
 obtain ⟨xss,s1,s2,s3⟩:=args_rr (Ts:=[madeT,cutT]) args_ok (fun j t v h h'=>hval j t v (by simpa using h) (by simpa using h')) hA2
 clear hA0 hval0
 simp only [List.append_nil] at hW'
 refine (law_true s1 (of_laid hL) (W:=W) (vs:=#[v0,v1]) ⟨by simpa using s2,fun j x hx=>by simpa using s3 j x hx⟩).mono fun e W' ⟨he,hg⟩=>?_
 subst he
 exact ⟨_,rfl,post_below (pa:=p0++p1) (pv:=[]) hW' (fun _ _ _=>trodAll_mk1 (shut_bool Tryd.underlying4 _)) (fun sp hsp=>args_stay (by kernel_rfl) hg (by
   rw [Tryd.params4]
   intro t ht
   have hall:([25,30].all fun t=>Tryd.prog.readableRec t && decide (t < Tryd.prog.types.size))=true:=by kernel_rfl
   have:=List.all_eq_true.1 hall t (by simpa using ht)
   simp only [Bool.and_eq_true,decide_eq_true_eq] at this
   exact this) hA1 hlt hsp) (fun _ _=>rfl) (by simp)
  hg (ok_one (by kernel_rfl) rfl (okWide_bool_mk Tryd.underlying4 _))⟩
theorem row_holds:Rows.ZeroingReadsSaid :=
 OpenClaim.holds_of_wide 4 Tryd.f4 rfl rfl rfl rfl rfl rfl rfl ⟨rfl,rfl,rfl,rfl,rfl⟩ rfl rfl rfl rfl rfl (by kernel_rfl) Tryd.func4 (by kernel_rfl)
  (of_decide_eq_true (by kernel_rfl)) (by unfold Func.isWrapper;first|(rw [if_pos (by decide +kernel)];kernel_rfl)|(rw [if_neg (by decide +kernel)];exact ⟨rfl,rfl⟩))
  (fun os started H enc _=>lifted os started H enc)
theorem zeroingReadsCard_holds:Rows.ZeroingReadsCardSaid :=
 Claim7.holds_tied_plain_at .later [] [.data] true (true, "5c60d62028bf5237b64f2e371c7526dfaa097686edd137bc3a37ad7e4bee4b3a") false
  row_holds (fun _ h=>by cases h) (by kernel_rfl) (fun _ h=>by cases h) zeroingReads_row_tie rfl ⟨rfl,rfl⟩ (by kernel_rfl) rfl
  (fun f fn hf hfn=>by
   obtain rfl:f=4:=Option.some.inj ((show Tryd.prog.funcNamed "polder/polderlaw15.ZeroingReads" = some 4 by kernel_rfl).symm.trans hf) |>.symm
   obtain rfl:fn=Tryd.f4:=(Option.some.inj (Tryd.func4.symm.trans hfn)).symm
   exact ⟨by kernel_rfl,fun j t ht=>by
    rw [Tryd.params4] at ht
    have hm:t ∈ [25,30]:=by simpa using Array.mem_of_getElem? ht
    have hall:([25,30].all fun u=>!Tryd.prog.wantsStandIn u)=true:=by kernel_rfl
    exact (show Tryd.prog.wantsStandIn t=false by simpa using List.all_eq_true.1 hall t hm)⟩)
  (by kernel_rfl)
end Go.Proofs.YtkahmhmkhfllpaaDoor
