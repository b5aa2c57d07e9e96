/-
 SwapLoads: whatever the input,the law returns true,and each argument reads behind the call as it read before. No condition.
-/
import Derived.Test.YtbhgfoikbkaohaaGreatQaw
set_option linter.unusedSimpArgs false
set_option linter.unusedVariables false
namespace Go.Proofs.YtbhgfoikbkaohaaGreat
open Go Go.Am Go.Pol
open Go.ChangeShapes Go.WideShapes Go.ChangeAt Go.WideElems Go.RowKit
def swpT:Ty:=.struct (.cons (.int .i64) (.cons (.int .i64) (.cons (.int .i64) (.cons (.int .i64) .nil))))
def swdT:Ty:=.struct (.cons (.int .i64) (.cons (.arr .u8 64) .nil))
def swT:Ty:=.struct (.cons (.int .i64) (.cons (.int .i64) (.cons (.int .i64) (.cons (.int .i64) (.cons (.slice swpT) (.cons (.slice swdT) (.cons (.int .i64) (.cons (.int .i64) .nil))))))))
theorem shp_swp {xs:List AV} (h:Shp swpT xs):∃ x:Int × Int × Int × Int,xs=swA x:=by
 obtain ⟨y1,z1,rfl,⟨a,rfl,-⟩,y2,z2,rfl,⟨b,rfl,-⟩,y3,z3,rfl,⟨c,rfl,-⟩,y4,z4,rfl,⟨d,rfl,-⟩,rfl⟩:=h
 exact ⟨(a,b,c,d),rfl⟩
theorem bcA_of {l:List Int} (hl:l.length=64):l.map (AV.int .u8)=bcA fun j=>l.getD j 0:=by
 unfold bcA
 refine List.ext_getElem? fun i=>?_
 by_cases h:i < 64
 ·rw [M8 h,List.getElem?_map,List.getElem?_eq_getElem (by omega)]
  show some (AV.int .u8 _)=some (AV.int .u8 (l.getD i 0))
  rw [List.getD_eq_getElem?_getD,List.getElem?_eq_getElem (by omega)];rfl
 ·rw [List.getElem?_eq_none (by rw [List.length_map];omega),List.getElem?_eq_none (by rw [U0];omega)]
theorem shp_swd {xs:List AV} (h:Shp swdT xs):∃ x:Int × (Nat→Int),xs=swD x:=by
 obtain ⟨y1,z1,rfl,⟨p,rfl,-⟩,y2,z2,rfl,⟨l,rfl,hl,-⟩,rfl⟩:=h
 refine ⟨(p,fun j=>l.getD j 0),?_⟩
 rw [bcA_of hl];simp [swD]
theorem shp_sw {xs:List AV} (h:Shp swT xs):∃ a n pg sl W D i o,xs=T9 a n pg sl W D i o∧W.length≤maxLen∧D.length≤maxLen:=by
 obtain ⟨y1,z1,rfl,⟨a,rfl,-⟩,y2,z2,rfl,⟨n,rfl,-⟩,y3,z3,rfl,⟨pg,rfl,-⟩,y4,z4,rfl,⟨sl,rfl,-⟩,y5,z5,rfl,⟨e1,rfl,l1,h1⟩,y6,z6,rfl,⟨e2,rfl,l2,h2⟩,y7,z7,rfl,⟨i,rfl,-⟩,y8,z8,rfl,⟨o,rfl,-⟩,rfl⟩:=h
 obtain ⟨W,rfl,-⟩:=BE3 (f:=swA) (q:=fun _=>True) fun el hel=>(shp_swp (h1 el hel)).imp fun _ h=>⟨h,trivial⟩
 obtain ⟨D,rfl,-⟩:=BE3 (f:=swD) (q:=fun _=>True) fun el hel=>(shp_swd (h2 el hel)).imp fun _ h=>⟨h,trivial⟩
 exact ⟨a,n,pg,sl,W,D,i,o,rfl,by rw [List.length_map] at l1;exact l1,by rw [List.length_map] at l2;exact l2⟩
theorem args_ok:tysOk Tryz.prog [playT,swT] [27,31]=true:=by kernel_rfl
set_option maxRecDepth 100000 in
theorem law_true {W:World} {xss:List (List AV)} {vs:Array Value} (hs:ShpAll [playT,swT] xss) (ha:AI7 (AK5 W) (argVs [playT,swT] xss) vs):Calls Tryz.prog 3 vs W fun e w'=>e = .returned (.bool true)∧Below W.heap.size W w':=by
 obtain ⟨xs,ys,rfl,h1,h2⟩:=shp_two hs
 obtain ⟨p,rfl,hl,hq,-⟩:=shp_play h1
 obtain ⟨a,n,pg,sl,W,D,i,o,rfl,hW,hD⟩:=shp_sw h2
 have hk:Af4 Tryz.prog G0 3 [.agg (BA0 p),.agg (T9 a n pg sl W D i o)] (.bool true):=(Sh.k_loads p hl (fun x hx=>(hq x hx).1) a n pg sl i o W D hW hD).out
 exact calls_true hk (glo _) ha
set_option maxRecDepth 100000 in
theorem lifted (os:Os) (started:os.Started) (H:Type) (enc:TypeId × Value→H) :
  ReturnsInHanded {} Tryz.checked os 3 .any (Rows.swapLoadsSpec.pre6 enc Tryz.prog Tryz.f3 Rows.swapLoadsRow.domain false) (Rows.swapLoadsSpec.post enc Tryz.prog Tryz.f3 false true false false):=by
 refine returnsInHanded_of_change (C:=Tryz.checked) own started (by kernel_rfl) Tryz.func3
  (ChangeSpec.witness6 (enc:=enc) (C:=Tryz.checked) false ⟨#[],#[.agg #[.int .i64 0,.int .i64 0,.int .i64 0,.int .i64 0,.slice none 0 0,.slice none 0 0],.agg #[.int .i64 0,.int .i64 0,.int .i64 0,.int .i64 0,.slice none 0 0,.slice none 0 0,.int .i64 0,.int .i64 0]],[]⟩ 8 (by kernel_rfl) (by kernel_rfl) (by kernel_rfl) (by kernel_rfl)) ?_
 intro W base args ds gs before hval0 hW hcnd _
 have hval:∀ (j:Nat) t v,Tryz.f3.params[j]? = some t→args[j]? = some v→Value.okWide Tryz.prog W .any base t v:=hval0
 have hW':=hW
 obtain ⟨p,q,hA0,hV,rfl,hfz,hnd⟩:=hW
 have hA:DataW.TrodAll enc Tryz.prog W 0 (fun _=>true) true Tryz.f3.params.toList args.toList ds p:=hA0
 have hlt:∀ x ∈ p,x.block < W.heap.size:=fun x hx=>hW'.lt x (List.mem_append_left _ hx)
 have hA1:=hA
 rw [Tryz.params3] at hA hval
 obtain ⟨rfl,rfl⟩:=trodVars_none hV
 have hA2:DataW.TrodAll enc Tryz.prog W 0 (fun _=>true) true [27,31] args.toList ds p:=hA
 obtain ⟨v0,v1,d0,d1,p0,p1,rfl,rfl,rfl,h0,h1⟩:=trodAll_two hA2
 obtain ⟨xss,s1,s2,s3⟩:=args_rr (Ts:=[playT,swT]) args_ok (fun j t v h h'=>hval j t v (by simpa using h) (by simpa using h')) hA2
 clear hA0 hval0
 simp only [List.append_nil] at hW'
 refine (law_true s1 (W:=W) (vs:=#[v0,v1]) ⟨by simpa using s2,fun j x hx=>by simpa using s3 j x hx⟩).mono fun e W' ⟨he,hg⟩=>?_
 subst he
 exact ⟨_,rfl,post_below (pa:=(p0++p1)) (pv:=[]) hW' (fun _ _ _=>trodAll_mk1 (shut_bool Tryz.underlying4 _)) (fun sp hsp=>BH5 (by kernel_rfl) hg (by
   rw [Tryz.params3]
   intro t ht
   have hall:([27,31].all fun t=>Tryz.prog.readableRec t && decide (t < Tryz.prog.types.size))=true:=by kernel_rfl
   have:=List.all_eq_true.1 hall t (by simpa using ht)
   simp only [Bool.and_eq_true,decide_eq_true_eq] at this
   exact this) hA1 hlt hsp) (fun _ _=>rfl) (by simp)
  hg (ok_one (by kernel_rfl) rfl (okWide_bool_mk Tryz.underlying4 _))⟩
theorem swapLoads_holds:Rows.SwapLoadsSaid :=
 OpenClaim.holds_of_wide 3 Tryz.f3 rfl rfl rfl rfl rfl rfl rfl ⟨rfl,rfl,rfl,rfl,rfl⟩ rfl rfl rfl rfl rfl (by kernel_rfl) Tryz.func3 (by kernel_rfl)
  (of_decide_eq_true (by kernel_rfl)) (by unfold Func.isWrapper;first|(rw [if_pos (by decide +kernel)];kernel_rfl)|(rw [if_neg (by decide +kernel)];exact ⟨rfl,rfl⟩))
  (fun os started H enc _=>lifted os started H enc)
end Go.Proofs.YtbhgfoikbkaohaaGreat
