/-
 SnapshotLoads: whatever the input,the law returns true,and each argument reads behind the call as it read before. No condition.
-/
import Derived.Test.YtphggldkligldaaGreatQay
import Derived.Test.YtphggldkligldaaGreatQaz
set_option linter.unusedSimpArgs false
set_option linter.unusedVariables false
namespace Go.Proofs.YtphggldkligldaaGreat
open Go Go.Am Go.Pol
open Go.ChangeShapes Go.WideShapes Go.ChangeAt Go.WideElems Go.RowKit
def snT:Ty:=.struct (.cons (.int .i64) (.cons (.int .i64) (.cons stT .nil)))
theorem shp_sn {xs:List AV} (h:Shp snT xs):∃ (a n:Int) (R:List Rw),xs=[AV.int .i64 a,.int .i64 n,.isl (R.map rwC)]∧R.length≤maxLen:=by
 obtain ⟨y1,z1,rfl,⟨a,rfl,-⟩,y2,z2,rfl,⟨n,rfl,-⟩,y3,z3,rfl,h3,rfl⟩:=h
 obtain ⟨y4,z4,rfl,⟨els,rfl,hl,he⟩,rfl⟩:=h3
 obtain ⟨l,rfl,-⟩:=BX3 (f:=rwC) (q:=fun _=>True) fun el hel=>(shp_vw (he el hel)).imp fun _ h=>⟨h.1,trivial⟩
 exact ⟨a,n,l,rfl,by rw [List.length_map] at hl;exact hl⟩
theorem args_ok:tysOk Tryz.prog [playT,snT] [27,49]=true:=by kernel_rfl
set_option maxRecDepth 100000 in
theorem law_true {W:World} {xss:List (List AV)} {vs:Array Value} (hs:ShpAll [playT,snT] xss) (ha:AL8 (AL7 W) (argVs [playT,snT] xss) vs):Calls Tryz.prog 4 vs W fun e w'=>e = .returned (.bool true)∧Below W.heap.size W w':=by
 obtain ⟨xs,ys,rfl,h1,h2⟩:=shp_two hs
 obtain ⟨p,rfl,hl,hq⟩:=shp_play h1
 obtain ⟨a,n,R,rfl,hR⟩:=shp_sn h2
 have hk:Ah6 Tryz.prog G0 4 [.agg (pyE p),.agg [.int .i64 a,.int .i64 n,.isl (R.map rwC)]] (.bool true):=(Sh.k_loads hl (fun x hx=>(hq x hx).1) hR).out
 exact calls_true hk (glo _) ha
set_option maxRecDepth 100000 in
theorem lifted (os:Os) (started:os.Started) (H:Type) (enc:TypeId × Value→H) :
  ReturnsInHanded {} Tryz.checked os 4 .any (Rows.snapshotLoadsSpec.pre6 enc Tryz.prog Tryz.f4 Rows.snapshotLoadsRow.domain false) (Rows.snapshotLoadsSpec.post enc Tryz.prog Tryz.f4 false true false false):=by
 refine returnsInHanded_of_change (C:=Tryz.checked) own started (by kernel_rfl) Tryz.func4
  (ChangeSpec.witness6 (enc:=enc) (C:=Tryz.checked) false ⟨#[],#[.agg #[.int .i64 0,.int .i64 0,.slice none 0 0,.slice none 0 0],.agg #[.int .i64 0,.int .i64 0,.slice none 0 0]],[]⟩ 8 (by kernel_rfl) (by kernel_rfl) (by kernel_rfl) (by kernel_rfl)) ?_
 intro W base args ds gs before hval0 hW hcnd _
 have hval:∀ (j:Nat) t v,Tryz.f4.params[j]? = some t→args[j]? = some v→Value.okWide Tryz.prog W .any base t v:=hval0
 have hW':=hW
 obtain ⟨p,q,hA0,hV,rfl,hfz,hnd⟩:=hW
 have hA:DataW.TrodAll enc Tryz.prog W 0 (fun _=>true) true Tryz.f4.params.toList args.toList ds p:=hA0
 have hlt:∀ x ∈ p,x.block < W.heap.size:=fun x hx=>hW'.lt x (List.mem_append_left _ hx)
 have hA1:=hA
 rw [Tryz.params4] at hA hval
 obtain ⟨rfl,rfl⟩:=trodVars_none hV
 have hA2:DataW.TrodAll enc Tryz.prog W 0 (fun _=>true) true [27,49] args.toList ds p:=hA
 obtain ⟨v0,v1,d0,d1,p0,p1,rfl,rfl,rfl,h0,h1⟩:=trodAll_two hA2
 obtain ⟨xss,s1,s2,s3⟩:=args_rr (Ts:=[playT,snT]) args_ok (fun j t v h h'=>hval j t v (by simpa using h) (by simpa using h')) hA2
 clear hA0 hval0
 simp only [List.append_nil] at hW'
 refine (law_true s1 (W:=W) (vs:=#[v0,v1]) ⟨by simpa using s2,fun j x hx=>by simpa using s3 j x hx⟩).mono fun e W' ⟨he,hg⟩=>?_
 subst he
 exact ⟨_,rfl,post_below (pa:=(p0++p1)) (pv:=[]) hW' (fun _ _ _=>trodAll_mk1 (shut_bool Tryz.underlying4 _)) (fun sp hsp=>BK7 (by kernel_rfl) hg (by
   rw [Tryz.params4]
   intro t ht
   have hall:([27,49].all fun t=>Tryz.prog.readableRec t && decide (t < Tryz.prog.types.size))=true:=by kernel_rfl
   have:=List.all_eq_true.1 hall t (by simpa using ht)
   simp only [Bool.and_eq_true,decide_eq_true_eq] at this
   exact this) hA1 hlt hsp) (fun _ _=>rfl) (by simp)
  hg (ok_one (by kernel_rfl) rfl (okWide_bool_mk Tryz.underlying4 _))⟩
theorem snapshotLoads_holds:Rows.SnapshotLoadsSaid :=
 OpenClaim.holds_of_wide 4 Tryz.f4 rfl rfl rfl rfl rfl rfl rfl ⟨rfl,rfl,rfl,rfl,rfl⟩ rfl rfl rfl rfl rfl (by kernel_rfl) Tryz.func4 (by kernel_rfl)
  (of_decide_eq_true (by kernel_rfl)) (by unfold Func.isWrapper;first|(rw [if_pos (by decide +kernel)];kernel_rfl)|(rw [if_neg (by decide +kernel)];exact ⟨rfl,rfl⟩))
  (fun os started H enc _=>lifted os started H enc)
end Go.Proofs.YtphggldkligldaaGreat
