/-
 TopCopies: whatever the input,the law returns true,and each argument reads behind the call as it read before. No condition.
-/
import Derived.Test.YtphggldkligldaaGreatKj
import Derived.Test.YtphggldkligldaaGreatSnG
set_option linter.unusedSimpArgs false
set_option linter.unusedVariables false
namespace Go.Proofs.YtphggldkligldaaGreat
open Go Go.Am Go.Pol
open Go.ChangeShapes Go.WideShapes Go.ChangeAt Go.WideElems Go.RowKit
def cpT:Ty:=.struct (.cons (.int .u8) (.cons (.int .u8) (.cons (.int .u8) (.cons (.int .u8) (.cons (.int .u8) (.cons (.int .u8) .nil))))))
theorem shp_cp {xs:List AV} (h:Shp cpT xs):∃ x:Cp,xs=cpE x∧okP x:=by
 obtain ⟨y1,z1,rfl,⟨a,rfl,ha⟩,y2,z2,rfl,⟨b,rfl,hb⟩,y3,z3,rfl,⟨c,rfl,hc⟩,y4,z4,rfl,⟨d,rfl,hd⟩,y5,z5,rfl,⟨e,rfl,he⟩,y6,z6,rfl,⟨f,rfl,hf⟩,rfl⟩:=h
 obtain ⟨a,rfl,ga⟩:=wf_u8 ha
 obtain ⟨b,rfl,gb⟩:=wf_u8 hb
 obtain ⟨c,rfl,gc⟩:=wf_u8 hc
 obtain ⟨d,rfl,gd⟩:=wf_u8 hd
 obtain ⟨e,rfl,ge⟩:=wf_u8 he
 obtain ⟨f,rfl,gf⟩:=wf_u8 hf
 exact ⟨⟨a,b,c,d,e,f⟩,rfl,ga,gb,gc,gd,ge,gf⟩
theorem args_ok:tysOk Tryz.prog [.int .u8,.slice cpT] [5,106]=true:=by kernel_rfl
set_option maxRecDepth 100000 in
theorem law_true {W:World} {xss:List (List AV)} {vs:Array Value} (hs:ShpAll [.int .u8,.slice cpT] xss) (ha:argsR (baseCx W) (argVs [.int .u8,.slice cpT] xss) vs):Calls Tryz.prog 9 vs W fun e w'=>e = .returned (.bool true)∧Below W.heap.size W w':=by
 obtain ⟨xs,ys,rfl,h1,h2⟩:=shp_two hs
 obtain ⟨m0,rfl,hm0⟩:=h1
 obtain ⟨m,rfl,hm⟩:=wf_u8 hm0
 obtain ⟨els,rfl,hl,he⟩:=h2
 obtain ⟨l,rfl,hq⟩:=map_of (f:=cpE) (q:=okP) fun el hel=>shp_cp (he el hel)
 have hk:PureC Tryz.prog G0 9 [.int .u8 (m:Nat),.isl (l.map cpE)] (.bool true):=(Sh.k_top hm hq).out
 exact calls_true hk (glo _) ha
set_option maxRecDepth 100000 in
theorem lifted (os:Os) (started:os.Started) (H:Type) (enc:TypeId × Value→H) :
  ReturnsInHanded {} Tryz.checked os 9 .any (Rows.topCopiesSpec.pre6 enc Tryz.prog Tryz.f9 Rows.topCopiesRow.domain false) (Rows.topCopiesSpec.post enc Tryz.prog Tryz.f9 false true false false):=by
 refine returnsInHanded_of_change (C:=Tryz.checked) own started (by kernel_rfl) Tryz.func9
  (ChangeSpec.witness6 (enc:=enc) (C:=Tryz.checked) false ⟨#[],#[.int .u8 0,.slice none 0 0],[]⟩ 8 (by kernel_rfl) (by kernel_rfl) (by kernel_rfl) (by kernel_rfl)) ?_
 intro W base args ds gs before hval0 hW hcnd _
 have hval:∀ (j:Nat) t v,Tryz.f9.params[j]? = some t→args[j]? = some v→Value.okWide Tryz.prog W .any base t v:=hval0
 have hW':=hW
 obtain ⟨p,q,hA0,hV,rfl,hfz,hnd⟩:=hW
 have hA:DataW.TrodAll enc Tryz.prog W 0 (fun _=>true) true Tryz.f9.params.toList args.toList ds p:=hA0
 have hlt:∀ x ∈ p,x.block < W.heap.size:=fun x hx=>hW'.lt x (List.mem_append_left _ hx)
 have hA1:=hA
 rw [Tryz.params9] at hA hval
 obtain ⟨rfl,rfl⟩:=trodVars_none hV
 have hA2:DataW.TrodAll enc Tryz.prog W 0 (fun _=>true) true [5,106] args.toList ds p:=hA
 obtain ⟨v0,v1,d0,d1,p0,p1,rfl,rfl,rfl,h0,h1⟩:=trodAll_two hA2
 obtain ⟨xss,s1,s2,s3⟩:=args_rr (Ts:=[.int .u8,.slice cpT]) args_ok (fun j t v h h'=>hval j t v (by simpa using h) (by simpa using h')) hA2
 clear hA0 hval0
 simp only [List.append_nil] at hW'
 refine (law_true s1 (W:=W) (vs:=#[v0,v1]) ⟨by simpa using s2,fun j x hx=>by simpa using s3 j x hx⟩).mono fun e W' ⟨he,hg⟩=>?_
 subst he
 exact ⟨_,rfl,post_below (pa:=(p0++p1)) (pv:=[]) hW' (fun _ _ _=>trodAll_mk1 (shut_bool Tryz.underlying4 _)) (fun sp hsp=>args_stay (by kernel_rfl) hg (by
   rw [Tryz.params9]
   intro t ht
   have hall:([5,106].all fun t=>Tryz.prog.readableRec t && decide (t < Tryz.prog.types.size))=true:=by kernel_rfl
   have:=List.all_eq_true.1 hall t (by simpa using ht)
   simp only [Bool.and_eq_true,decide_eq_true_eq] at this
   exact this) hA1 hlt hsp) (fun _ _=>rfl) (by simp)
  hg (ok_one (by kernel_rfl) rfl (okWide_bool_mk Tryz.underlying4 _))⟩
theorem topCopies_holds:Rows.TopCopiesSaid :=
 OpenClaim.holds_of_wide 9 Tryz.f9 rfl rfl rfl rfl rfl rfl rfl ⟨rfl,rfl,rfl,rfl,rfl⟩ rfl rfl rfl rfl rfl (by kernel_rfl) Tryz.func9 (by kernel_rfl)
  (of_decide_eq_true (by kernel_rfl)) (by unfold Func.isWrapper;first|(rw [if_pos (by decide +kernel)];kernel_rfl)|(rw [if_neg (by decide +kernel)];exact ⟨rfl,rfl⟩))
  (fun os started H enc _=>lifted os started H enc)
end Go.Proofs.YtphggldkligldaaGreat
