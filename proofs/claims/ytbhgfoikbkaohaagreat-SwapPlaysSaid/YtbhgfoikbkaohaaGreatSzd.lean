/-
 SwapPlays: whatever the input,the law returns true,and each argument reads behind the call as it read before. No condition.
-/
import Derived.Test.YtbhgfoikbkaohaaGreatQau
set_option linter.unusedSimpArgs false
set_option linter.unusedVariables false
namespace Go.Proofs.YtbhgfoikbkaohaaGreat
open Go Go.Am Go.Pol
open Go.ChangeShapes Go.WideShapes Go.ChangeAt Go.WideElems Go.RowKit
theorem args_ok:tysOk Tryz.prog [playT] [27]=true:=by kernel_rfl
set_option maxRecDepth 100000 in
theorem law_true {W:World} {xss:List (List AV)} {vs:Array Value} (hs:BV5 [playT] xss) (ha:AF4 (AJ8 W) (argVs [playT] xss) vs):Calls Tryz.prog 4 vs W fun e w'=>e = .returned (.bool true)∧Below W.heap.size W w':=by
 obtain ⟨xs,rfl,h1⟩:=shp_one hs
 obtain ⟨p,rfl,hl,hq,-⟩:=shp_play h1
 have hk:Ae2 Tryz.prog G0 4 [.agg (BG3 p)] (.bool true):=(Sh.k_plays p hl (fun x hx=>(hq x hx).1)).out
 exact calls_true hk (glo _) ha
set_option maxRecDepth 100000 in
theorem lifted (os:Os) (started:os.Started) (H:Type) (enc:TypeId × Value→H) :
  ReturnsInHanded {} Tryz.checked os 4 .any (Rows.swapPlaysSpec.pre6 enc Tryz.prog Tryz.f4 Rows.swapPlaysRow.domain false) (Rows.swapPlaysSpec.post enc Tryz.prog Tryz.f4 false true false false):=by
 refine returnsInHanded_of_change (C:=Tryz.checked) own started (by kernel_rfl) Tryz.func4
  (ChangeSpec.witness6 (enc:=enc) (C:=Tryz.checked) false ⟨#[],#[.agg #[.int .i64 0,.int .i64 0,.int .i64 0,.int .i64 0,.slice none 0 0,.slice none 0 0]],[]⟩ 8 (by kernel_rfl) (by kernel_rfl) (by kernel_rfl) (by kernel_rfl)) ?_
 intro W base args ds gs before hval0 hW hcnd _
 have hval:∀ (j:Nat) t v,Tryz.f4.params[j]? = some t→args[j]? = some v→Value.okWide Tryz.prog W .any base t v:=hval0
 have hW':=hW
 obtain ⟨p,q,hA0,hV,rfl,hfz,hnd⟩:=hW
 have hA:DataW.TrodAll enc Tryz.prog W 0 (fun _=>true) true Tryz.f4.params.toList args.toList ds p:=hA0
 have hlt:∀ x ∈ p,x.block < W.heap.size:=fun x hx=>hW'.lt x (List.mem_append_left _ hx)
 have hA1:=hA
 rw [Tryz.params4] at hA hval
 obtain ⟨rfl,rfl⟩:=trodVars_none hV
 have hA2:DataW.TrodAll enc Tryz.prog W 0 (fun _=>true) true [27] args.toList ds p:=hA
 obtain ⟨v0,d0,rfl,rfl,h0⟩:=trodAll_one hA2
 obtain ⟨xss,s1,s2,s3⟩:=args_rr (Ts:=[playT]) args_ok (fun j t v h h'=>hval j t v (by simpa using h) (by simpa using h')) hA2
 clear hA0 hval0
 simp only [List.append_nil] at hW'
 refine (law_true s1 (W:=W) (vs:=#[v0]) ⟨by simpa using s2,fun j x hx=>by simpa using s3 j x hx⟩).mono fun e W' ⟨he,hg⟩=>?_
 subst he
 exact ⟨_,rfl,post_below (pa:=p) (pv:=[]) hW' (fun _ _ _=>trodAll_mk1 (shut_bool Tryz.underlying4 _)) (fun sp hsp=>BF8 (by kernel_rfl) hg (by
   rw [Tryz.params4]
   intro t ht
   have hall:([27].all fun t=>Tryz.prog.readableRec t && decide (t < Tryz.prog.types.size))=true:=by kernel_rfl
   have:=List.all_eq_true.1 hall t (by simpa using ht)
   simp only [Bool.and_eq_true,decide_eq_true_eq] at this
   exact this) hA1 hlt hsp) (fun _ _=>rfl) (by simp)
  hg (ok_one (by kernel_rfl) rfl (okWide_bool_mk Tryz.underlying4 _))⟩
theorem swapPlays_holds:Rows.SwapPlaysSaid :=
 OpenClaim.holds_of_wide 4 Tryz.f4 rfl rfl rfl rfl rfl rfl rfl ⟨rfl,rfl,rfl,rfl,rfl⟩ rfl rfl rfl rfl rfl (by kernel_rfl) Tryz.func4 (by kernel_rfl)
  (of_decide_eq_true (by kernel_rfl)) (by unfold Func.isWrapper;first|(rw [if_pos (by decide +kernel)];kernel_rfl)|(rw [if_neg (by decide +kernel)];exact ⟨rfl,rfl⟩))
  (fun os started H enc _=>lifted os started H enc)
end Go.Proofs.YtbhgfoikbkaohaaGreat
