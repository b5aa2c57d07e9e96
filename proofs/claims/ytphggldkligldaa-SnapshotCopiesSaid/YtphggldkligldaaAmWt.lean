/-
 A walk as an argument's default: what is left of it is put together in one proposition. No program in sight.
-/
import Derived.Test.YtphggldkligldaaAmWu
set_option linter.unusedSimpArgs false
set_option linter.unusedVariables false
namespace Go.Am
structure HidP (p:Prop):Prop where
 out:p
section
variable {p A B qa qb:Prop} {b:Bool}
theorem br_dt [Decidable p] (h:p) (hA:A):BrX (decide p) A B:=br_t (decide_eq_true h) hA
theorem br_df [Decidable p] (h:¬ p) (hB:B):BrX (decide p) A B:=br_f (decide_eq_false h) hB
theorem br_dq [Decidable p] (hq:HidP ((p→qa)∧(¬ p→qb))) (hA:p→HidP qa→A) (hB:¬ p→HidP qb→B):BrX (decide p) A B:=br_d (fun h=>hA h ⟨hq.out.1 h⟩) fun h=>hB h ⟨hq.out.2 h⟩
theorem br_bq (hq:HidP ((b=true→qa)∧(b=false→qb))) (hA:b=true→HidP qa→A) (hB:b=false→HidP qb→B):BrX b A B:=br_b (fun h=>hA h ⟨hq.out.1 h⟩) fun h=>hB h ⟨hq.out.2 h⟩
theorem eqn_q {els:List (List AV)} {K:Bool→Prop} (hq:HidP (qa∧qb)) (hA:HidP qa→K true) (hB:HidP qb→K false):EqnX (.isl els) K:=by
 cases els with
 | nil=>exact ⟨hA ⟨hq.out.1⟩,hB ⟨hq.out.2⟩⟩
 | cons a l=>exact ⟨hB ⟨hq.out.2⟩⟩
theorem eqn_n {K:Bool→Prop} (hq:HidP (qa∧qb)) (hA:HidP qa→K true) (hB:HidP qb→K false):EqnX .nils K:=⟨hA ⟨hq.out.1⟩,hB ⟨hq.out.2⟩⟩
theorem eqn_cons {el:List AV} {els:List (List AV)} {K:Bool→Prop} (h:K false):EqnX (.isl (el::els)) K:=⟨h⟩
theorem eqn_mapc {α:Type} {f:α→List AV} {x:α} {l:List α} {K:Bool→Prop} (h:K false):EqnX (.isl ((x::l).map f)) K:=⟨h⟩
theorem eqn_sl {id off len cp sz:Nat} {K:Bool→Prop} (h:K false):EqnX (.sl id off len cp sz) K:=⟨h⟩
end
end Go.Am
