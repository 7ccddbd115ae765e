/- The pure statement of the law FnExactRandNext: what the printed functions compute answers true, for every input. No condition beyond those that the statement itself names. -/
import Derived.Test.YteglhciieakmaaaPFnExactRandNextx1
import Derived.Test.YteglhciieakmaaaCom
namespace Go.Proofs.Yteglhciieakmaaa.Pure
open Go.RowKit Go.Proofs.Yteglhciieakmaaa.PFnExactRandNext Go.Proofs.YteglhciieakmaaaW.PrintWords Go.Proofs.YteglhciieakmaaaW.PrintLast Go.Proofs.Yteglhciieakmaaa.Com
set_option linter.unusedVariables false
set_option linter.unusedSimpArgs false
namespace FnExactRandNext_
theorem spec_l6In.val (a b c : Int) : spec_l6In.f a b c = some (inB a b c) := by
  unfold spec_l6In.f inB
  by_cases h : b ≤ a <;> simp [h]

theorem spec_RandNext.val (x : Int) : spec_RandNext.f x = some (rnd x) := by
  unfold spec_RandNext.f rnd
  rw [spec_l6In.val, Option.bind_some]
  by_cases h : 0 ≤ x ∧ x ≤ 65535
  · rw [inB_yes h.1 h.2, if_pos rfl, if_pos h, wrap64_id (x := x * 25173) (by omega) (by omega), wrap64_id (x := x * 25173 + 13849) (by omega) (by omega), Int.tmod_eq_emod_of_nonneg (by omega)]
  · rw [inB_no h, if_neg (by simp), if_neg h]

theorem impl_in.val (a b c : Int) : impl_in.f a b c = some (inB a b c) := by
  unfold impl_in.f inB
  by_cases h : b ≤ a <;> simp [h]

theorem impl_RandNext.val (x : Int) : impl_RandNext.f x = some (rnd x) := by
  unfold impl_RandNext.f rnd
  rw [impl_in.val, Option.bind_some]
  by_cases h : 0 ≤ x ∧ x ≤ 65535
  · rw [inB_yes h.1 h.2, if_pos rfl, if_pos h, Int.mul_comm 25173 x, wrap64_id (x := x * 25173) (by omega) (by omega), wrap64_id (x := x * 25173 + 13849) (by omega) (by omega), Int.tmod_eq_emod_of_nonneg (by omega)]
  · rw [inB_no h, if_neg (by simp), if_neg h]

theorem FnExactRandNext : laws_FnExactRandNext.Pure := by
  intro a0 _
  unfold laws_FnExactRandNext.f
  rw [spec_RandNext.val, impl_RandNext.val]
  simp
end FnExactRandNext_
theorem FnExactRandNext : laws_FnExactRandNext.Pure := FnExactRandNext_.FnExactRandNext
end Go.Proofs.Yteglhciieakmaaa.Pure
