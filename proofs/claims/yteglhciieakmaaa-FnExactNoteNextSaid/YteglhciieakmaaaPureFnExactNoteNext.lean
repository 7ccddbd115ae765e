/- The pure statement of the law FnExactNoteNext: what the printed functions compute answers true, for every input. No condition beyond those that the statement itself names. -/
import Derived.Test.YteglhciieakmaaaPFnExactNoteNextx1
import Derived.Test.YteglhciieakmaaaCom
namespace Go.Proofs.Yteglhciieakmaaa.Pure
open Go.RowKit Go.Proofs.Yteglhciieakmaaa.PFnExactNoteNext Go.Proofs.YteglhciieakmaaaW.PrintWords Go.Proofs.YteglhciieakmaaaW.PrintLast Go.Proofs.Yteglhciieakmaaa.Com
set_option linter.unusedVariables false
set_option linter.unusedSimpArgs false
namespace FnExactNoteNext_
theorem spec_l6In.val (a b c : Int) : spec_l6In.f a b c = some (inB a b c) := by
  unfold spec_l6In.f inB
  by_cases h : b ≤ a <;> simp [h]

theorem spec_l3Keeper.val (a : Int) : spec_l3Keeper.f a = some (inB a 0 3) := by
  unfold spec_l3Keeper.f
  rw [spec_l6In.val]; rfl

theorem spec_NoteNext.at (k : Nat) (a b : Int) : spec_NoteNext.f (k + 1) a b = some (nxt a b) := by
  unfold spec_NoteNext.f
  rw [spec_l3Keeper.val, spec_l3Keeper.val]
  simp only [Option.bind_some, spec_NoteNext.j0]
  by_cases h1 : inB a 0 3 = true
  · by_cases h2 : inB b 0 3 = true
    · have g1 := inB_iff.1 h1
      have g2 := inB_iff.1 h2
      rw [if_pos h1, if_pos h2]
      by_cases h3 : a = b
      · have h4 : (a == b) = true := by simpa using h3
        rw [h4, if_pos rfl, nxt_none (fun h => h.2.2 h3)]
      · have h4 : (a == b) = false := by simpa using h3
        have hc : (0 ≤ a ∧ a ≤ 3) ∧ (0 ≤ b ∧ b ≤ 3) ∧ a ≠ b := ⟨g1, g2, h3⟩
        unfold nxt
        rw [h4, if_neg (by simp), if_pos hc, wrap64_id (x := a + 1) (by omega) (by omega), wrap64_id (x := a - 1) (by omega) (by omega)]
        split <;> rfl
    · rw [if_pos h1, if_neg h2, if_pos trivial, nxt_none (fun h => h2 (inB_iff.2 h.2.1))]
  · rw [if_neg h1, if_pos trivial, nxt_none (fun h => h1 (inB_iff.2 h.1))]
theorem spec_NoteNext.ev (a b : Int) : Ev (fun k => spec_NoteNext.f k a b) (nxt a b) := Ev.of (spec_NoteNext.mono a b) (spec_NoteNext.at 0 a b)

theorem impl_in.val (a b c : Int) : impl_in.f a b c = some (inB a b c) := by
  unfold impl_in.f inB
  by_cases h : b ≤ a <;> simp [h]

theorem impl_isNode.val (a : Int) : impl_isNode.f a = some (inB a 0 3) := by
  unfold impl_isNode.f
  rw [impl_in.val]; rfl

theorem impl_NoteNext.at (k : Nat) (a b : Int) : impl_NoteNext.f (k + 1) a b = some (nxt a b) := by
  unfold impl_NoteNext.f
  rw [impl_isNode.val, impl_isNode.val]
  simp only [Option.bind_some, impl_NoteNext.j0]
  by_cases h1 : inB a 0 3 = true
  · by_cases h2 : inB b 0 3 = true
    · have g1 := inB_iff.1 h1
      have g2 := inB_iff.1 h2
      rw [if_pos h1, if_pos h2]
      by_cases h3 : a = b
      · have h4 : (a == b) = true := by simpa using h3
        rw [h4, if_pos rfl, nxt_none (fun h => h.2.2 h3)]
      · have h4 : (a == b) = false := by simpa using h3
        have hc : (0 ≤ a ∧ a ≤ 3) ∧ (0 ≤ b ∧ b ≤ 3) ∧ a ≠ b := ⟨g1, g2, h3⟩
        unfold nxt
        rw [h4, if_neg (by simp), if_pos hc, wrap64_id (x := a + 1) (by omega) (by omega), wrap64_id (x := a - 1) (by omega) (by omega)]
        split <;> rfl
    · rw [if_pos h1, if_neg h2, if_pos trivial, nxt_none (fun h => h2 (inB_iff.2 h.2.1))]
  · rw [if_neg h1, if_pos trivial, nxt_none (fun h => h1 (inB_iff.2 h.1))]
theorem impl_NoteNext.ev (a b : Int) : Ev (fun k => impl_NoteNext.f k a b) (nxt a b) := Ev.of (impl_NoteNext.mono a b) (impl_NoteNext.at 0 a b)

theorem FnExactNoteNext : laws_FnExactNoteNext.Pure := by
  intro a0 a1 _ _
  refine ⟨1, ?_⟩
  unfold laws_FnExactNoteNext.f
  rw [spec_NoteNext.at, impl_NoteNext.at]
  simp
end FnExactNoteNext_
theorem FnExactNoteNext : laws_FnExactNoteNext.Pure := FnExactNoteNext_.FnExactNoteNext
end Go.Proofs.Yteglhciieakmaaa.Pure
