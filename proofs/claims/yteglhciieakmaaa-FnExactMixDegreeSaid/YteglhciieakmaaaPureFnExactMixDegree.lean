/- The pure statement of the law FnExactMixDegree: what the printed functions compute answers true, for every input. No condition beyond those that the statement itself names. -/
import Derived.Test.YteglhciieakmaaaPFnExactMixDegreex1
import Derived.Test.YteglhciieakmaaaCom
namespace Go.Proofs.Yteglhciieakmaaa.Pure
open Go.RowKit Go.Proofs.Yteglhciieakmaaa.PFnExactMixDegree Go.Proofs.YteglhciieakmaaaW.PrintWords Go.Proofs.YteglhciieakmaaaW.PrintLast Go.Proofs.Yteglhciieakmaaa.Com
set_option linter.unusedVariables false
set_option linter.unusedSimpArgs false
namespace FnExactMixDegree_
theorem spec_l6In.val (a b c : Int) : spec_l6In.f a b c = some (inB a b c) := by
  unfold spec_l6In.f inB
  by_cases h : b ≤ a <;> simp [h]

theorem spec_RandNext.val (x : Int) : spec_RandNext.f x = some (rnd x) := by
  unfold spec_RandNext.f rnd
  rw [spec_l6In.val, Option.bind_some]
  by_cases h : 0 ≤ x ∧ x ≤ 65535
  · rw [inB_yes h.1 h.2, if_pos rfl, if_pos h, wrap64_id (x := x * 25173) (by omega) (by omega), wrap64_id (x := x * 25173 + 13849) (by omega) (by omega), Int.tmod_eq_emod_of_nonneg (by omega)]
  · rw [inB_no h, if_neg (by simp), if_neg h]

theorem spec_MixDegree.out (k : Nat) {b n : Int} (h : ¬ ((1 ≤ b ∧ b ≤ 6) ∧ (0 ≤ n ∧ n ≤ 999))) : spec_MixDegree.f k b n = some 0 := by
  unfold spec_MixDegree.f spec_l1Ok.f
  rw [spec_l6In.val, spec_l6In.val]
  simp only [Option.bind_some]
  by_cases h1 : 1 ≤ b ∧ b ≤ 6
  · rw [inB_yes h1.1 h1.2, if_pos rfl, inB_no (x := n) (fun h2 => h ⟨h1, h2⟩)]; simp
  · rw [inB_no h1]; simp

theorem impl_in.val (a b c : Int) : impl_in.f a b c = some (inB a b c) := by
  unfold impl_in.f inB
  by_cases h : b ≤ a <;> simp [h]

theorem impl_RandNext.val (x : Int) : impl_RandNext.f x = some (rnd x) := by
  unfold impl_RandNext.f rnd
  rw [impl_in.val, Option.bind_some]
  by_cases h : 0 ≤ x ∧ x ≤ 65535
  · rw [inB_yes h.1 h.2, if_pos rfl, if_pos h, Int.mul_comm 25173 x, wrap64_id (x := x * 25173) (by omega) (by omega), wrap64_id (x := x * 25173 + 13849) (by omega) (by omega), Int.tmod_eq_emod_of_nonneg (by omega)]
  · rw [inB_no h, if_neg (by simp), if_neg h]

theorem impl_MixDegree.out (k : Nat) {b n : Int} (h : ¬ ((1 ≤ b ∧ b ≤ 6) ∧ (0 ≤ n ∧ n ≤ 999))) : impl_MixDegree.f k b n = some 0 := by
  unfold impl_MixDegree.f impl_mixOk.f
  rw [impl_in.val, impl_in.val]
  simp only [Option.bind_some]
  by_cases h1 : 1 ≤ b ∧ b ≤ 6
  · rw [inB_yes h1.1 h1.2, if_pos rfl, inB_no (x := n) (fun h2 => h ⟨h1, h2⟩)]; simp
  · rw [inB_no h1]; simp
/-- One number's degree: the two agree, and it is in range. -/
def degChk (b n : Nat) : Bool := match spec_MixDegree.f 16 (b : Int) (n : Int), impl_MixDegree.f 16 (b : Int) (n : Int) with
  | some d, some e => decide (d = e) && decide (1 ≤ d) && decide (d ≤ (b : Int))
  | _, _ => false
theorem deg_all : (List.range 6).all (fun b => (List.range 1000).all fun n => degChk (b + 1) n) = true := by decide +kernel
theorem deg_in {b n : Int} (hb : 1 ≤ b ∧ b ≤ 6) (hn : 0 ≤ n ∧ n ≤ 999) : ∃ d, Ev (fun k => spec_MixDegree.f k b n) d ∧ Ev (fun k => impl_MixDegree.f k b n) d ∧ 1 ≤ d ∧ d ≤ b := by
  obtain ⟨b', rfl⟩ := Int.eq_ofNat_of_zero_le (show 0 ≤ b by omega)
  obtain ⟨n', rfl⟩ := Int.eq_ofNat_of_zero_le hn.1
  have h := deg_all
  rw [List.all_eq_true] at h
  have h1 := h (b' - 1) (List.mem_range.2 (by omega))
  rw [List.all_eq_true] at h1
  have h2 := h1 n' (List.mem_range.2 (by omega))
  rw [show b' - 1 + 1 = b' from by omega] at h2
  unfold degChk at h2
  split at h2
  · rename_i d e hd he
    simp only [Bool.and_eq_true, decide_eq_true_eq] at h2
    obtain ⟨⟨rfl, h3⟩, h4⟩ := h2
    exact ⟨d, Ev.of (spec_MixDegree.mono _ _) hd, Ev.of (impl_MixDegree.mono _ _) he, h3, h4⟩
  · cases h2
theorem deg_any (b n : Int) : ∃ d, Ev (fun k => spec_MixDegree.f k b n) d ∧ Ev (fun k => impl_MixDegree.f k b n) d ∧ ((1 ≤ b ∧ b ≤ 6) ∧ (0 ≤ n ∧ n ≤ 999) → 1 ≤ d ∧ d ≤ b) ∧ (¬ ((1 ≤ b ∧ b ≤ 6) ∧ (0 ≤ n ∧ n ≤ 999)) → d = 0) := by
  by_cases h : (1 ≤ b ∧ b ≤ 6) ∧ (0 ≤ n ∧ n ≤ 999)
  · obtain ⟨d, h1, h2, h3⟩ := deg_in h.1 h.2
    exact ⟨d, h1, h2, fun _ => h3, fun hc => absurd h hc⟩
  · exact ⟨0, Ev.congr (fun k => spec_MixDegree.out k h) (Ev.now 0), Ev.congr (fun k => impl_MixDegree.out k h) (Ev.now 0), fun hc => absurd hc h, fun _ => rfl⟩

theorem FnExactMixDegree : laws_FnExactMixDegree.Pure := by
  intro b n _ _
  obtain ⟨d, h1, h2, _⟩ := deg_any b n
  refine Ev.rounds (g := fun k => laws_FnExactMixDegree.f k b n) ?_
  unfold laws_FnExactMixDegree.f
  exact Ev.bind h1 (Ev.bind h2 (ev_if rfl (Ev.now _)))
end FnExactMixDegree_
theorem FnExactMixDegree : laws_FnExactMixDegree.Pure := FnExactMixDegree_.FnExactMixDegree
end Go.Proofs.Yteglhciieakmaaa.Pure
