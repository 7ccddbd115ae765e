/- The pure statement of the law FnRandNext: what the printed functions compute answers true, for every input. No condition beyond those that the statement itself names. -/
import Derived.Test.YteglhciieakmaaaPFnRandNextx1
import Derived.Test.YteglhciieakmaaaCom
namespace Go.Proofs.Yteglhciieakmaaa.Pure
open Go.RowKit Go.Proofs.Yteglhciieakmaaa.PFnRandNext Go.Proofs.YteglhciieakmaaaW.PrintWords Go.Proofs.YteglhciieakmaaaW.PrintLast Go.Proofs.Yteglhciieakmaaa.Com
set_option linter.unusedVariables false
set_option linter.unusedSimpArgs false
namespace FnRandNext_
theorem spec_l6In.val (a b c : Int) : spec_l6In.f a b c = some (inB a b c) := by
  unfold spec_l6In.f inB
  by_cases h : b ≤ a <;> simp [h]

theorem spec_RandNext.val (x : Int) : spec_RandNext.f x = some (rnd x) := by
  unfold spec_RandNext.f rnd
  rw [spec_l6In.val, Option.bind_some]
  by_cases h : 0 ≤ x ∧ x ≤ 65535
  · rw [inB_yes h.1 h.2, if_pos rfl, if_pos h, wrap64_id (x := x * 25173) (by omega) (by omega), wrap64_id (x := x * 25173 + 13849) (by omega) (by omega), Int.tmod_eq_emod_of_nonneg (by omega)]
  · rw [inB_no h, if_neg (by simp), if_neg h]

theorem impl_in.val (a b c : Int) : impl_in.f a b c = some (inB a b c) := by
  unfold impl_in.f inB
  by_cases h : b ≤ a <;> simp [h]

theorem impl_RandNext.val (x : Int) : impl_RandNext.f x = some (rnd x) := by
  unfold impl_RandNext.f rnd
  rw [impl_in.val, Option.bind_some]
  by_cases h : 0 ≤ x ∧ x ≤ 65535
  · rw [inB_yes h.1 h.2, if_pos rfl, if_pos h, Int.mul_comm 25173 x, wrap64_id (x := x * 25173) (by omega) (by omega), wrap64_id (x := x * 25173 + 13849) (by omega) (by omega), Int.tmod_eq_emod_of_nonneg (by omega)]
  · rw [inB_no h, if_neg (by simp), if_neg h]

theorem spec_l6Open.val {l : List Int} (h : Byt l) : ∃ l', spec_l6Open.f l = some (l', 0) ∧ Byt l' ∧ l'.length ≤ 2000 := by
  unfold spec_l6Open.f
  by_cases h1 : (l.length : Int) > 2000
  · exact ⟨l.take 2000, by rw [if_pos h1, if_pos (by omega)], byt_take h _, by rw [List.length_take]; omega⟩
  · exact ⟨l, by rw [if_neg h1], h, by omega⟩

/-- A number is drawn: from 0 to n - 1. -/
theorem spec_l6Rd_pick.ok {l : List Int} (hl : Byt l) (hn : l.length ≤ 2000) {p : Int} (hp0 : 0 ≤ p) (hp1 : p < 1000000000000) (n : Int) (hn1 : n ≤ 1000000000) :
    ∃ r, (∀ k, spec_l6Rd_pick.f (k + 1) l p n = some (r, p + 1)) ∧ 0 ≤ r ∧ (1 ≤ n → r < n) ∧ r ≤ 1000000000 := by
  have e1 : wrap64 (p + 1) = p + 1 := wrap64_id (by omega) (by omega)
  have e2 : wrap64 (p + 1 - 1) = p := by rw [wrap64_id (by omega) (by omega)]; omega
  by_cases hz : n < 1 ∨ l.length = 0
  · refine ⟨0, fun k => ?_, by omega, by omega, by omega⟩
    unfold spec_l6Rd_pick.f
    by_cases h1 : n < 1
    · rw [if_pos h1, e1]; simp only [spec_l6Rd_pick.j0, if_true]
    · have h0 : ((l.length : Int) == 0) = true := by simp; have : l.length = 0 := by omega
                                                     simpa using this
      rw [if_neg h1, e1, h0]; simp only [spec_l6Rd_pick.j0, if_true]
  · have h1 : ¬ n < 1 := fun h => hz (.inl h)
    have h0 : ((l.length : Int) == 0) = false := by
      rw [beq_eq_false_iff_ne]; omega
    have hlen : 0 < l.length := by omega
    by_cases hlt : p < (l.length : Int)
    · have hb := rd_byt hl p
      refine ⟨rd l p % n, fun k => ?_, Int.emod_nonneg _ (by omega), fun _ => Int.emod_lt_of_pos _ (by omega), by have := Int.emod_lt_of_pos (rd l p) (show 0 < n by omega); omega⟩
      unfold spec_l6Rd_pick.f
      rw [if_neg h1, e1, h0]
      simp only [spec_l6Rd_pick.j0]
      rw [if_neg (by simp), e2, if_pos hlt, if_pos hp0, if_neg (by omega), wrap64_id (by omega) (by omega), Int.tmod_eq_emod_of_nonneg (by omega)]
    · have f1 : 0 ≤ p % (l.length : Int) := Int.emod_nonneg _ (by omega)
      have f2 : p % (l.length : Int) < (l.length : Int) := Int.emod_lt_of_pos _ (by omega)
      have t1 : Int.tmod p (l.length : Int) = p % (l.length : Int) := Int.tmod_eq_emod_of_nonneg hp0
      have w1 : wrap64 (p * 7) = p * 7 := wrap64_id (by omega) (by omega)
      have w2 : wrap64 (p * 7 + 3) = p * 7 + 3 := wrap64_id (by omega) (by omega)
      have t2 : Int.tmod (p * 7 + 3) (l.length : Int) = (p * 7 + 3) % (l.length : Int) := Int.tmod_eq_emod_of_nonneg (by omega)
      have f3 : 0 ≤ (p * 7 + 3) % (l.length : Int) := Int.emod_nonneg _ (by omega)
      have f4 : (p * 7 + 3) % (l.length : Int) < (l.length : Int) := Int.emod_lt_of_pos _ (by omega)
      have b1 := rd_byt hl (p % (l.length : Int))
      have b2 := rd_byt hl ((p * 7 + 3) % (l.length : Int))
      have q0 : 0 ≤ p / (l.length : Int) := Int.ediv_nonneg hp0 (by omega)
      have q1 : p / (l.length : Int) ≤ p := Int.ediv_le_self _ hp0
      have t3 : Int.tdiv p (l.length : Int) = p / (l.length : Int) := Int.tdiv_eq_ediv_of_nonneg hp0
      generalize ha : rd l (p % (l.length : Int)) = a at b1
      generalize hb : rd l ((p * 7 + 3) % (l.length : Int)) = b at b2
      generalize hq : p / (l.length : Int) = q at q0 q1 t3
      have u1 : wrap64 a = a := wrap64_id (by omega) (by omega)
      have u2 : wrap64 b = b := wrap64_id (by omega) (by omega)
      have u3 : wrap64 (a * 131) = a * 131 := wrap64_id (by omega) (by omega)
      have u4 : wrap64 (b * 1117) = b * 1117 := wrap64_id (by omega) (by omega)
      have u5 : wrap64 (a * 131 + b * 1117) = a * 131 + b * 1117 := wrap64_id (by omega) (by omega)
      have u6 : wrap64 (p * 29) = p * 29 := wrap64_id (by omega) (by omega)
      have u7 : wrap64 (a * 131 + b * 1117 + p * 29) = a * 131 + b * 1117 + p * 29 := wrap64_id (by omega) (by omega)
      have u8 : wrap64 q = q := wrap64_id (by omega) (by omega)
      have u9 : wrap64 (q * 53) = q * 53 := wrap64_id (by omega) (by omega)
      have u10 : wrap64 (a * 131 + b * 1117 + p * 29 + q * 53) = a * 131 + b * 1117 + p * 29 + q * 53 := wrap64_id (by omega) (by omega)
      generalize hx : a * 131 + b * 1117 + p * 29 + q * 53 = x at u10
      have x0 : 0 ≤ x := by omega
      have x1 : x < 1000000000000000 := by omega
      have t4 : Int.tdiv x 64 = x / 64 := Int.tdiv_eq_ediv_of_nonneg x0
      have u11 : wrap64 (x / 64) = x / 64 := wrap64_id (by omega) (by omega)
      obtain ⟨y0, y1⟩ := xor_nonneg x (x / 64) x0 (by omega) (by omega) (by omega)
      generalize hy : Go.bits .xor .i64 x (x / 64) = y at y0 y1
      refine ⟨y % n, fun k => ?_, Int.emod_nonneg _ (by omega), fun _ => Int.emod_lt_of_pos _ (by omega), by have := Int.emod_lt_of_pos y (show 0 < n by omega); omega⟩
      unfold spec_l6Rd_pick.f
      rw [if_neg h1, e1, h0]
      simp only [spec_l6Rd_pick.j0]
      rw [if_neg (by simp), e2, if_neg hlt, if_neg (by omega), t1, if_pos f1, if_pos f2, w1, w2, t2, if_pos f3, if_pos f4, if_neg (by omega), ha, hb, t3, u1, u2, u3, u4, u5, u6, u7, u8, u9, hx, u10, t4, u11, hy, Int.tmod_eq_emod_of_nonneg y0]
theorem spec_l6Rd_pick.ev {l : List Int} (hl : Byt l) (hn : l.length ≤ 2000) {p : Int} (hp0 : 0 ≤ p) (hp1 : p < 1000000000000) (n : Int) (hn1 : n ≤ 1000000000) :
    ∃ r, Ev (fun k => spec_l6Rd_pick.f k l p n) (r, p + 1) ∧ 0 ≤ r ∧ (1 ≤ n → r < n) ∧ r ≤ 1000000000 := by
  obtain ⟨r, h, h1, h2, h3⟩ := spec_l6Rd_pick.ok hl hn hp0 hp1 n hn1
  exact ⟨r, Ev.of (spec_l6Rd_pick.mono l p n) (h 0), h1, h2, h3⟩

theorem spec_DrawRandNext.ev {l : List Int} (h : Byt l) : ∃ v, Ev (fun k => spec_DrawRandNext.f k l) v := by
  obtain ⟨l', ho, hl, hn⟩ := spec_l6Open.val h
  obtain ⟨r1, e1, _⟩ := spec_l6Rd_pick.ev hl hn (p := 0) (by omega) (by omega) 256 (by omega)
  obtain ⟨r2, e2, _⟩ := spec_l6Rd_pick.ev hl hn (p := 0 + 1) (by omega) (by omega) 256 (by omega)
  obtain ⟨r3, e3, _⟩ := spec_l6Rd_pick.ev hl hn (p := 0 + 1 + 1) (by omega) (by omega) 2 (by omega)
  unfold spec_DrawRandNext.f
  exact ⟨_, ev_bind0 ho (Ev.bind e1 (Ev.bind e2 (Ev.bind e3 (Ev.now _))))⟩

theorem FnRandNext : laws_FnRandNext.Pure := by
  intro l0 l1 _ _ w0 _ _ w1
  obtain ⟨a, ha⟩ := spec_DrawRandNext.ev (byt_of_wf w0)
  obtain ⟨b, hb⟩ := spec_DrawRandNext.ev (byt_of_wf w1)
  have hj1 : Ev (fun k => laws_FnRandNext.j1 k a b (rnd a) false) true := by
    refine Ev.step (fun k => by rw [laws_FnRandNext.j1]) ?_
    refine ev_else (by simp) ?_
    by_cases h1 : a < 0
    · exact ev_if h1 (Ev.now _)
    refine ev_else h1 ?_
    by_cases h2 : b < 0
    · exact ev_if h2 (Ev.now _)
    refine ev_else h2 ?_
    by_cases h3 : a ≥ 65536
    · exact ev_if h3 (Ev.now _)
    refine ev_else h3 ?_
    by_cases h4 : b ≥ 65536
    · exact ev_if h4 (Ev.now _)
    refine ev_else h4 ?_
    refine ev_bind0 (impl_RandNext.val b) ?_
    have hi := rnd_inj (x := b) (y := a) (by omega) (by omega)
    have he : ((rnd b == rnd a) == (a == b)) = true := by
      by_cases e : a = b
      · subst e; simp
      · have h5 : rnd b ≠ rnd a := fun h => e (hi.1 h).symm
        rw [beq_eq_false_iff_ne.2 h5, beq_eq_false_iff_ne.2 e]; rfl
    rw [he]
    exact Ev.now _
  have hj0 : ∀ z, Ev (fun k => laws_FnRandNext.j0 k l0 l1 z) true := by
    intro z
    refine Ev.step (fun k => by rw [laws_FnRandNext.j0]) ?_
    cases z with
    | true => exact ev_if rfl (Ev.now _)
    | false =>
      refine ev_else (by simp) ?_
      refine Ev.bind ha (Ev.bind hb (ev_bind0 (spec_RandNext.val a) (ev_bind0 (impl_RandNext.val a) ?_)))
      refine ev_if rfl ?_
      have h := rnd_range a
      refine ev_else (by omega) ?_
      have hd : decide (rnd a ≥ 65536) = false := decide_eq_false (by omega)
      rw [hd]
      exact hj1
  refine Ev.rounds (g := fun k => laws_FnRandNext.f k l0 l1) ?_
  unfold laws_FnRandNext.f
  by_cases h : (l0.length : Int) > 1048576
  · exact ev_if h (hj0 _)
  · exact ev_else h (hj0 _)
end FnRandNext_
theorem FnRandNext : laws_FnRandNext.Pure := FnRandNext_.FnRandNext
end Go.Proofs.Yteglhciieakmaaa.Pure
