/- The pure statement of the law FnNoteWay: what the printed functions compute answers true, for every input. No condition beyond those that the statement itself names. -/
import Derived.Test.YteglhciieakmaaaPFnNoteWayx2
import Derived.Test.YteglhciieakmaaaCom
namespace Go.Proofs.Yteglhciieakmaaa.Pure
open Go.RowKit Go.Proofs.Yteglhciieakmaaa.PFnNoteWay Go.Proofs.YteglhciieakmaaaW.PrintWords Go.Proofs.YteglhciieakmaaaW.PrintLast Go.Proofs.Yteglhciieakmaaa.Com
set_option linter.unusedVariables false
set_option linter.unusedSimpArgs false
namespace FnNoteWay_
theorem spec_l6In.val (a b c : Int) : spec_l6In.f a b c = some (inB a b c) := by
  unfold spec_l6In.f inB
  by_cases h : b ≤ a <;> simp [h]

theorem spec_l3Keeper.val (a : Int) : spec_l3Keeper.f a = some (inB a 0 3) := by
  unfold spec_l3Keeper.f
  rw [spec_l6In.val]; rfl

theorem spec_NoteNext.at (k : Nat) (a b : Int) : spec_NoteNext.f (k + 1) a b = some (nxt a b) := by
  unfold spec_NoteNext.f
  rw [spec_l3Keeper.val, spec_l3Keeper.val]
  simp only [Option.bind_some, spec_NoteNext.j0]
  by_cases h1 : inB a 0 3 = true
  · by_cases h2 : inB b 0 3 = true
    · have g1 := inB_iff.1 h1
      have g2 := inB_iff.1 h2
      rw [if_pos h1, if_pos h2]
      by_cases h3 : a = b
      · have h4 : (a == b) = true := by simpa using h3
        rw [h4, if_pos rfl, nxt_none (fun h => h.2.2 h3)]
      · have h4 : (a == b) = false := by simpa using h3
        have hc : (0 ≤ a ∧ a ≤ 3) ∧ (0 ≤ b ∧ b ≤ 3) ∧ a ≠ b := ⟨g1, g2, h3⟩
        unfold nxt
        rw [h4, if_neg (by simp), if_pos hc, wrap64_id (x := a + 1) (by omega) (by omega), wrap64_id (x := a - 1) (by omega) (by omega)]
        split <;> rfl
    · rw [if_pos h1, if_neg h2, if_pos trivial, nxt_none (fun h => h2 (inB_iff.2 h.2.1))]
  · rw [if_neg h1, if_pos trivial, nxt_none (fun h => h1 (inB_iff.2 h.1))]
theorem spec_NoteNext.ev (a b : Int) : Ev (fun k => spec_NoteNext.f k a b) (nxt a b) := Ev.of (spec_NoteNext.mono a b) (spec_NoteNext.at 0 a b)

theorem impl_in.val (a b c : Int) : impl_in.f a b c = some (inB a b c) := by
  unfold impl_in.f inB
  by_cases h : b ≤ a <;> simp [h]

theorem impl_isNode.val (a : Int) : impl_isNode.f a = some (inB a 0 3) := by
  unfold impl_isNode.f
  rw [impl_in.val]; rfl

theorem impl_NoteNext.at (k : Nat) (a b : Int) : impl_NoteNext.f (k + 1) a b = some (nxt a b) := by
  unfold impl_NoteNext.f
  rw [impl_isNode.val, impl_isNode.val]
  simp only [Option.bind_some, impl_NoteNext.j0]
  by_cases h1 : inB a 0 3 = true
  · by_cases h2 : inB b 0 3 = true
    · have g1 := inB_iff.1 h1
      have g2 := inB_iff.1 h2
      rw [if_pos h1, if_pos h2]
      by_cases h3 : a = b
      · have h4 : (a == b) = true := by simpa using h3
        rw [h4, if_pos rfl, nxt_none (fun h => h.2.2 h3)]
      · have h4 : (a == b) = false := by simpa using h3
        have hc : (0 ≤ a ∧ a ≤ 3) ∧ (0 ≤ b ∧ b ≤ 3) ∧ a ≠ b := ⟨g1, g2, h3⟩
        unfold nxt
        rw [h4, if_neg (by simp), if_pos hc, wrap64_id (x := a + 1) (by omega) (by omega), wrap64_id (x := a - 1) (by omega) (by omega)]
        split <;> rfl
    · rw [if_pos h1, if_neg h2, if_pos trivial, nxt_none (fun h => h2 (inB_iff.2 h.2.1))]
  · rw [if_neg h1, if_pos trivial, nxt_none (fun h => h1 (inB_iff.2 h.1))]
theorem impl_NoteNext.ev (a b : Int) : Ev (fun k => impl_NoteNext.f k a b) (nxt a b) := Ev.of (impl_NoteNext.mono a b) (impl_NoteNext.at 0 a b)

theorem spec_l6Open.val {l : List Int} (h : Byt l) : ∃ l', spec_l6Open.f l = some (l', 0) ∧ Byt l' ∧ l'.length ≤ 2000 := by
  unfold spec_l6Open.f
  by_cases h1 : (l.length : Int) > 2000
  · exact ⟨l.take 2000, by rw [if_pos h1, if_pos (by omega)], byt_take h _, by rw [List.length_take]; omega⟩
  · exact ⟨l, by rw [if_neg h1], h, by omega⟩

/-- A number is drawn: from 0 to n - 1. -/
theorem spec_l6Rd_pick.ok {l : List Int} (hl : Byt l) (hn : l.length ≤ 2000) {p : Int} (hp0 : 0 ≤ p) (hp1 : p < 1000000000000) (n : Int) (hn1 : n ≤ 1000000000) :
    ∃ r, (∀ k, spec_l6Rd_pick.f (k + 1) l p n = some (r, p + 1)) ∧ 0 ≤ r ∧ (1 ≤ n → r < n) ∧ r ≤ 1000000000 := by
  have e1 : wrap64 (p + 1) = p + 1 := wrap64_id (by omega) (by omega)
  have e2 : wrap64 (p + 1 - 1) = p := by rw [wrap64_id (by omega) (by omega)]; omega
  by_cases hz : n < 1 ∨ l.length = 0
  · refine ⟨0, fun k => ?_, by omega, by omega, by omega⟩
    unfold spec_l6Rd_pick.f
    by_cases h1 : n < 1
    · rw [if_pos h1, e1]; simp only [spec_l6Rd_pick.j0, if_true]
    · have h0 : ((l.length : Int) == 0) = true := by simp; have : l.length = 0 := by omega
                                                     simpa using this
      rw [if_neg h1, e1, h0]; simp only [spec_l6Rd_pick.j0, if_true]
  · have h1 : ¬ n < 1 := fun h => hz (.inl h)
    have h0 : ((l.length : Int) == 0) = false := by
      rw [beq_eq_false_iff_ne]; omega
    have hlen : 0 < l.length := by omega
    by_cases hlt : p < (l.length : Int)
    · have hb := rd_byt hl p
      refine ⟨rd l p % n, fun k => ?_, Int.emod_nonneg _ (by omega), fun _ => Int.emod_lt_of_pos _ (by omega), by have := Int.emod_lt_of_pos (rd l p) (show 0 < n by omega); omega⟩
      unfold spec_l6Rd_pick.f
      rw [if_neg h1, e1, h0]
      simp only [spec_l6Rd_pick.j0]
      rw [if_neg (by simp), e2, if_pos hlt, if_pos hp0, if_neg (by omega), wrap64_id (by omega) (by omega), Int.tmod_eq_emod_of_nonneg (by omega)]
    · have f1 : 0 ≤ p % (l.length : Int) := Int.emod_nonneg _ (by omega)
      have f2 : p % (l.length : Int) < (l.length : Int) := Int.emod_lt_of_pos _ (by omega)
      have t1 : Int.tmod p (l.length : Int) = p % (l.length : Int) := Int.tmod_eq_emod_of_nonneg hp0
      have w1 : wrap64 (p * 7) = p * 7 := wrap64_id (by omega) (by omega)
      have w2 : wrap64 (p * 7 + 3) = p * 7 + 3 := wrap64_id (by omega) (by omega)
      have t2 : Int.tmod (p * 7 + 3) (l.length : Int) = (p * 7 + 3) % (l.length : Int) := Int.tmod_eq_emod_of_nonneg (by omega)
      have f3 : 0 ≤ (p * 7 + 3) % (l.length : Int) := Int.emod_nonneg _ (by omega)
      have f4 : (p * 7 + 3) % (l.length : Int) < (l.length : Int) := Int.emod_lt_of_pos _ (by omega)
      have b1 := rd_byt hl (p % (l.length : Int))
      have b2 := rd_byt hl ((p * 7 + 3) % (l.length : Int))
      have q0 : 0 ≤ p / (l.length : Int) := Int.ediv_nonneg hp0 (by omega)
      have q1 : p / (l.length : Int) ≤ p := Int.ediv_le_self _ hp0
      have t3 : Int.tdiv p (l.length : Int) = p / (l.length : Int) := Int.tdiv_eq_ediv_of_nonneg hp0
      generalize ha : rd l (p % (l.length : Int)) = a at b1
      generalize hb : rd l ((p * 7 + 3) % (l.length : Int)) = b at b2
      generalize hq : p / (l.length : Int) = q at q0 q1 t3
      have u1 : wrap64 a = a := wrap64_id (by omega) (by omega)
      have u2 : wrap64 b = b := wrap64_id (by omega) (by omega)
      have u3 : wrap64 (a * 131) = a * 131 := wrap64_id (by omega) (by omega)
      have u4 : wrap64 (b * 1117) = b * 1117 := wrap64_id (by omega) (by omega)
      have u5 : wrap64 (a * 131 + b * 1117) = a * 131 + b * 1117 := wrap64_id (by omega) (by omega)
      have u6 : wrap64 (p * 29) = p * 29 := wrap64_id (by omega) (by omega)
      have u7 : wrap64 (a * 131 + b * 1117 + p * 29) = a * 131 + b * 1117 + p * 29 := wrap64_id (by omega) (by omega)
      have u8 : wrap64 q = q := wrap64_id (by omega) (by omega)
      have u9 : wrap64 (q * 53) = q * 53 := wrap64_id (by omega) (by omega)
      have u10 : wrap64 (a * 131 + b * 1117 + p * 29 + q * 53) = a * 131 + b * 1117 + p * 29 + q * 53 := wrap64_id (by omega) (by omega)
      generalize hx : a * 131 + b * 1117 + p * 29 + q * 53 = x at u10
      have x0 : 0 ≤ x := by omega
      have x1 : x < 1000000000000000 := by omega
      have t4 : Int.tdiv x 64 = x / 64 := Int.tdiv_eq_ediv_of_nonneg x0
      have u11 : wrap64 (x / 64) = x / 64 := wrap64_id (by omega) (by omega)
      obtain ⟨y0, y1⟩ := xor_nonneg x (x / 64) x0 (by omega) (by omega) (by omega)
      generalize hy : Go.bits .xor .i64 x (x / 64) = y at y0 y1
      refine ⟨y % n, fun k => ?_, Int.emod_nonneg _ (by omega), fun _ => Int.emod_lt_of_pos _ (by omega), by have := Int.emod_lt_of_pos y (show 0 < n by omega); omega⟩
      unfold spec_l6Rd_pick.f
      rw [if_neg h1, e1, h0]
      simp only [spec_l6Rd_pick.j0]
      rw [if_neg (by simp), e2, if_neg hlt, if_neg (by omega), t1, if_pos f1, if_pos f2, w1, w2, t2, if_pos f3, if_pos f4, if_neg (by omega), ha, hb, t3, u1, u2, u3, u4, u5, u6, u7, u8, u9, hx, u10, t4, u11, hy, Int.tmod_eq_emod_of_nonneg y0]
theorem spec_l6Rd_pick.ev {l : List Int} (hl : Byt l) (hn : l.length ≤ 2000) {p : Int} (hp0 : 0 ≤ p) (hp1 : p < 1000000000000) (n : Int) (hn1 : n ≤ 1000000000) :
    ∃ r, Ev (fun k => spec_l6Rd_pick.f k l p n) (r, p + 1) ∧ 0 ≤ r ∧ (1 ≤ n → r < n) ∧ r ≤ 1000000000 := by
  obtain ⟨r, h, h1, h2, h3⟩ := spec_l6Rd_pick.ok hl hn hp0 hp1 n hn1
  exact ⟨r, Ev.of (spec_l6Rd_pick.mono l p n) (h 0), h1, h2, h3⟩

theorem spec_DrawNoteNext.ev {l : List Int} (h : Byt l) : ∃ a b, Ev (fun k => spec_DrawNoteNext.f k l) (a, b) := by
  obtain ⟨l', ho, hl, hn⟩ := spec_l6Open.val h
  obtain ⟨r1, e1, _⟩ := spec_l6Rd_pick.ev hl hn (p := 0) (by omega) (by omega) 6 (by omega)
  obtain ⟨r2, e2, _⟩ := spec_l6Rd_pick.ev hl hn (p := 0 + 1) (by omega) (by omega) 6 (by omega)
  unfold spec_DrawNoteNext.f
  exact ⟨_, _, ev_bind0 ho (Ev.bind e1 (Ev.bind e2 (Ev.now _)))⟩

theorem FnNoteWay : laws_FnNoteWay.Pure := by
  intro l0 _ _ w0
  obtain ⟨a, b, hab⟩ := spec_DrawNoteNext.ev (byt_of_wf w0)
  have hout : ¬ ((0 ≤ a ∧ a ≤ 3) ∧ (0 ≤ b ∧ b ≤ 3) ∧ a ≠ b) → Ev (fun k => laws_FnNoteWay.j0 k a b (nxt a b) true) true := by
    intro h
    refine Ev.step (fun k => by rw [laws_FnNoteWay.j0]) ?_
    refine ev_if rfl ?_
    rw [nxt_none h]
    exact Ev.now _
  refine Ev.rounds (g := fun k => laws_FnNoteWay.f k l0) ?_
  unfold laws_FnNoteWay.f
  by_cases h : (l0.length : Int) > 1048576
  · exact ev_if h (Ev.now _)
  refine ev_else h (Ev.bind hab (Ev.bind (spec_NoteNext.ev a b) (Ev.bind (impl_NoteNext.ev a b) ?_)))
  refine ev_if rfl ?_
  by_cases h1 : a < 0
  · exact ev_if h1 (hout (by omega))
  refine ev_else h1 ?_
  by_cases h2 : b < 0
  · exact ev_if h2 (hout (by omega))
  refine ev_else h2 ?_
  by_cases h3 : a ≥ 4
  · exact ev_if h3 (hout (by omega))
  refine ev_else h3 ?_
  by_cases h4 : b ≥ 4
  · exact ev_if h4 (hout (by omega))
  refine ev_else h4 ?_
  by_cases h5 : a = b
  · rw [show (a == b) = true from by simpa using h5]
    exact hout (by omega)
  · rw [show (a == b) = false from by simpa using h5]
    refine Ev.step (fun k => by rw [laws_FnNoteWay.j0]) ?_
    refine ev_else (by simp) ?_
    refine Ev.of (fun k => (laws_FnNoteWay.mono_l k).2 _ _ _ _ _) (k := 10) ?_
    have ha : a = 0 ∨ a = 1 ∨ a = 2 ∨ a = 3 := by omega
    have hb : b = 0 ∨ b = 1 ∨ b = 2 ∨ b = 3 := by omega
    rcases ha with rfl | rfl | rfl | rfl <;> rcases hb with rfl | rfl | rfl | rfl <;> first | exact absurd rfl h5 | decide +kernel
end FnNoteWay_
theorem FnNoteWay : laws_FnNoteWay.Pure := FnNoteWay_.FnNoteWay
end Go.Proofs.Yteglhciieakmaaa.Pure
