/- The pure statement of the law FnMixDegree: what the printed functions compute answers true, for every input. No condition beyond those that the statement itself names. -/
import Derived.Test.YteglhciieakmaaaPFnMixDegreex2
import Derived.Test.YteglhciieakmaaaCom
namespace Go.Proofs.Yteglhciieakmaaa.Pure
open Go.RowKit Go.Proofs.Yteglhciieakmaaa.PFnMixDegree Go.Proofs.YteglhciieakmaaaW.PrintWords Go.Proofs.YteglhciieakmaaaW.PrintLast Go.Proofs.Yteglhciieakmaaa.Com
set_option linter.unusedVariables false
set_option linter.unusedSimpArgs false
namespace FnMixDegree_
theorem spec_l6In.val (a b c : Int) : spec_l6In.f a b c = some (inB a b c) := by
  unfold spec_l6In.f inB
  by_cases h : b ≤ a <;> simp [h]

theorem spec_RandNext.val (x : Int) : spec_RandNext.f x = some (rnd x) := by
  unfold spec_RandNext.f rnd
  rw [spec_l6In.val, Option.bind_some]
  by_cases h : 0 ≤ x ∧ x ≤ 65535
  · rw [inB_yes h.1 h.2, if_pos rfl, if_pos h, wrap64_id (x := x * 25173) (by omega) (by omega), wrap64_id (x := x * 25173 + 13849) (by omega) (by omega), Int.tmod_eq_emod_of_nonneg (by omega)]
  · rw [inB_no h, if_neg (by simp), if_neg h]

theorem spec_MixDegree.out (k : Nat) {b n : Int} (h : ¬ ((1 ≤ b ∧ b ≤ 6) ∧ (0 ≤ n ∧ n ≤ 999))) : spec_MixDegree.f k b n = some 0 := by
  unfold spec_MixDegree.f spec_l1Ok.f
  rw [spec_l6In.val, spec_l6In.val]
  simp only [Option.bind_some]
  by_cases h1 : 1 ≤ b ∧ b ≤ 6
  · rw [inB_yes h1.1 h1.2, if_pos rfl, inB_no (x := n) (fun h2 => h ⟨h1, h2⟩)]; simp
  · rw [inB_no h1]; simp

theorem impl_in.val (a b c : Int) : impl_in.f a b c = some (inB a b c) := by
  unfold impl_in.f inB
  by_cases h : b ≤ a <;> simp [h]

theorem impl_RandNext.val (x : Int) : impl_RandNext.f x = some (rnd x) := by
  unfold impl_RandNext.f rnd
  rw [impl_in.val, Option.bind_some]
  by_cases h : 0 ≤ x ∧ x ≤ 65535
  · rw [inB_yes h.1 h.2, if_pos rfl, if_pos h, Int.mul_comm 25173 x, wrap64_id (x := x * 25173) (by omega) (by omega), wrap64_id (x := x * 25173 + 13849) (by omega) (by omega), Int.tmod_eq_emod_of_nonneg (by omega)]
  · rw [inB_no h, if_neg (by simp), if_neg h]

theorem impl_MixDegree.out (k : Nat) {b n : Int} (h : ¬ ((1 ≤ b ∧ b ≤ 6) ∧ (0 ≤ n ∧ n ≤ 999))) : impl_MixDegree.f k b n = some 0 := by
  unfold impl_MixDegree.f impl_mixOk.f
  rw [impl_in.val, impl_in.val]
  simp only [Option.bind_some]
  by_cases h1 : 1 ≤ b ∧ b ≤ 6
  · rw [inB_yes h1.1 h1.2, if_pos rfl, inB_no (x := n) (fun h2 => h ⟨h1, h2⟩)]; simp
  · rw [inB_no h1]; simp
/-- One number's degree: the two agree, and it is in range. -/
def degChk (b n : Nat) : Bool := match spec_MixDegree.f 16 (b : Int) (n : Int), impl_MixDegree.f 16 (b : Int) (n : Int) with
  | some d, some e => decide (d = e) && decide (1 ≤ d) && decide (d ≤ (b : Int))
  | _, _ => false
theorem deg_all : (List.range 6).all (fun b => (List.range 1000).all fun n => degChk (b + 1) n) = true := by decide +kernel
theorem deg_in {b n : Int} (hb : 1 ≤ b ∧ b ≤ 6) (hn : 0 ≤ n ∧ n ≤ 999) : ∃ d, Ev (fun k => spec_MixDegree.f k b n) d ∧ Ev (fun k => impl_MixDegree.f k b n) d ∧ 1 ≤ d ∧ d ≤ b := by
  obtain ⟨b', rfl⟩ := Int.eq_ofNat_of_zero_le (show 0 ≤ b by omega)
  obtain ⟨n', rfl⟩ := Int.eq_ofNat_of_zero_le hn.1
  have h := deg_all
  rw [List.all_eq_true] at h
  have h1 := h (b' - 1) (List.mem_range.2 (by omega))
  rw [List.all_eq_true] at h1
  have h2 := h1 n' (List.mem_range.2 (by omega))
  rw [show b' - 1 + 1 = b' from by omega] at h2
  unfold degChk at h2
  split at h2
  · rename_i d e hd he
    simp only [Bool.and_eq_true, decide_eq_true_eq] at h2
    obtain ⟨⟨rfl, h3⟩, h4⟩ := h2
    exact ⟨d, Ev.of (spec_MixDegree.mono _ _) hd, Ev.of (impl_MixDegree.mono _ _) he, h3, h4⟩
  · cases h2
theorem deg_any (b n : Int) : ∃ d, Ev (fun k => spec_MixDegree.f k b n) d ∧ Ev (fun k => impl_MixDegree.f k b n) d ∧ ((1 ≤ b ∧ b ≤ 6) ∧ (0 ≤ n ∧ n ≤ 999) → 1 ≤ d ∧ d ≤ b) ∧ (¬ ((1 ≤ b ∧ b ≤ 6) ∧ (0 ≤ n ∧ n ≤ 999)) → d = 0) := by
  by_cases h : (1 ≤ b ∧ b ≤ 6) ∧ (0 ≤ n ∧ n ≤ 999)
  · obtain ⟨d, h1, h2, h3⟩ := deg_in h.1 h.2
    exact ⟨d, h1, h2, fun _ => h3, fun hc => absurd h hc⟩
  · exact ⟨0, Ev.congr (fun k => spec_MixDegree.out k h) (Ev.now 0), Ev.congr (fun k => impl_MixDegree.out k h) (Ev.now 0), fun hc => absurd hc h, fun _ => rfl⟩

theorem spec_l6Open.val {l : List Int} (h : Byt l) : ∃ l', spec_l6Open.f l = some (l', 0) ∧ Byt l' ∧ l'.length ≤ 2000 := by
  unfold spec_l6Open.f
  by_cases h1 : (l.length : Int) > 2000
  · exact ⟨l.take 2000, by rw [if_pos h1, if_pos (by omega)], byt_take h _, by rw [List.length_take]; omega⟩
  · exact ⟨l, by rw [if_neg h1], h, by omega⟩

/-- A number is drawn: from 0 to n - 1. -/
theorem spec_l6Rd_pick.ok {l : List Int} (hl : Byt l) (hn : l.length ≤ 2000) {p : Int} (hp0 : 0 ≤ p) (hp1 : p < 1000000000000) (n : Int) (hn1 : n ≤ 1000000000) :
    ∃ r, (∀ k, spec_l6Rd_pick.f (k + 1) l p n = some (r, p + 1)) ∧ 0 ≤ r ∧ (1 ≤ n → r < n) ∧ r ≤ 1000000000 := by
  have e1 : wrap64 (p + 1) = p + 1 := wrap64_id (by omega) (by omega)
  have e2 : wrap64 (p + 1 - 1) = p := by rw [wrap64_id (by omega) (by omega)]; omega
  by_cases hz : n < 1 ∨ l.length = 0
  · refine ⟨0, fun k => ?_, by omega, by omega, by omega⟩
    unfold spec_l6Rd_pick.f
    by_cases h1 : n < 1
    · rw [if_pos h1, e1]; simp only [spec_l6Rd_pick.j0, if_true]
    · have h0 : ((l.length : Int) == 0) = true := by simp; have : l.length = 0 := by omega
                                                     simpa using this
      rw [if_neg h1, e1, h0]; simp only [spec_l6Rd_pick.j0, if_true]
  · have h1 : ¬ n < 1 := fun h => hz (.inl h)
    have h0 : ((l.length : Int) == 0) = false := by
      rw [beq_eq_false_iff_ne]; omega
    have hlen : 0 < l.length := by omega
    by_cases hlt : p < (l.length : Int)
    · have hb := rd_byt hl p
      refine ⟨rd l p % n, fun k => ?_, Int.emod_nonneg _ (by omega), fun _ => Int.emod_lt_of_pos _ (by omega), by have := Int.emod_lt_of_pos (rd l p) (show 0 < n by omega); omega⟩
      unfold spec_l6Rd_pick.f
      rw [if_neg h1, e1, h0]
      simp only [spec_l6Rd_pick.j0]
      rw [if_neg (by simp), e2, if_pos hlt, if_pos hp0, if_neg (by omega), wrap64_id (by omega) (by omega), Int.tmod_eq_emod_of_nonneg (by omega)]
    · have f1 : 0 ≤ p % (l.length : Int) := Int.emod_nonneg _ (by omega)
      have f2 : p % (l.length : Int) < (l.length : Int) := Int.emod_lt_of_pos _ (by omega)
      have t1 : Int.tmod p (l.length : Int) = p % (l.length : Int) := Int.tmod_eq_emod_of_nonneg hp0
      have w1 : wrap64 (p * 7) = p * 7 := wrap64_id (by omega) (by omega)
      have w2 : wrap64 (p * 7 + 3) = p * 7 + 3 := wrap64_id (by omega) (by omega)
      have t2 : Int.tmod (p * 7 + 3) (l.length : Int) = (p * 7 + 3) % (l.length : Int) := Int.tmod_eq_emod_of_nonneg (by omega)
      have f3 : 0 ≤ (p * 7 + 3) % (l.length : Int) := Int.emod_nonneg _ (by omega)
      have f4 : (p * 7 + 3) % (l.length : Int) < (l.length : Int) := Int.emod_lt_of_pos _ (by omega)
      have b1 := rd_byt hl (p % (l.length : Int))
      have b2 := rd_byt hl ((p * 7 + 3) % (l.length : Int))
      have q0 : 0 ≤ p / (l.length : Int) := Int.ediv_nonneg hp0 (by omega)
      have q1 : p / (l.length : Int) ≤ p := Int.ediv_le_self _ hp0
      have t3 : Int.tdiv p (l.length : Int) = p / (l.length : Int) := Int.tdiv_eq_ediv_of_nonneg hp0
      generalize ha : rd l (p % (l.length : Int)) = a at b1
      generalize hb : rd l ((p * 7 + 3) % (l.length : Int)) = b at b2
      generalize hq : p / (l.length : Int) = q at q0 q1 t3
      have u1 : wrap64 a = a := wrap64_id (by omega) (by omega)
      have u2 : wrap64 b = b := wrap64_id (by omega) (by omega)
      have u3 : wrap64 (a * 131) = a * 131 := wrap64_id (by omega) (by omega)
      have u4 : wrap64 (b * 1117) = b * 1117 := wrap64_id (by omega) (by omega)
      have u5 : wrap64 (a * 131 + b * 1117) = a * 131 + b * 1117 := wrap64_id (by omega) (by omega)
      have u6 : wrap64 (p * 29) = p * 29 := wrap64_id (by omega) (by omega)
      have u7 : wrap64 (a * 131 + b * 1117 + p * 29) = a * 131 + b * 1117 + p * 29 := wrap64_id (by omega) (by omega)
      have u8 : wrap64 q = q := wrap64_id (by omega) (by omega)
      have u9 : wrap64 (q * 53) = q * 53 := wrap64_id (by omega) (by omega)
      have u10 : wrap64 (a * 131 + b * 1117 + p * 29 + q * 53) = a * 131 + b * 1117 + p * 29 + q * 53 := wrap64_id (by omega) (by omega)
      generalize hx : a * 131 + b * 1117 + p * 29 + q * 53 = x at u10
      have x0 : 0 ≤ x := by omega
      have x1 : x < 1000000000000000 := by omega
      have t4 : Int.tdiv x 64 = x / 64 := Int.tdiv_eq_ediv_of_nonneg x0
      have u11 : wrap64 (x / 64) = x / 64 := wrap64_id (by omega) (by omega)
      obtain ⟨y0, y1⟩ := xor_nonneg x (x / 64) x0 (by omega) (by omega) (by omega)
      generalize hy : Go.bits .xor .i64 x (x / 64) = y at y0 y1
      refine ⟨y % n, fun k => ?_, Int.emod_nonneg _ (by omega), fun _ => Int.emod_lt_of_pos _ (by omega), by have := Int.emod_lt_of_pos y (show 0 < n by omega); omega⟩
      unfold spec_l6Rd_pick.f
      rw [if_neg h1, e1, h0]
      simp only [spec_l6Rd_pick.j0]
      rw [if_neg (by simp), e2, if_neg hlt, if_neg (by omega), t1, if_pos f1, if_pos f2, w1, w2, t2, if_pos f3, if_pos f4, if_neg (by omega), ha, hb, t3, u1, u2, u3, u4, u5, u6, u7, u8, u9, hx, u10, t4, u11, hy, Int.tmod_eq_emod_of_nonneg y0]
theorem spec_l6Rd_pick.ev {l : List Int} (hl : Byt l) (hn : l.length ≤ 2000) {p : Int} (hp0 : 0 ≤ p) (hp1 : p < 1000000000000) (n : Int) (hn1 : n ≤ 1000000000) :
    ∃ r, Ev (fun k => spec_l6Rd_pick.f k l p n) (r, p + 1) ∧ 0 ≤ r ∧ (1 ≤ n → r < n) ∧ r ≤ 1000000000 := by
  obtain ⟨r, h, h1, h2, h3⟩ := spec_l6Rd_pick.ok hl hn hp0 hp1 n hn1
  exact ⟨r, Ev.of (spec_l6Rd_pick.mono l p n) (h 0), h1, h2, h3⟩

theorem spec_DrawMixDegree.ev {l : List Int} (h : Byt l) : ∃ a b, Ev (fun k => spec_DrawMixDegree.f k l) (a, b) ∧ 0 ≤ a ∧ a ≤ 7 ∧ -1 ≤ b ∧ b ≤ 1011 := by
  obtain ⟨l', ho, hl, hn⟩ := spec_l6Open.val h
  obtain ⟨r1, e1, a1, b1, _⟩ := spec_l6Rd_pick.ev hl hn (p := 0) (by omega) (by omega) 8 (by omega)
  obtain ⟨r2, e2, a2, b2, _⟩ := spec_l6Rd_pick.ev hl hn (p := 0 + 1) (by omega) (by omega) 2 (by omega)
  obtain ⟨r3, e3, a3, b3, _⟩ := spec_l6Rd_pick.ev hl hn (p := 0 + 1 + 1) (by omega) (by omega) 1002 (by omega)
  obtain ⟨r4, e4, a4, b4, _⟩ := spec_l6Rd_pick.ev hl hn (p := 0 + 1 + 1 + 1) (by omega) (by omega) 12 (by omega)
  have c1 := b1 (by omega)
  have c2 := b2 (by omega)
  have c3 := b3 (by omega)
  have c4 := b4 (by omega)
  have hm : 0 ≤ r2 * r3 ∧ r2 * r3 ≤ 1001 := by
    have : r2 = 0 ∨ r2 = 1 := by omega
    rcases this with rfl | rfl <;> omega
  have w1 : wrap64 (r1 - 0) = r1 := by rw [wrap64_id (by omega) (by omega)]; omega
  have w2 : wrap64 (wrap64 (wrap64 (r2 * r3) + r4) - 1) = r2 * r3 + r4 - 1 := by
    rw [wrap64_id (x := r2 * r3) (by omega) (by omega), wrap64_id (x := r2 * r3 + r4) (by omega) (by omega), wrap64_id (by omega) (by omega)]
  refine ⟨r1, r2 * r3 + r4 - 1, ?_, by omega, by omega, by omega, by omega⟩
  unfold spec_DrawMixDegree.f
  refine ev_bind0 ho (Ev.bind e1 (Ev.bind e2 (Ev.bind e3 (Ev.bind e4 ?_))))
  simp only [w1, w2]
  exact Ev.now _

theorem FnMixDegree : laws_FnMixDegree.Pure := by
  intro l0 _ _ w0
  obtain ⟨b, n, hbn, _⟩ := spec_DrawMixDegree.ev (byt_of_wf w0)
  obtain ⟨d, h1, h2, h3, h4⟩ := deg_any b n
  refine Ev.rounds (g := fun k => laws_FnMixDegree.f k l0) ?_
  unfold laws_FnMixDegree.f
  by_cases h : (l0.length : Int) > 1048576
  · exact ev_if h (Ev.now _)
  refine ev_else h (Ev.bind hbn (Ev.bind h1 (Ev.bind h2 (ev_if rfl ?_))))
  have hz : ¬ ((1 ≤ b ∧ b ≤ 6) ∧ (0 ≤ n ∧ n ≤ 999)) → Ev (fun _ : Nat => some (d == 0)) true := by
    intro hc
    rw [h4 hc]
    exact Ev.now _
  by_cases c1 : b < 1
  · exact ev_if c1 (hz (by omega))
  refine ev_else c1 ?_
  by_cases c2 : b > 6
  · exact ev_if c2 (hz (by omega))
  refine ev_else c2 ?_
  by_cases c3 : n < 0
  · exact ev_if c3 (hz (by omega))
  refine ev_else c3 ?_
  by_cases c4 : n > 999
  · exact ev_if c4 (hz (by omega))
  refine ev_else c4 ?_
  obtain ⟨h5, h6⟩ := h3 (by omega)
  refine ev_if h5 ?_
  rw [decide_eq_true h6]
  exact Ev.now _
end FnMixDegree_
theorem FnMixDegree : laws_FnMixDegree.Pure := FnMixDegree_.FnMixDegree
end Go.Proofs.Yteglhciieakmaaa.Pure
