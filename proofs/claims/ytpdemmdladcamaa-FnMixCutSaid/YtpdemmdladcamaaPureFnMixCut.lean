/- The pure statement of the law FnMixCut: what the printed functions compute answers true, for every input. No condition beyond those that the statement itself names. -/
import Derived.Test.YtpdemmdladcamaaPFnMixCutx3
import Derived.Test.YtpdemmdladcamaaCom
namespace Go.Proofs.Ytpdemmdladcamaa.Pure
open Go.RowKit Go.Proofs.Ytpdemmdladcamaa.PFnMixCut Go.Proofs.YtpdemmdladcamaaW.PrintWords Go.Proofs.YtpdemmdladcamaaW.PrintLast Go.Proofs.Ytpdemmdladcamaa.Com
set_option linter.unusedVariables false
set_option linter.unusedSimpArgs false
namespace FnMixCut_
theorem spec_l2Blocks.val (n : Nat) (h : n ≤ 1099511627776) : spec_l2Blocks.f (n : Int) = some ((cutN n : Nat) : Int) := by
  unfold spec_l2Blocks.f
  have e1 : wrap64 ((n : Int) + 4) = (n : Int) + 4 := wrap64_id (x := (n : Int) + 4) (by omega) (by omega)
  have e2 : wrap64 ((n : Int) + 4 - 1) = (n : Int) + 3 := (wrap64_id (x := (n : Int) + 4 - 1) (by omega) (by omega)).trans (by omega)
  have e3 : Int.tdiv ((n : Int) + 3) 4 = ((cutN n : Nat) : Int) := by
    rw [Int.tdiv_eq_ediv_of_nonneg (by omega), cutN]; omega
  simp only [e1, e2, e3]
  rw [w64_nat _ (by unfold cutN; omega)]

theorem spec_MixCut.step (t : ByteArray) (ht : t.size ≤ 24) (acc : List ByteArray) (i : Nat) (hi : i < 100) {r : List ByteArray} (x : List Int) (hx : x.length ≤ 3) (p : Nat) (hp : p < 4 * (i + 1))
    (h : Ev (fun k => spec_MixCut.l1 k t acc (i : Int) (x ++ [bt t (p : Int)]) ((p + 1 : Nat) : Int)) r) : Ev (fun k => spec_MixCut.l1 k t acc (i : Int) x (p : Int)) r := by
  have e : wrap64 (wrap64 ((i : Int) + 1) * 4) = ((4 * (i + 1) : Nat) : Int) :=
    (congrArg (fun z => wrap64 (z * 4)) (w64_p1 i (by omega))).trans ((wrap64_id (x := ((i + 1 : Nat) : Int) * 4) (by omega) (by omega)).trans (by omega))
  have hb : p < 4611686018427387904 := by omega
  refine Ev.step (fun k => by rw [spec_MixCut.l1]) ?_
  simp only [e, w64_p1 p hb]
  refine ev_if (by omega) ?_
  by_cases h1 : (p : Int) < (t.size : Int)
  · exact ev_if h1 (ev_if (by omega) (ev_if (by omega) h))
  · refine ev_else h1 (ev_if (by omega) ?_)
    rw [bt_out t p (by omega)] at h
    exact h
theorem spec_MixCut.l0_ev (t : ByteArray) (ht : t.size ≤ 24) (d : Nat) : ∀ i, cutN t.size - i = d → i ≤ cutN t.size → Ev (fun k => spec_MixCut.l0 k t (cutTo t i) (i : Nat)) (cutTo t (cutN t.size)) := by
  have hc : cutN t.size ≤ 6 := by unfold cutN; omega
  induction d with
  | zero =>
    intro i h h2
    refine Ev.step (fun k => by rw [spec_MixCut.l0]) (ev_bind0 (spec_l2Blocks.val _ (by omega)) ?_)
    refine ev_else (by omega) (ev_is ?_)
    rw [show i = cutN t.size by omega]
  | succ d ih =>
    intro i h h2
    have hb : i < 4611686018427387904 := by omega
    have e : wrap64 ((i : Int) * 4) = ((4 * i : Nat) : Int) := (wrap64_id (x := (i : Int) * 4) (by omega) (by omega)).trans (by omega)
    refine Ev.step (fun k => by rw [spec_MixCut.l0]) (ev_bind0 (spec_l2Blocks.val _ (by omega)) ?_)
    refine ev_if (by omega) ?_
    simp only [e]
    refine spec_MixCut.step t ht _ i (by omega) [] (by simp) (4 * i) (by omega) ?_
    refine spec_MixCut.step t ht _ i (by omega) _ (by simp) (4 * i + 1) (by omega) ?_
    refine spec_MixCut.step t ht _ i (by omega) _ (by simp) (4 * i + 2) (by omega) ?_
    refine spec_MixCut.step t ht _ i (by omega) _ (by simp) (4 * i + 3) (by omega) ?_
    have e2 : wrap64 (wrap64 ((i : Int) + 1) * 4) = ((4 * (i + 1) : Nat) : Int) :=
      (congrArg (fun z => wrap64 (z * 4)) (w64_p1 i (by omega))).trans ((wrap64_id (x := ((i + 1 : Nat) : Int) * 4) (by omega) (by omega)).trans (by omega))
    refine Ev.step (fun k => by rw [spec_MixCut.l1]) ?_
    simp only [e2]
    simp only [w64_p1 i hb]
    refine ev_else (by omega) (ev_if (by rw [cutTo_length]; omega) ?_)
    have := ih (i + 1) (by omega) (by omega)
    rw [cutTo_succ] at this
    exact this
theorem spec_MixCut.ev (t : ByteArray) : Ev (fun k => spec_MixCut.f k t) (cutL t) := by
  unfold spec_MixCut.f cutL
  refine ev_bind0 rfl ?_
  by_cases h : (t.size : Int) < 1
  · refine ev_if h (Ev.step (fun k => by rw [spec_MixCut.j0]) (ev_if rfl (ev_is ?_)))
    rw [if_neg (by omega)]
  · refine ev_else h (Ev.step (fun k => by rw [spec_MixCut.j0]) ?_)
    by_cases h2 : t.size ≤ 24
    · rw [if_pos ⟨by omega, h2⟩]
      exact ev_else (by simp; omega) (spec_MixCut.l0_ev t h2 (cutN t.size) 0 rfl (by omega))
    · refine ev_if (by simp; omega) (ev_is ?_)
      rw [if_neg (by omega)]

theorem impl_in.val (a b c : Int) : impl_in.f a b c = some (inB a b c) := by
  unfold impl_in.f inB
  by_cases h : b ≤ a <;> simp [h]

theorem impl_copied_string.val (l : List ByteArray) (h : l.length ≤ 17592186044416) : impl_copied_string.f l = some l := by
  unfold impl_copied_string.f; rw [if_pos h]

theorem copyS_blk (t : ByteArray) (i : Nat) (hi : 4 * i < t.size) : Cpy.copyS (List.replicate 4 0) (t.extract (4 * i) t.size) = blkL t i := by
  have hsz : (t.extract (4 * i) t.size).size = ((tx t).drop (4 * i)).length := by rw [← tx_length, tx_extractEnd]
  have hg : ∀ j, bt t ((4 * i + j : Nat) : Int) = ((((tx t).drop (4 * i)).getD j 0).toNat : Int) := fun j => by
    rw [bt_tx, List.getD_eq_getElem?_getD, List.getD_eq_getElem?_getD, List.getElem?_drop]
  have hb : bytesOf (t.extract (4 * i) t.size) = ((tx t).drop (4 * i)).map fun c => (c.toNat : Int) := by
    rw [← tx_extractEnd]
    simp [bytesOf, tx]
  have h0 := hg 0
  have h1 := hg 1
  have h2 := hg 2
  have h3 := hg 3
  rw [Nat.add_zero] at h0
  unfold Cpy.copyS blkL
  rw [hsz, hb, h0, h1, h2, h3]
  generalize (tx t).drop (4 * i) = l
  rcases l with _ | ⟨a, _ | ⟨b, _ | ⟨c, _ | ⟨d, l⟩⟩⟩⟩ <;> simp [List.replicate]
theorem impl_MixCut.l0_ev (t : ByteArray) (h1 : 1 ≤ t.size) (ht : t.size ≤ 24) (d : Nat) : ∀ i, cutN t.size - i = d → i ≤ cutN t.size → Ev (fun k => impl_MixCut.l0 k t (cutTo t i) ((4 * i : Nat) : Int)) (cutTo t (cutN t.size)) := by
  have hc : cutN t.size ≤ 6 := by unfold cutN; omega
  have hc2 : 4 * cutN t.size < t.size + 4 ∧ t.size ≤ 4 * cutN t.size := by unfold cutN; omega
  induction d with
  | zero =>
    intro i h h2
    have e : i = cutN t.size := by omega
    refine Ev.step (fun k => by rw [impl_MixCut.l0]) (ev_else (by omega) (ev_const ?_))
    rw [impl_copied_string.val _ (by rw [cutTo_length]; omega), e]
  | succ d ih =>
    intro i h h2
    have e : wrap64 (((4 * i : Nat) : Int) + 4) = ((4 * (i + 1) : Nat) : Int) := (wrap64_id (x := ((4 * i : Nat) : Int) + 4) (by omega) (by omega)).trans (by omega)
    have hlt : 4 * i < t.size := by omega
    refine Ev.step (fun k => by rw [impl_MixCut.l0]) (ev_if (by omega) (ev_if (by omega) (ev_if (by omega) (ev_if (by rw [cutTo_length]; omega) ?_))))
    simp only [e, Int.toNat_natCast]
    have := ih (i + 1) (by omega) (by omega)
    rw [cutTo_succ, ← copyS_blk t i hlt] at this
    exact this
theorem impl_MixCut.ev (t : ByteArray) : Ev (fun k => impl_MixCut.f k t) (cutL t) := by
  unfold impl_MixCut.f cutL
  refine ev_bind0 (impl_in.val _ _ _) ?_
  by_cases h : 1 ≤ t.size ∧ t.size ≤ 24
  · rw [if_pos h]
    exact ev_if (inB_yes (by omega) (by omega)) (impl_MixCut.l0_ev t h.1 h.2 (cutN t.size) 0 rfl (by omega))
  · rw [if_neg h]
    exact ev_else (by rw [inB_no (by omega)]; simp) (Ev.now _)

/-- A number is drawn: from 0 to n - 1. -/
theorem spec_l6Rd_pick.ok {l : List Int} (hl : Byt l) (hn : l.length ≤ 2000) {p : Int} (hp0 : 0 ≤ p) (hp1 : p < 1000000000000) (n : Int) (hn1 : n ≤ 1000000000) :
    ∃ r, (∀ k, spec_l6Rd_pick.f (k + 1) l p n = some (r, p + 1)) ∧ 0 ≤ r ∧ (1 ≤ n → r < n) ∧ r ≤ 1000000000 := by
  have e1 : wrap64 (p + 1) = p + 1 := wrap64_id (by omega) (by omega)
  have e2 : wrap64 (p + 1 - 1) = p := by rw [wrap64_id (by omega) (by omega)]; omega
  by_cases hz : n < 1 ∨ l.length = 0
  · refine ⟨0, fun k => ?_, by omega, by omega, by omega⟩
    unfold spec_l6Rd_pick.f
    by_cases h1 : n < 1
    · rw [if_pos h1, e1]; simp only [spec_l6Rd_pick.j0, if_true]
    · have h0 : ((l.length : Int) == 0) = true := by simp; have : l.length = 0 := by omega
                                                     simpa using this
      rw [if_neg h1, e1, h0]; simp only [spec_l6Rd_pick.j0, if_true]
  · have h1 : ¬ n < 1 := fun h => hz (.inl h)
    have h0 : ((l.length : Int) == 0) = false := by
      rw [beq_eq_false_iff_ne]; omega
    have hlen : 0 < l.length := by omega
    by_cases hlt : p < (l.length : Int)
    · have hb := rd_byt hl p
      refine ⟨rd l p % n, fun k => ?_, Int.emod_nonneg _ (by omega), fun _ => Int.emod_lt_of_pos _ (by omega), by have := Int.emod_lt_of_pos (rd l p) (show 0 < n by omega); omega⟩
      unfold spec_l6Rd_pick.f
      rw [if_neg h1, e1, h0]
      simp only [spec_l6Rd_pick.j0]
      rw [if_neg (by simp), e2, if_pos hlt, if_pos hp0, if_neg (by omega), wrap64_id (by omega) (by omega), Int.tmod_eq_emod_of_nonneg (by omega)]
    · have f1 : 0 ≤ p % (l.length : Int) := Int.emod_nonneg _ (by omega)
      have f2 : p % (l.length : Int) < (l.length : Int) := Int.emod_lt_of_pos _ (by omega)
      have t1 : Int.tmod p (l.length : Int) = p % (l.length : Int) := Int.tmod_eq_emod_of_nonneg hp0
      have w1 : wrap64 (p * 7) = p * 7 := wrap64_id (by omega) (by omega)
      have w2 : wrap64 (p * 7 + 3) = p * 7 + 3 := wrap64_id (by omega) (by omega)
      have t2 : Int.tmod (p * 7 + 3) (l.length : Int) = (p * 7 + 3) % (l.length : Int) := Int.tmod_eq_emod_of_nonneg (by omega)
      have f3 : 0 ≤ (p * 7 + 3) % (l.length : Int) := Int.emod_nonneg _ (by omega)
      have f4 : (p * 7 + 3) % (l.length : Int) < (l.length : Int) := Int.emod_lt_of_pos _ (by omega)
      have b1 := rd_byt hl (p % (l.length : Int))
      have b2 := rd_byt hl ((p * 7 + 3) % (l.length : Int))
      have q0 : 0 ≤ p / (l.length : Int) := Int.ediv_nonneg hp0 (by omega)
      have q1 : p / (l.length : Int) ≤ p := Int.ediv_le_self _ hp0
      have t3 : Int.tdiv p (l.length : Int) = p / (l.length : Int) := Int.tdiv_eq_ediv_of_nonneg hp0
      generalize ha : rd l (p % (l.length : Int)) = a at b1
      generalize hb : rd l ((p * 7 + 3) % (l.length : Int)) = b at b2
      generalize hq : p / (l.length : Int) = q at q0 q1 t3
      have u1 : wrap64 a = a := wrap64_id (by omega) (by omega)
      have u2 : wrap64 b = b := wrap64_id (by omega) (by omega)
      have u3 : wrap64 (a * 131) = a * 131 := wrap64_id (by omega) (by omega)
      have u4 : wrap64 (b * 1117) = b * 1117 := wrap64_id (by omega) (by omega)
      have u5 : wrap64 (a * 131 + b * 1117) = a * 131 + b * 1117 := wrap64_id (by omega) (by omega)
      have u6 : wrap64 (p * 29) = p * 29 := wrap64_id (by omega) (by omega)
      have u7 : wrap64 (a * 131 + b * 1117 + p * 29) = a * 131 + b * 1117 + p * 29 := wrap64_id (by omega) (by omega)
      have u8 : wrap64 q = q := wrap64_id (by omega) (by omega)
      have u9 : wrap64 (q * 53) = q * 53 := wrap64_id (by omega) (by omega)
      have u10 : wrap64 (a * 131 + b * 1117 + p * 29 + q * 53) = a * 131 + b * 1117 + p * 29 + q * 53 := wrap64_id (by omega) (by omega)
      generalize hx : a * 131 + b * 1117 + p * 29 + q * 53 = x at u10
      have x0 : 0 ≤ x := by omega
      have x1 : x < 1000000000000000 := by omega
      have t4 : Int.tdiv x 64 = x / 64 := Int.tdiv_eq_ediv_of_nonneg x0
      have u11 : wrap64 (x / 64) = x / 64 := wrap64_id (by omega) (by omega)
      obtain ⟨y0, y1⟩ := xor_nonneg x (x / 64) x0 (by omega) (by omega) (by omega)
      generalize hy : Go.bits .xor .i64 x (x / 64) = y at y0 y1
      refine ⟨y % n, fun k => ?_, Int.emod_nonneg _ (by omega), fun _ => Int.emod_lt_of_pos _ (by omega), by have := Int.emod_lt_of_pos y (show 0 < n by omega); omega⟩
      unfold spec_l6Rd_pick.f
      rw [if_neg h1, e1, h0]
      simp only [spec_l6Rd_pick.j0]
      rw [if_neg (by simp), e2, if_neg hlt, if_neg (by omega), t1, if_pos f1, if_pos f2, w1, w2, t2, if_pos f3, if_pos f4, if_neg (by omega), ha, hb, t3, u1, u2, u3, u4, u5, u6, u7, u8, u9, hx, u10, t4, u11, hy, Int.tmod_eq_emod_of_nonneg y0]
theorem spec_l6Rd_pick.ev {l : List Int} (hl : Byt l) (hn : l.length ≤ 2000) {p : Int} (hp0 : 0 ≤ p) (hp1 : p < 1000000000000) (n : Int) (hn1 : n ≤ 1000000000) :
    ∃ r, Ev (fun k => spec_l6Rd_pick.f k l p n) (r, p + 1) ∧ 0 ≤ r ∧ (1 ≤ n → r < n) ∧ r ≤ 1000000000 := by
  obtain ⟨r, h, h1, h2, h3⟩ := spec_l6Rd_pick.ok hl hn hp0 hp1 n hn1
  exact ⟨r, Ev.of (spec_l6Rd_pick.mono l p n) (h 0), h1, h2, h3⟩
theorem spec_l6Rd_pick.tot {l : List Int} (hl : Byt l) (hn : l.length ≤ 2000) {p : Int} (hp0 : 0 ≤ p) (hp1 : p < 1000000000000) (n : Int) (hn1 : n ≤ 1000000000) : Tot (fun k => spec_l6Rd_pick.f k l p n) (Pk p n) := by
  obtain ⟨r, h, h1, h2, h3⟩ := spec_l6Rd_pick.ev hl hn hp0 hp1 n hn1
  exact ⟨_, h, rfl, h1, h2, h3⟩

theorem spec_l6Rd_of.tot {l : List Int} (hl : Byt l) (hn : l.length ≤ 2000) {p : Int} (hp0 : 0 ≤ p) (hp1 : p < 1000000000000) (ls : List ByteArray) (h1 : 1 ≤ ls.length) (h2 : ls.length ≤ 1000) : Tot (fun k => spec_l6Rd_of.f k l p ls) (fun r => r.1 ∈ ls ∧ r.2 = p + 1) := by
  unfold spec_l6Rd_of.f
  refine Tot.bind (spec_l6Rd_pick.tot hl hn hp0 hp1 _ (by omega)) fun a ha => ?_
  obtain ⟨a1, a2, a3, a4⟩ := ha
  have a3 := a3 (by omega)
  refine Tot.ok a2 (Tot.ok a3 (Tot.now ⟨?_, a1⟩))
  obtain ⟨i, hi⟩ := Int.eq_ofNat_of_zero_le a2
  rw [hi] at a3 ⊢
  rw [rdOf_nat _ _ i (by omega)]
  exact List.getElem_mem _

theorem spec_l6Many.l0_tot (n : Nat) : ∀ (x acc : ByteArray), n < 1000000 → 2 * (x.size * n) + acc.size ≤ 1099511627776 → Tot (fun k => spec_l6Many.l0 k x (n : Int) acc) (fun r => r.size = acc.size + x.size * n) := by
  induction n using Nat.strongRecOn with
  | ind n ih =>
    intro x acc hn h
    refine Tot.step (fun k => by rw [spec_l6Many.l0]) ?_
    by_cases h0 : n = 0
    · subst h0
      exact Tot.no (by omega) (Tot.now (by simp))
    · refine Tot.ok (by omega) ?_
      have e : wrap64 (Int.tdiv (n : Int) 2) = ((n / 2 : Nat) : Int) := by
        rw [Int.tdiv_eq_ediv_of_nonneg (by omega)]; exact (wrap64_id (x := (n : Int) / 2) (by omega) (by omega)).trans (by omega)
      have ht : Int.tmod (n : Int) 2 = (n : Int) % 2 := Int.tmod_eq_emod_of_nonneg (by omega)
      have hxx : (x ++ x).size = x.size + x.size := ByteArray.size_append
      have hax : (acc ++ x).size = acc.size + x.size := ByteArray.size_append
      simp only [e, ht]
      have hm : x.size ≤ x.size * n := Nat.le_mul_of_pos_right _ (by omega)
      refine Tot.ite (fun h1 => ?_) (fun h1 => ?_)
      · obtain ⟨m, rfl⟩ : ∃ m, n = 2 * m + 1 := ⟨n / 2, by omega⟩
        rw [show (2 * m + 1) / 2 = m by omega]
        have e1 : x.size * (2 * m + 1) = 2 * (x.size * m) + x.size := by rw [Nat.mul_add, Nat.mul_left_comm, Nat.mul_one]
        have e2 : (x ++ x).size * m = 2 * (x.size * m) := by rw [hxx, ← Nat.two_mul, Nat.mul_assoc]
        refine Tot.ok (by omega) (Tot.ok (by omega) ((ih m (by omega) (x ++ x) (acc ++ x) (by omega) (by omega)).imp fun r hr => ?_))
        omega
      · obtain ⟨m, rfl⟩ : ∃ m, n = 2 * m := ⟨n / 2, by omega⟩
        rw [show (2 * m) / 2 = m by omega]
        have e1 : x.size * (2 * m) = 2 * (x.size * m) := by rw [Nat.mul_left_comm]
        have e2 : (x ++ x).size * m = 2 * (x.size * m) := by rw [hxx, ← Nat.two_mul, Nat.mul_assoc]
        refine Tot.ok (by omega) ((ih m (by omega) (x ++ x) acc (by omega) (by omega)).imp fun r hr => ?_)
        omega
theorem spec_l6Many.tot (x : ByteArray) (n : Nat) (hn : n < 1000000) (hx : 2 * (x.size * n) ≤ 1099511627776) : Tot (fun k => spec_l6Many.f k x (n : Int)) (fun r => r.size = x.size * n) :=
  (spec_l6Many.l0_tot n x ⟨#[]⟩ hn (by show _ + 0 ≤ _; omega)).imp fun r hr => hr.trans (Nat.zero_add _)

theorem spec_l72Text.l0_tot {l : List Int} (hl : Byt l) (hn : l.length ≤ 2000) (n : Nat) : ∀ (x : List Int) (p : Int), n ≤ 100 → x.length + n ≤ 100 → 0 ≤ p → p + n < 900000000000 →
    Tot (fun k => spec_l72Text.l0 k x (n : Int) l p) (fun r => r.1.size = x.length + n ∧ r.2 = p + n) := by
  induction n with
  | zero =>
    intro x p h1 h2 h3 h4
    exact Tot.step (fun k => by rw [spec_l72Text.l0]) (Tot.no (by omega) (Tot.now ⟨by rw [strOfNums_size]; rfl, by omega⟩))
  | succ n ih =>
    intro x p h1 h2 h3 h4
    refine Tot.step (fun k => by rw [spec_l72Text.l0]) (Tot.ok (by omega) (Tot.bind (spec_l6Rd_pick.tot hl hn h3 (by omega) _ (by omega)) fun a ha => Tot.ok (by omega) ?_))
    obtain ⟨a1, a2, a3, a4⟩ := ha
    have e : wrap64 (((n + 1 : Nat) : Int) - 1) = (n : Int) := (wrap64_id (x := ((n + 1 : Nat) : Int) - 1) (by omega) (by omega)).trans (by omega)
    simp only [e, a1]
    refine (ih (x ++ [a.1 % 256]) (p + 1) (by omega) (by simp; omega) (by omega) (by omega)).imp fun r hr => ?_
    rw [List.length_append, List.length_singleton] at hr
    exact ⟨by omega, by omega⟩
theorem spec_l72Text.tot {l : List Int} (hl : Byt l) (hn : l.length ≤ 2000) {p : Int} (hp0 : 0 ≤ p) (hp1 : p < 800000000000) : Tot (fun k => spec_l72Text.f k l p) (fun r => r.1.size ≤ 25 ∧ p ≤ r.2 ∧ r.2 ≤ p + 30) := by
  unfold spec_l72Text.f
  refine Tot.bind (spec_l6Rd_pick.tot hl hn hp0 (by omega) _ (by omega)) fun a ha => ?_
  obtain ⟨a1, a2, a3, a4⟩ := ha
  refine Tot.ite (fun h => ?_) fun h => Tot.ite (fun h2 => ?_) fun h2 => ?_
  · refine Tot.bind (spec_l6Many.tot _ 24 (by omega) (by show 2 * (1 * 24) ≤ _; omega)) fun b hb => Tot.bind (spec_l6Many.tot _ 25 (by omega) (by show 2 * (1 * 25) ≤ _; omega)) fun c hc => ?_
    have hb : b.size = 24 := hb
    have hc : c.size = 25 := hc
    refine Tot.bind (spec_l6Rd_of.tot hl hn (by omega) (by omega) _ (by simp) (by simp)) fun d hd => Tot.now ?_
    refine ⟨?_, by omega, by omega⟩
    have := hd.1
    simp only [List.mem_cons, List.not_mem_nil, or_false] at this
    rcases this with h | h | h | h | h <;> rw [h] <;> first | omega | (show (_ : Nat) ≤ 25; decide)
  · refine Tot.bind (spec_l6Rd_pick.tot hl hn (by omega) (by omega) _ (by omega)) fun b hb => ?_
    obtain ⟨b1, b2, b3, b4⟩ := hb
    have b3 := b3 (by omega)
    obtain ⟨i, hi⟩ := Int.eq_ofNat_of_zero_le b2
    have e : wrap64 (1 + b.1) = ((1 + i : Nat) : Int) := (wrap64_id (x := 1 + b.1) (by omega) (by omega)).trans (by omega)
    simp only [e]
    refine (spec_l72Text.l0_tot hl hn (1 + i) [] _ (by omega) (by simp; omega) (by omega) (by omega)).imp fun r hr => ?_
    simp only [List.length_nil] at hr
    exact ⟨by omega, by omega, by omega⟩
  · refine Tot.bind (spec_l6Rd_of.tot hl hn (by omega) (by omega) _ (by simp) (by simp)) fun d hd => Tot.now ?_
    refine ⟨?_, by omega, by omega⟩
    have := hd.1
    simp only [List.mem_cons, List.not_mem_nil, or_false] at this
    rcases this with h | h | h | h | h | h | h | h <;> rw [h] <;> (show (_ : Nat) ≤ 25; decide)

theorem spec_l6Open.val {l : List Int} (h : Byt l) : ∃ l', spec_l6Open.f l = some (l', 0) ∧ Byt l' ∧ l'.length ≤ 2000 := by
  unfold spec_l6Open.f
  by_cases h1 : (l.length : Int) > 2000
  · exact ⟨l.take 2000, by rw [if_pos h1, if_pos (by omega)], byt_take h _, by rw [List.length_take]; omega⟩
  · exact ⟨l, by rw [if_neg h1], h, by omega⟩

theorem spec_DrawMixCut.tot {l : List Int} (hl : Byt l) : Tot (fun k => spec_DrawMixCut.f k l) (fun r => r.size ≤ 25) := by
  unfold spec_DrawMixCut.f
  obtain ⟨l', h1, h2, h3⟩ := spec_l6Open.val hl
  exact Tot.bind0 h1 (Tot.bind (spec_l72Text.tot h2 h3 (by omega) (by omega)) fun a ha => Tot.now ha.1)

theorem laws_lbTexts.l0_ev (l : List ByteArray) (hl : l.length < 4611686018427387904) (d : Nat) : ∀ i, l.length - i = d → i ≤ l.length → Ev (fun k => laws_lbTexts.l0 k l l (i : Nat)) true := by
  induction d with
  | zero =>
    intro i h h2
    exact Ev.step (fun k => by rw [laws_lbTexts.l0]) (ev_else (by omega) (Ev.now _))
  | succ d ih =>
    intro i h h2
    have hb : i < 4611686018427387904 := by omega
    refine Ev.step (fun k => by rw [laws_lbTexts.l0]) (ev_if (by omega) (ev_if (by omega) (ev_if (by omega) (ev_if rfl ?_))))
    simp only [w64_p1 _ hb]
    exact ih (i + 1) (by omega) (by omega)
theorem laws_lbTexts.ev (l : List ByteArray) (hl : l.length < 4611686018427387904) : Ev (fun k => laws_lbTexts.f k l l) true := by
  unfold laws_lbTexts.f
  exact ev_if rfl (laws_lbTexts.l0_ev l hl l.length 0 rfl (by omega))

theorem laws_FnMixCut.l1_ev (t : ByteArray) (n : Nat) (h1 : t.size ≤ 4 * n) (h2 : 4 * n < t.size + 4) (h3 : t.size ≤ 24) (d : Nat) : ∀ j, 4 * n - j = d → t.size ≤ j → j ≤ 4 * n → Ev (fun k => laws_FnMixCut.l1 k t (joinTo t n) (j : Nat)) true := by
  have hs := joinTo_size t n
  induction d with
  | zero =>
    intro j h h5 h6
    refine Ev.step (fun k => by rw [laws_FnMixCut.l1]) (ev_else (by omega) (ev_if (by omega) (ev_if (by omega) (ev_if (by rw [joinTo_take t n h1]) (ev_is ?_)))))
    have e : wrap64 ((t.size : Int) + 4) = (t.size : Int) + 4 := wrap64_id (x := (t.size : Int) + 4) (by omega) (by omega)
    simp only [e, hs]
    exact decide_eq_true (by omega)
  | succ d ih =>
    intro j h h5 h6
    have hb : j < 4611686018427387904 := by omega
    refine Ev.step (fun k => by rw [laws_FnMixCut.l1]) (ev_if (by omega) (ev_if (by omega) (ev_if ?_ ?_)))
    · rw [joinTo_bt t n j (by omega), bt_out t j h5]
    · simp only [w64_p1 _ hb]
      exact ih (j + 1) (by omega) (by omega) (by omega)
theorem laws_FnMixCut.l0_ev (t : ByteArray) (n : Nat) (h1 : t.size ≤ 4 * n) (h2 : 4 * n < t.size + 4) (h3 : t.size ≤ 24) (d : Nat) : ∀ i, n - i = d → i ≤ n → Ev (fun k => laws_FnMixCut.l0 k t (cutTo t n) (joinTo t i) (i : Nat)) true := by
  have hl := cutTo_length t n
  induction d with
  | zero =>
    intro i h h5
    refine Ev.step (fun k => by rw [laws_FnMixCut.l0]) (ev_else (by omega) ?_)
    rw [show i = n by omega]
    exact laws_FnMixCut.l1_ev t n h1 h2 h3 _ t.size rfl (by omega) (by omega)
  | succ d ih =>
    intro i h h5
    have hb : i < 4611686018427387904 := by omega
    have hr : rdOf ByteArray.empty (cutTo t n) (i : Int) = strOfNums (blkL t i) := by
      rw [rdOf_nat _ _ i (by omega)]
      simp [cutTo]
    have hz : (strOfNums (blkL t i)).size = 4 := by rw [strOfNums_size]; rfl
    have hj := joinTo_size t i
    refine Ev.step (fun k => by rw [laws_FnMixCut.l0]) (ev_if (by omega) (ev_if (by omega) ?_))
    simp only [hr, hz, w64_p1 _ hb, joinTo_succ]
    exact ev_if rfl (ev_if (by omega) (ih (i + 1) (by omega) (by omega)))
theorem FnMixCut : laws_FnMixCut.Pure := by
  intro l0 h0 h1 h2
  refine Ev.rounds ?_
  unfold laws_FnMixCut.f
  by_cases h : (l0.length : Int) > 1048576
  · exact ev_if h (Ev.now _)
  · obtain ⟨t, ht, hts⟩ := spec_DrawMixCut.tot (byt_of_wf h2)
    have hc := cutL_length t
    have hb : (cutL t).length < 4611686018427387904 := by omega
    refine ev_else h (Ev.bind ht (Ev.bind (spec_MixCut.ev t) (Ev.bind (impl_MixCut.ev t) (Ev.bind (laws_lbTexts.ev _ hb) (ev_if rfl ?_)))))
    by_cases h4 : (t.size : Int) < 1
    · refine ev_if h4 (Ev.step (fun k => by rw [laws_FnMixCut.j0]) (ev_if rfl (ev_is ?_)))
      rw [cutL, if_neg (by omega)]
      rfl
    · refine ev_else h4 (Ev.step (fun k => by rw [laws_FnMixCut.j0]) ?_)
      by_cases h5 : t.size ≤ 24
      · refine ev_else (by simp; omega) ?_
        rw [cutL, if_pos ⟨by omega, h5⟩]
        exact laws_FnMixCut.l0_ev t (cutN t.size) (by unfold cutN; omega) (by unfold cutN; omega) h5 _ 0 rfl (by omega)
      · refine ev_if (by simp; omega) (ev_is ?_)
        rw [cutL, if_neg (by omega)]
        rfl
end FnMixCut_
theorem FnMixCut : laws_FnMixCut.Pure := FnMixCut_.FnMixCut
end Go.Proofs.Ytpdemmdladcamaa.Pure
