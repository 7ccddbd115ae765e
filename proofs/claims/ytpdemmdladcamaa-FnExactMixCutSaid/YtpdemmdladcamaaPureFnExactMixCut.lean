/- The pure statement of the law FnExactMixCut: what the printed functions compute answers true, for every input. No condition beyond those that the statement itself names. -/
import Derived.Test.YtpdemmdladcamaaPFnExactMixCutx2
import Derived.Test.YtpdemmdladcamaaCom
namespace Go.Proofs.Ytpdemmdladcamaa.Pure
open Go.RowKit Go.Proofs.Ytpdemmdladcamaa.PFnExactMixCut Go.Proofs.YtpdemmdladcamaaW.PrintWords Go.Proofs.YtpdemmdladcamaaW.PrintLast Go.Proofs.Ytpdemmdladcamaa.Com
set_option linter.unusedVariables false
set_option linter.unusedSimpArgs false
namespace FnExactMixCut_
theorem spec_l2Blocks.val (n : Nat) (h : n ≤ 1099511627776) : spec_l2Blocks.f (n : Int) = some ((cutN n : Nat) : Int) := by
  unfold spec_l2Blocks.f
  have e1 : wrap64 ((n : Int) + 4) = (n : Int) + 4 := wrap64_id (x := (n : Int) + 4) (by omega) (by omega)
  have e2 : wrap64 ((n : Int) + 4 - 1) = (n : Int) + 3 := (wrap64_id (x := (n : Int) + 4 - 1) (by omega) (by omega)).trans (by omega)
  have e3 : Int.tdiv ((n : Int) + 3) 4 = ((cutN n : Nat) : Int) := by
    rw [Int.tdiv_eq_ediv_of_nonneg (by omega), cutN]; omega
  simp only [e1, e2, e3]
  rw [w64_nat _ (by unfold cutN; omega)]

theorem spec_MixCut.step (t : ByteArray) (ht : t.size ≤ 24) (acc : List ByteArray) (i : Nat) (hi : i < 100) {r : List ByteArray} (x : List Int) (hx : x.length ≤ 3) (p : Nat) (hp : p < 4 * (i + 1))
    (h : Ev (fun k => spec_MixCut.l1 k t acc (i : Int) (x ++ [bt t (p : Int)]) ((p + 1 : Nat) : Int)) r) : Ev (fun k => spec_MixCut.l1 k t acc (i : Int) x (p : Int)) r := by
  have e : wrap64 (wrap64 ((i : Int) + 1) * 4) = ((4 * (i + 1) : Nat) : Int) :=
    (congrArg (fun z => wrap64 (z * 4)) (w64_p1 i (by omega))).trans ((wrap64_id (x := ((i + 1 : Nat) : Int) * 4) (by omega) (by omega)).trans (by omega))
  have hb : p < 4611686018427387904 := by omega
  refine Ev.step (fun k => by rw [spec_MixCut.l1]) ?_
  simp only [e, w64_p1 p hb]
  refine ev_if (by omega) ?_
  by_cases h1 : (p : Int) < (t.size : Int)
  · exact ev_if h1 (ev_if (by omega) (ev_if (by omega) h))
  · refine ev_else h1 (ev_if (by omega) ?_)
    rw [bt_out t p (by omega)] at h
    exact h
theorem spec_MixCut.l0_ev (t : ByteArray) (ht : t.size ≤ 24) (d : Nat) : ∀ i, cutN t.size - i = d → i ≤ cutN t.size → Ev (fun k => spec_MixCut.l0 k t (cutTo t i) (i : Nat)) (cutTo t (cutN t.size)) := by
  have hc : cutN t.size ≤ 6 := by unfold cutN; omega
  induction d with
  | zero =>
    intro i h h2
    refine Ev.step (fun k => by rw [spec_MixCut.l0]) (ev_bind0 (spec_l2Blocks.val _ (by omega)) ?_)
    refine ev_else (by omega) (ev_is ?_)
    rw [show i = cutN t.size by omega]
  | succ d ih =>
    intro i h h2
    have hb : i < 4611686018427387904 := by omega
    have e : wrap64 ((i : Int) * 4) = ((4 * i : Nat) : Int) := (wrap64_id (x := (i : Int) * 4) (by omega) (by omega)).trans (by omega)
    refine Ev.step (fun k => by rw [spec_MixCut.l0]) (ev_bind0 (spec_l2Blocks.val _ (by omega)) ?_)
    refine ev_if (by omega) ?_
    simp only [e]
    refine spec_MixCut.step t ht _ i (by omega) [] (by simp) (4 * i) (by omega) ?_
    refine spec_MixCut.step t ht _ i (by omega) _ (by simp) (4 * i + 1) (by omega) ?_
    refine spec_MixCut.step t ht _ i (by omega) _ (by simp) (4 * i + 2) (by omega) ?_
    refine spec_MixCut.step t ht _ i (by omega) _ (by simp) (4 * i + 3) (by omega) ?_
    have e2 : wrap64 (wrap64 ((i : Int) + 1) * 4) = ((4 * (i + 1) : Nat) : Int) :=
      (congrArg (fun z => wrap64 (z * 4)) (w64_p1 i (by omega))).trans ((wrap64_id (x := ((i + 1 : Nat) : Int) * 4) (by omega) (by omega)).trans (by omega))
    refine Ev.step (fun k => by rw [spec_MixCut.l1]) ?_
    simp only [e2]
    simp only [w64_p1 i hb]
    refine ev_else (by omega) (ev_if (by rw [cutTo_length]; omega) ?_)
    have := ih (i + 1) (by omega) (by omega)
    rw [cutTo_succ] at this
    exact this
theorem spec_MixCut.ev (t : ByteArray) : Ev (fun k => spec_MixCut.f k t) (cutL t) := by
  unfold spec_MixCut.f cutL
  refine ev_bind0 rfl ?_
  by_cases h : (t.size : Int) < 1
  · refine ev_if h (Ev.step (fun k => by rw [spec_MixCut.j0]) (ev_if rfl (ev_is ?_)))
    rw [if_neg (by omega)]
  · refine ev_else h (Ev.step (fun k => by rw [spec_MixCut.j0]) ?_)
    by_cases h2 : t.size ≤ 24
    · rw [if_pos ⟨by omega, h2⟩]
      exact ev_else (by simp; omega) (spec_MixCut.l0_ev t h2 (cutN t.size) 0 rfl (by omega))
    · refine ev_if (by simp; omega) (ev_is ?_)
      rw [if_neg (by omega)]

theorem impl_in.val (a b c : Int) : impl_in.f a b c = some (inB a b c) := by
  unfold impl_in.f inB
  by_cases h : b ≤ a <;> simp [h]

theorem impl_copied_string.val (l : List ByteArray) (h : l.length ≤ 17592186044416) : impl_copied_string.f l = some l := by
  unfold impl_copied_string.f; rw [if_pos h]

theorem copyS_blk (t : ByteArray) (i : Nat) (hi : 4 * i < t.size) : Cpy.copyS (List.replicate 4 0) (t.extract (4 * i) t.size) = blkL t i := by
  have hsz : (t.extract (4 * i) t.size).size = ((tx t).drop (4 * i)).length := by rw [← tx_length, tx_extractEnd]
  have hg : ∀ j, bt t ((4 * i + j : Nat) : Int) = ((((tx t).drop (4 * i)).getD j 0).toNat : Int) := fun j => by
    rw [bt_tx, List.getD_eq_getElem?_getD, List.getD_eq_getElem?_getD, List.getElem?_drop]
  have hb : bytesOf (t.extract (4 * i) t.size) = ((tx t).drop (4 * i)).map fun c => (c.toNat : Int) := by
    rw [← tx_extractEnd]
    simp [bytesOf, tx]
  have h0 := hg 0
  have h1 := hg 1
  have h2 := hg 2
  have h3 := hg 3
  rw [Nat.add_zero] at h0
  unfold Cpy.copyS blkL
  rw [hsz, hb, h0, h1, h2, h3]
  generalize (tx t).drop (4 * i) = l
  rcases l with _ | ⟨a, _ | ⟨b, _ | ⟨c, _ | ⟨d, l⟩⟩⟩⟩ <;> simp [List.replicate]
theorem impl_MixCut.l0_ev (t : ByteArray) (h1 : 1 ≤ t.size) (ht : t.size ≤ 24) (d : Nat) : ∀ i, cutN t.size - i = d → i ≤ cutN t.size → Ev (fun k => impl_MixCut.l0 k t (cutTo t i) ((4 * i : Nat) : Int)) (cutTo t (cutN t.size)) := by
  have hc : cutN t.size ≤ 6 := by unfold cutN; omega
  have hc2 : 4 * cutN t.size < t.size + 4 ∧ t.size ≤ 4 * cutN t.size := by unfold cutN; omega
  induction d with
  | zero =>
    intro i h h2
    have e : i = cutN t.size := by omega
    refine Ev.step (fun k => by rw [impl_MixCut.l0]) (ev_else (by omega) (ev_const ?_))
    rw [impl_copied_string.val _ (by rw [cutTo_length]; omega), e]
  | succ d ih =>
    intro i h h2
    have e : wrap64 (((4 * i : Nat) : Int) + 4) = ((4 * (i + 1) : Nat) : Int) := (wrap64_id (x := ((4 * i : Nat) : Int) + 4) (by omega) (by omega)).trans (by omega)
    have hlt : 4 * i < t.size := by omega
    refine Ev.step (fun k => by rw [impl_MixCut.l0]) (ev_if (by omega) (ev_if (by omega) (ev_if (by omega) (ev_if (by rw [cutTo_length]; omega) ?_))))
    simp only [e, Int.toNat_natCast]
    have := ih (i + 1) (by omega) (by omega)
    rw [cutTo_succ, ← copyS_blk t i hlt] at this
    exact this
theorem impl_MixCut.ev (t : ByteArray) : Ev (fun k => impl_MixCut.f k t) (cutL t) := by
  unfold impl_MixCut.f cutL
  refine ev_bind0 (impl_in.val _ _ _) ?_
  by_cases h : 1 ≤ t.size ∧ t.size ≤ 24
  · rw [if_pos h]
    exact ev_if (inB_yes (by omega) (by omega)) (impl_MixCut.l0_ev t h.1 h.2 (cutN t.size) 0 rfl (by omega))
  · rw [if_neg h]
    exact ev_else (by rw [inB_no (by omega)]; simp) (Ev.now _)

theorem laws_eqStringS.l0_ev (l : List ByteArray) (hl : l.length < 4611686018427387904) (d : Nat) : ∀ i, l.length - i = d → i ≤ l.length → Ev (fun k => laws_eqStringS.l0 k l l (i : Nat)) true := by
  induction d with
  | zero =>
    intro i h h2
    exact Ev.step (fun k => by rw [laws_eqStringS.l0]) (ev_else (by omega) (Ev.now _))
  | succ d ih =>
    intro i h h2
    have hb : i < 4611686018427387904 := by omega
    refine Ev.step (fun k => by rw [laws_eqStringS.l0]) (ev_if (by omega) (ev_if (by omega) (ev_if (by omega) (ev_if rfl ?_))))
    simp only [w64_p1 _ hb]
    exact ih (i + 1) (by omega) (by omega)
theorem laws_eqStringS.ev (l : List ByteArray) (hl : l.length < 4611686018427387904) : Ev (fun k => laws_eqStringS.f k l l) true := by
  unfold laws_eqStringS.f
  exact ev_if rfl (laws_eqStringS.l0_ev l hl l.length 0 rfl (by omega))

theorem laws_markText.l0_ev (n : Nat) (hn : n < 9223372036854775808) : ∀ acc : List UInt8, acc.length + 19 < 4294967296 + 20 * 0 → n < 10 ^ 19 → acc.length + (decL n).length ≤ 4294967000 → Ev (fun k => laws_markText.l0 k (n : Int) (ba acc)) (ba (mkL n acc)) := by
  induction n using Nat.strongRecOn with
  | ind n ih =>
    intro acc h1 h2 h3
    refine Ev.step (fun k => by rw [laws_markText.l0]) ?_
    by_cases h : 0 < n
    · have e : wrap64 (Int.tdiv (n : Int) 10) = ((n / 10 : Nat) : Int) := by
        rw [Int.tdiv_eq_ediv_of_nonneg (by omega)]; exact wrap64_id (x := (n : Int) / 10) (by omega) (by omega)
      have e2 : (wrap64 (48 + Int.tmod (n : Int) 10) % 256).toNat = 48 + n % 10 := by
        rw [Int.tmod_eq_emod_of_nonneg (by omega), wrap64_id (x := 48 + (n : Int) % 10) (by omega) (by omega)]; omega
      have e3 : strOfNums [wrap64 (48 + Int.tmod (n : Int) 10) % 256] = ba [dig (n % 10)] := by
        apply tx_inj
        rw [tx_nums, tx_ba, List.map_singleton, e2]
        rfl
      refine ev_if (by omega) (ev_bind0 rfl ?_)
      rw [e3]
      refine ev_if ?_ ?_
      · rw [ba_size, ba_size]
        simp only [List.length_singleton]
        omega
      · rw [mkL_pos h]
        have e4 : ba [dig (n % 10)] ++ ba acc = ba (dig (n % 10) :: acc) := by
          apply tx_inj
          rw [tx_append]
          rfl
        simp only [e, e4]
        by_cases h10 : n < 10
        · have h0 : n / 10 = 0 := by omega
          rw [h0]
          refine Ev.step (fun k => by rw [laws_markText.l0]) (ev_else (by omega) (ev_if ?_ (ev_is ?_)))
          · rw [ba_size]
            simp only [List.length_cons]
            omega
          · rw [mkL_zero]
            apply tx_inj
            rw [tx_append]
            rfl
        · rw [decL_ge h10, List.length_append, List.length_singleton] at h3
          refine ih (n / 10) (by omega) (by omega) _ ?_ (by omega) ?_
          · rw [List.length_cons]
            have := decL_pos (n / 10)
            omega
          · rw [List.length_cons]; omega
    · refine ev_else (by omega) (ev_if ?_ (ev_is ?_))
      · rw [ba_size]
        omega
      · have h0 : n = 0 := by omega
        rw [h0, mkL_zero]
        apply tx_inj
        rw [tx_append]
        rfl
theorem laws_markText.ev (n : Nat) (h : 0 < n) (hn : n < 4611686018427387904) : Ev (fun k => laws_markText.f k (n : Int)) (ba (mkL n [])) := by
  unfold laws_markText.f
  refine ev_else (by omega) ?_
  refine laws_markText.l0_ev n (by omega) [] (by simp) (by omega) ?_
  have := decL_length (n := n) (d := 18) (by omega)
  simp only [List.length_nil]
  omega

theorem laws_markStringS.l0_ev (m : Nat) (hm : 0 < m) (d : Nat) : ∀ (i : Nat) (a b : List ByteArray), a.length = i → b.length = d → m + i + d < 4611686018427387904 → a = markL m i →
    Ev (fun k => laws_markStringS.l0 k (a ++ b) ((m + i : Nat) : Int) (i : Nat)) (((m + i + d : Nat) : Int), markL m (i + d)) := by
  induction d with
  | zero =>
    intro i a b ha hb hlt hm'
    have : b = [] := List.eq_nil_of_length_eq_zero hb
    subst this
    rw [List.append_nil]
    refine Ev.step (fun k => by rw [laws_markStringS.l0]) (ev_else (by omega) (ev_is ?_))
    rw [hm']
    rfl
  | succ d ih =>
    intro i a b ha hb hlt hm'
    obtain ⟨x, t, rfl⟩ : ∃ x t, b = x :: t := by
      cases b with
      | nil => simp at hb
      | cons x t => exact ⟨x, t, rfl⟩
    have hb1 : i < 4611686018427387904 := by omega
    have hb2 : m + i < 4611686018427387904 := by omega
    have hl : (i : Int) < ((a ++ x :: t).length : Int) := by rw [List.length_append, List.length_cons]; omega
    refine Ev.step (fun k => by rw [laws_markStringS.l0]) (ev_if hl ?_)
    refine Ev.bind (laws_markText.ev (m + i) (by omega) hb2) (ev_if (by omega) ?_)
    have hs : (a ++ x :: t).set (i : Int).toNat (ba (mkL (m + i) [])) = (a ++ [ba (mkL (m + i) [])]) ++ t := by
      rw [Int.toNat_natCast, List.set_append_right _ _ (by omega), show i - a.length = 0 by omega, List.set_cons_zero]
      simp
    have hb' : t.length = d := by simpa using hb
    have hmk : a ++ [ba (mkL (m + i) [])] = markL m (i + 1) := by
      rw [hm', markL, markL, List.range_succ, List.map_append]
      rfl
    have hai : (a ++ [ba (mkL (m + i) [])]).length = i + 1 := by rw [List.length_append, ha]; rfl
    have := ih (i + 1) (a ++ [ba (mkL (m + i) [])]) t hai hb' (by omega) hmk
    simp only [hs, w64_p1 _ hb1, w64_p1 _ hb2]
    refine ev_eq this ?_
    rw [show m + (i + 1) + d = m + i + (d + 1) by omega, show i + 1 + d = i + (d + 1) by omega]
theorem laws_markStringS.ev (l : List ByteArray) (m : Nat) (hm : 0 < m) (hl : m + l.length < 4611686018427387904) : Ev (fun k => laws_markStringS.f k l (m : Int)) (((m + l.length : Nat) : Int), markL m l.length) := by
  have := laws_markStringS.l0_ev m hm l.length 0 [] l rfl rfl (by omega) rfl
  refine ev_eq this ?_
  simp

theorem laws_heldStringS.l0_ev (m : Nat) (hm : 0 < m) (n : Nat) (hn : m + n < 4611686018427387904) (d : Nat) : ∀ i, n - i = d → i ≤ n →
    Ev (fun k => laws_heldStringS.l0 k (markL m n) ((m + i : Nat) : Int) (i : Nat)) ((m + n : Nat) : Int) := by
  have hl : (markL m n).length = n := by simp [markL]
  induction d with
  | zero =>
    intro i h h2
    refine Ev.step (fun k => by rw [laws_heldStringS.l0]) (ev_else (by omega) (ev_is ?_))
    rw [show i = n by omega]
  | succ d ih =>
    intro i h h2
    have hb1 : i < 4611686018427387904 := by omega
    have hb2 : m + i < 4611686018427387904 := by omega
    have hi : i < (markL m n).length := by omega
    refine Ev.step (fun k => by rw [laws_heldStringS.l0]) (ev_if (by omega) (ev_if (by omega) ?_))
    refine Ev.bind (laws_markText.ev (m + i) (by omega) hb2) (ev_if ?_ ?_)
    · rw [rdOf_nat _ _ i hi]
      simp [markL]
    · simp only [w64_p1 _ hb1, w64_p1 _ hb2]
      exact ih (i + 1) (by omega) (by omega)
theorem laws_heldStringS.ev (m : Nat) (hm : 0 < m) (n : Nat) (hn : m + n < 4611686018427387904) : Ev (fun k => laws_heldStringS.f k (markL m n) (m : Int)) ((m + n : Nat) : Int) :=
  laws_heldStringS.l0_ev m hm n hn n 0 rfl (by omega)

theorem FnExactMixCut : laws_FnExactMixCut.Pure := by
  intro a0 h0
  refine Ev.rounds ?_
  unfold laws_FnExactMixCut.f
  by_cases h : (a0.size : Int) > 1048576
  · exact ev_if h (Ev.now _)
  · have hc := cutL_length a0
    have hb : (cutL a0).length < 4611686018427387904 := by omega
    have hb1 : 1 + (cutL a0).length < 4611686018427387904 := by omega
    refine ev_else h (Ev.bind (spec_MixCut.ev a0) (Ev.bind (impl_MixCut.ev a0) (Ev.bind (laws_eqStringS.ev _ hb) (ev_if rfl ?_))))
    refine Ev.bind (laws_markStringS.ev _ 1 (by omega) hb1) (Ev.bind (laws_heldStringS.ev 1 (by omega) _ hb1) (ev_else (by omega) (ev_if rfl ?_)))
    refine Ev.bind (impl_MixCut.ev a0) (Ev.bind (laws_eqStringS.ev _ hb) (ev_if rfl ?_))
    exact Ev.bind (laws_heldStringS.ev 1 (by omega) _ hb1) (ev_else (by omega) (ev_if rfl (Ev.now _)))
end FnExactMixCut_
theorem FnExactMixCut : laws_FnExactMixCut.Pure := FnExactMixCut_.FnExactMixCut
end Go.Proofs.Ytpdemmdladcamaa.Pure
