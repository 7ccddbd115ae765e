/- The pure statement of the law FnShelfFall: what the printed functions compute answers true, for every input. No condition beyond those that the statement itself names. -/
import Derived.Test.YtdgigadocempdaaPFnShelfFallx14
import Derived.Test.YtdgigadocempdaaCom
namespace Go.Proofs.Ytdgigadocempdaa.Pure
open Go.RowKit Go.Proofs.Ytdgigadocempdaa.PFnShelfFall Go.Proofs.YtdgigadocempdaaW.PrintWords Go.Proofs.YtdgigadocempdaaW.PrintLast Go.Proofs.Ytdgigadocempdaa.Com
set_option linter.unusedVariables false
set_option linter.unusedSimpArgs false
namespace FnShelfFall_
theorem spec_l6Dec.ev (n : Nat) (hn : n < 9223372036854775808) : Ev (fun k => spec_l6Dec.f k (n : Int)) (ba (decL n)) := by
  induction n using Nat.strongRecOn with
  | ind n ih =>
    refine Ev.step (fun k => by rw [spec_l6Dec.f]) ?_
    refine ev_else (by omega) (ev_else (by omega) ?_)
    by_cases h : n < 10
    · refine ev_if (by omega) ?_
      refine ev_is ?_
      apply tx_inj
      have e : (wrap64 (48 + (n : Int)) % 256).toNat = 48 + n := by unfold wrap64; omega
      rw [tx_nums, tx_ba, decL_lt h, List.map_singleton, e]
      rfl
    · refine ev_else (by omega) ?_
      have e : wrap64 (Int.tdiv (n : Int) 10) = ((n / 10 : Nat) : Int) := by
        rw [Int.tdiv_eq_ediv_of_nonneg (by omega)]; unfold wrap64; omega
      have e2 : (wrap64 (48 + Int.tmod (n : Int) 10) % 256).toNat = 48 + n % 10 := by
        rw [Int.tmod_eq_emod_of_nonneg (by omega)]; unfold wrap64; omega
      rw [e]
      refine Ev.bind (ih (n / 10) (by omega) (by omega)) (ev_bind0 rfl (ev_if ?_ (ev_is ?_)))
      · rw [ba_size, strOfNums_size]
        have := decL_length (n := n / 10) (d := 18) (by omega)
        simp only [List.length_singleton]
        omega
      · apply tx_inj
        rw [tx_append, tx_ba, tx_nums, tx_ba, decL_ge h, List.map_singleton, e2]
        rfl
theorem spec_l6Dec.tot (x : Int) (h0 : 0 ≤ x) (h1 : x < 1000) : Tot (fun k => spec_l6Dec.f k x) (fun r => r.size ≤ 3) := by
  obtain ⟨n, rfl⟩ := Int.eq_ofNat_of_zero_le h0
  refine ⟨_, spec_l6Dec.ev n (by omega), ?_⟩
  show (ba (decL n)).size ≤ 3
  rw [ba_size]
  exact decL_length (n := n) (d := 2) (by omega)

theorem spec_l3Dec.l0_ev (t : ByteArray) (ht : t.size ≤ 4) (h0 : 1 ≤ t.size) (d : Nat) : ∀ i, t.size - i = d → i ≤ t.size → (∀ c ∈ (tx t).take i, isDig c = true) →
    Ev (fun k => spec_l3Dec.l0 k t (valL ((tx t).take i) : Nat) (i : Nat)) (resNum (numL 4 (tx t))) := by
  have hl := tx_length t
  induction d with
  | zero =>
    intro i hi hi2 hd
    have e : i = (tx t).length := by omega
    subst e
    rw [List.take_length] at hd
    rw [List.take_length]
    refine Ev.step (fun k => by rw [spec_l3Dec.l0]) (ev_else (by omega) ?_)
    have hv : valL (tx t) < 10000 := valL_small hd (by omega)
    refine Ev.bind (spec_l6Dec.ev _ (by omega)) ?_
    rw [toList_eq, toList_eq, tx_ba]
    by_cases h : decL (valL (tx t)) = tx t
    · refine ev_if h (ev_is ?_)
      unfold numL
      rw [if_pos ⟨by omega, by simpa using hd, h⟩]
      rfl
    · refine ev_else h (ev_is ?_)
      unfold numL
      rw [if_neg (fun h' => h h'.2.2)]
      rfl
  | succ d ih =>
    intro i hi hi2 hd
    have hlt : i < (tx t).length := by omega
    have hg : (tx t).getD i 0 = (tx t)[i] := by rw [List.getD_eq_getElem?_getD, List.getElem?_eq_getElem hlt]; rfl
    have hno : isDig (tx t)[i] = false → resNum (numL 4 (tx t)) = -1 := by
      intro hb
      unfold numL
      rw [if_neg]
      · rfl
      · rintro ⟨_, h2, _⟩
        rw [List.all_eq_true] at h2
        rw [h2 _ (List.getElem_mem hlt)] at hb
        cases hb
    refine Ev.step (fun k => by rw [spec_l3Dec.l0]) (ev_if (by omega) (ev_if (by omega) ?_))
    rw [bt_tx, hg]
    by_cases h1 : (((tx t)[i]).toNat : Int) < 48
    · refine ev_if h1 (ev_is (hno ?_).symm)
      simp [isDig]; omega
    · refine ev_else h1 ?_
      by_cases h2 : (((tx t)[i]).toNat : Int) > 57
      · refine ev_if h2 (ev_is (hno ?_).symm)
        simp [isDig]; omega
      · refine ev_else h2 ?_
        have ht1 : (tx t).take (i + 1) = (tx t).take i ++ [(tx t)[i]] := by rw [List.take_add_one, List.getElem?_eq_getElem hlt]; rfl
        have hv : valL ((tx t).take i) < 10000 := valL_small hd (by rw [List.length_take]; omega)
        have e1 : wrap64 (wrap64 (((valL ((tx t).take i) : Nat) : Int) * 10) + (((((tx t)[i]).toNat : Int) - 48) % 256)) = ((valL ((tx t).take (i + 1)) : Nat) : Int) := by
          rw [ht1, valL_snoc]
          generalize valL ((tx t).take i) = v at hv
          generalize (tx t)[i].toNat = c at h1 h2
          have u1 : ((c : Int) - 48) % 256 = ((c - 48 : Nat) : Int) := by omega
          have u3 : c - 48 < 10 := by omega
          rw [u1, wrap64_id (x := (v : Int) * 10) (by omega) (by omega)]
          generalize c - 48 = g at u3
          rw [wrap64_id (x := (v : Int) * 10 + (g : Int)) (by omega) (by omega)]
          omega
        have e2 : wrap64 ((i : Int) + 1) = ((i + 1 : Nat) : Int) := by unfold wrap64; omega
        rw [e1, e2]
        refine ih (i + 1) (by omega) (by omega) ?_
        rw [ht1]
        intro c hc
        rcases List.mem_append.1 hc with hc | hc
        · exact hd c hc
        · rw [List.mem_singleton] at hc
          subst hc
          simp [isDig]; omega
theorem spec_l3Dec.ev (t : ByteArray) : Ev (fun k => spec_l3Dec.f k t) (resNum (numL 4 (tx t))) := by
  unfold spec_l3Dec.f
  have hl := tx_length t
  by_cases h : (t.size : Int) < 1
  · refine ev_if h (Ev.step (fun k => by rw [spec_l3Dec.j0]) (ev_if rfl (ev_is ?_)))
    have : tx t = [] := List.eq_nil_of_length_eq_zero (by omega)
    rw [this, numL_nil]
    rfl
  · refine ev_else h (Ev.step (fun k => by rw [spec_l3Dec.j0]) ?_)
    by_cases h4 : t.size ≤ 4
    · refine ev_else (by simp; omega) ?_
      exact spec_l3Dec.l0_ev t h4 (by omega) t.size 0 (by omega) (by omega) (by simp)
    · refine ev_if (by simp; omega) (ev_is ?_)
      unfold numL
      rw [if_neg (by omega)]
      rfl

set_option maxRecDepth 100000 in
theorem spec_l11One.l0_ev (t : ByteArray) (ht : t.size < 4611686018427387904) (d : Nat) : ∀ i, 3 - i = d → i ≤ 3 → i ≤ col (tx t) → Ev (fun k => spec_l11One.l0 k t (i : Nat)) (resOne (oneL (tx t))) := by
  have hl := tx_length t
  have fin : ∀ i, ¬ (i < t.size ∧ i < 3) → i ≤ col (tx t) → Ev (fun k => spec_l11One.j1 k t (i : Nat) false) (resOne (oneL (tx t))) := by
    intro i h hc
    refine Ev.step (fun k => by rw [spec_l11One.j1]) (ev_else (by simp) (ev_is ?_))
    unfold oneL
    rw [if_neg (by omega)]
    rfl
  have go : ∀ i, i < t.size → i < 3 → i ≤ col (tx t) → (Ev (fun k => spec_l11One.l0 k t ((i + 1 : Nat) : Int)) (resOne (oneL (tx t))) ∨ (tx t).getD i 0 = 58) → Ev (fun k => spec_l11One.j1 k t (i : Nat) true) (resOne (oneL (tx t))) := by
    intro i h1 h2 hc hn
    refine Ev.step (fun k => by rw [spec_l11One.j1]) (ev_if rfl (ev_if (by omega) (ev_if (by omega) ?_)))
    rw [bt_tx]
    by_cases h58 : (tx t).getD i 0 = 58
    · refine ev_if (by rw [h58]; rfl) (ev_if (by omega) ?_)
      have hcol := col_eq hc (by omega) h58
      have ho : oneL (tx t) = oneAt (tx t) i := by unfold oneL; rw [hcol, if_pos (by omega)]
      rw [ho]
      refine Ev.bind (spec_l3Dec.ev _) ?_
      rw [Int.toNat_natCast, tx_extract0]
      unfold oneAt
      cases hm : numL 4 ((tx t).take i) with
      | none => exact ev_if (by simp [resNum]) (Ev.now _)
      | some n =>
        have hni : (i : Nat) ≤ 2 := by omega
        have hnb : n < 10000 := by
          obtain ⟨e1, e2⟩ := numL_some.1 hm
          have h3 := valL_small (decL_dig n) (by rw [← e1]; exact e2)
          rw [valL_dec] at h3
          exact h3
        simp only [resNum]
        have w1 : wrap64 (wrap64 ((i : Int) + 2) + (n : Int)) = ((i + 2 + n : Nat) : Int) := by unfold wrap64; omega
        have w2 : wrap64 (wrap64 ((i : Int) + 1) + (n : Int)) = ((i + 1 + n : Nat) : Int) := by unfold wrap64; omega
        have w3 : wrap64 ((i : Int) + 1) = ((i + 1 : Nat) : Int) := by unfold wrap64; omega
        simp only [w1, w2]
        simp only [w3]
        by_cases c1 : (n : Int) < 1
        · refine ev_if c1 (ev_is ?_)
          rw [if_neg (by omega)]; rfl
        · refine ev_else c1 ?_
          by_cases c2 : (n : Int) > 60
          · refine ev_if c2 (ev_is ?_)
            rw [if_neg (by omega)]; rfl
          · refine ev_else c2 ?_
            by_cases c3 : (t.size : Int) < ((i + 2 + n : Nat) : Int)
            · refine ev_if c3 (ev_is ?_)
              rw [if_neg (by omega)]; rfl
            · refine ev_else c3 (ev_if (by omega) (ev_if (by omega) ?_))
              rw [bt_tx]
              by_cases c4 : (tx t).getD (i + 1 + n) 0 = 59
              · refine ev_if (by rw [c4]; rfl) (ev_if (by omega) (ev_if (by omega) (ev_if (by omega) (ev_is ?_))))
                rw [if_pos ⟨by omega, by omega, by omega, c4⟩]
                simp only [resOne, Prod.mk.injEq, and_true]
                apply tx_inj
                rw [tx_extract, tx_ba]
                congr 1
                omega
              · refine ev_else (fun h => c4 (UInt8.toNat_inj.1 (by exact_mod_cast h))) (ev_is ?_)
                rw [if_neg (fun h => c4 h.2.2.2)]; rfl
    · refine ev_else (fun h => h58 (UInt8.toNat_inj.1 (by exact_mod_cast h))) ?_
      have w3 : wrap64 ((i : Int) + 1) = ((i + 1 : Nat) : Int) := by unfold wrap64; omega
      rw [w3]
      exact hn.resolve_right h58
  induction d with
  | zero =>
    intro i hi h3 hc
    refine Ev.step (fun k => by rw [spec_l11One.l0]) ?_
    by_cases h : (i : Int) < (t.size : Int)
    · refine ev_if h ?_
      rw [decide_eq_false (by omega)]
      exact fin i (by omega) hc
    · exact ev_else h (fin i (by omega) hc)
  | succ d ih =>
    intro i hi h3 hc
    refine Ev.step (fun k => by rw [spec_l11One.l0]) ?_
    by_cases h : (i : Int) < (t.size : Int)
    · refine ev_if h ?_
      rw [decide_eq_true (by omega)]
      refine go i (by omega) (by omega) hc ?_
      by_cases h58 : (tx t).getD i 0 = 58
      · exact .inr h58
      · exact .inl (ih (i + 1) (by omega) (by omega) (col_lt hc (by omega) h58))
    · exact ev_else h (fin i (by omega) hc)
theorem spec_l11One.ev (t : ByteArray) (ht : t.size < 4611686018427387904) : Ev (fun k => spec_l11One.f k t) (resOne (oneL (tx t))) := spec_l11One.l0_ev t ht 3 0 rfl (by omega) (by omega)

theorem spec_ShelfRead.l0_ev (t : ByteArray) (ht : t.size ≤ 1099511627776) (d : Nat) : ∀ i, t.size - i = d → i ≤ t.size → ∀ acc : List ByteArray, 4 * acc.length ≤ i →
    Ev (fun k => spec_ShelfRead.l0 k t acc (i : Nat)) (acc ++ (readL ((tx t).drop i)).1.map ba, ((i + (readL ((tx t).drop i)).2 : Nat) : Int)) := by
  have hl := tx_length t
  induction d using Nat.strongRecOn with
  | ind d ih =>
    intro i hi hi2 acc ha
    refine Ev.step (fun k => by rw [spec_ShelfRead.l0]) ?_
    by_cases h : (i : Int) < (t.size : Int)
    · refine ev_if h (ev_if (by omega) (ev_if (by omega) ?_))
      rw [Int.toNat_natCast]
      refine Ev.bind (spec_l11One.ev _ (by rw [← tx_length, tx_extractEnd, List.length_drop]; omega)) ?_
      rw [tx_extractEnd]
      cases ho : oneL ((tx t).drop i) with
      | none =>
        refine ev_if rfl (ev_is ?_)
        rw [readL_none ho]
        simp
      | some p =>
        obtain ⟨r, n⟩ := p
        obtain ⟨k1, k2⟩ := oneL_len ho
        rw [List.length_drop] at k2
        refine ev_else (by simp [resOne]; omega) (ev_if (by omega) ?_)
        have e1 : wrap64 ((i : Int) + (resOne (some (r, n))).2) = ((i + n : Nat) : Int) := by simp only [resOne]; unfold wrap64; omega
        rw [e1]
        refine ev_eq (ih (t.size - (i + n)) (by omega) (i + n) rfl (by omega) _ (by simp; omega)) ?_
        rw [readL_some ho, List.drop_drop]
        simp [resOne]
        omega
    · refine ev_else h (ev_is ?_)
      rw [List.drop_eq_nil_of_le (by omega), readL_none (l := []) (by decide)]
      simp
theorem spec_ShelfRead.ev (t : ByteArray) (ht : t.size ≤ 1099511627776) : Ev (fun k => spec_ShelfRead.f k t) (resLog (readL (tx t))) := by
  refine ev_eq (spec_ShelfRead.l0_ev t ht t.size 0 (by omega) (by omega) [] (by simp)) ?_
  simp [resLog]

theorem spec_l6In.val (a b c : Int) : spec_l6In.f a b c = some (inB a b c) := by
  unfold spec_l6In.f inB
  by_cases h : b ≤ a <;> simp [h]

theorem spec_ShelfOk.ev (t : ByteArray) (f : Int) : Ev (fun k => spec_ShelfOk.f k t f) (okL t f) := by
  unfold spec_ShelfOk.f
  by_cases h : (t.size : Int) > 2400
  · refine ev_if h (Ev.step (fun k => by rw [spec_ShelfOk.j0]) (ev_if rfl (ev_is ?_)))
    unfold okL
    rw [decide_eq_false (by omega)]
    rfl
  · refine ev_else h (ev_bind0 (spec_l6In.val _ _ _) (Ev.step (fun k => by rw [spec_ShelfOk.j0]) ?_))
    by_cases h2 : 0 ≤ f ∧ f ≤ (t.size : Int)
    · obtain ⟨i, rfl⟩ := Int.eq_ofNat_of_zero_le h2.1
      have hi := inB_yes h2.1 h2.2
      rw [hi]
      refine ev_else (by simp) (Ev.bind (spec_ShelfRead.ev t (by omega)) (ev_if h2.1 (ev_if h2.2 (Ev.bind (spec_ShelfRead.ev _ ?_) ?_))))
      · rw [Int.toNat_natCast, ← tx_length, tx_extract0, List.length_take, tx_length]
        omega
      · rw [Int.toNat_natCast, tx_extract0]
        unfold okL
        rw [hi, decide_eq_true (p := t.size ≤ 2400) (by omega), Int.toNat_natCast]
        simp only [resLog, Bool.true_and]
        by_cases h3 : (readL (tx t)).2 = t.size
        · refine ev_if (by omega) (ev_is ?_)
          rw [decide_eq_true h3, Bool.true_and]
          rfl
        · refine ev_else (by omega) (ev_is ?_)
          rw [decide_eq_false h3, Bool.false_and]
    · refine ev_if (by rw [inB_no h2]; rfl) (ev_is ?_)
      unfold okL
      rw [inB_no h2, Bool.and_false, Bool.false_and]

theorem impl_in.val (a b c : Int) : impl_in.f a b c = some (inB a b c) := by
  unfold impl_in.f inB
  by_cases h : b ≤ a <;> simp [h]

def resNat : Option Nat → Int × Bool
  | none => (0, false)
  | some n => (n, true)
theorem impl_natural.l0_ev (t : ByteArray) (ht : t.size ≤ 5) (hc : tx t ≠ [] ∧ ((tx t).length = 1 ∨ (tx t).headD 0 ≠ 48)) (d : Nat) : ∀ i, t.size - i = d → i ≤ t.size → (∀ c ∈ (tx t).take i, isDig c = true) →
    Ev (fun k => impl_natural.l0 k t (valL ((tx t).take i) : Nat) (i : Nat)) (resNat (numL 5 (tx t))) := by
  have hl := tx_length t
  induction d with
  | zero =>
    intro i hi hi2 hd
    have e : i = (tx t).length := by omega
    subst e
    rw [List.take_length] at hd
    rw [List.take_length]
    refine Ev.step (fun k => by rw [impl_natural.l0]) (ev_else (by omega) (ev_is ?_))
    rw [show numL 5 (tx t) = some (valL (tx t)) from ?_]
    · rfl
    · unfold numL
      rw [if_pos ⟨by omega, by simpa using hd, (canon_iff hd).2 hc⟩]
  | succ d ih =>
    intro i hi hi2 hd
    have hlt : i < (tx t).length := by omega
    have hg : (tx t).getD i 0 = (tx t)[i] := by rw [List.getD_eq_getElem?_getD, List.getElem?_eq_getElem hlt]; rfl
    have h8 : (tx t)[i].toNat < 256 := (tx t)[i].toNat_lt
    refine Ev.step (fun k => by rw [impl_natural.l0]) (ev_if (by omega) (ev_if (by omega) ?_))
    rw [bt_tx, hg, wrap64_id (x := (((tx t)[i]).toNat : Int)) (by omega) (by omega)]
    refine ev_bind0 (impl_in.val _ _ _) ?_
    by_cases h1 : 48 ≤ (((tx t)[i]).toNat : Int) ∧ (((tx t)[i]).toNat : Int) ≤ 57
    · refine ev_if (inB_yes h1.1 h1.2) ?_
      have ht1 : (tx t).take (i + 1) = (tx t).take i ++ [(tx t)[i]] := by rw [List.take_add_one, List.getElem?_eq_getElem hlt]; rfl
      have hv : valL ((tx t).take i) < 10000 := valL_small hd (by rw [List.length_take]; omega)
      have e1 : wrap64 (wrap64 (10 * ((valL ((tx t).take i) : Nat) : Int)) + (((((tx t)[i]).toNat : Int) - 48) % 256)) = ((valL ((tx t).take (i + 1)) : Nat) : Int) := by
        rw [ht1, valL_snoc]
        generalize valL ((tx t).take i) = v at hv
        generalize (tx t)[i].toNat = c at h1
        have u1 : ((c : Int) - 48) % 256 = ((c - 48 : Nat) : Int) := by omega
        have u3 : c - 48 < 10 := by omega
        rw [u1, wrap64_id (x := 10 * (v : Int)) (by omega) (by omega)]
        generalize c - 48 = g at u3
        rw [wrap64_id (x := 10 * (v : Int) + (g : Int)) (by omega) (by omega)]
        omega
      have e2 : wrap64 ((i : Int) + 1) = ((i + 1 : Nat) : Int) := by unfold wrap64; omega
      rw [e1, e2]
      refine ih (i + 1) (by omega) (by omega) ?_
      rw [ht1]
      intro c hc
      rcases List.mem_append.1 hc with hc | hc
      · exact hd c hc
      · rw [List.mem_singleton] at hc
        subst hc
        simp [isDig]; omega
    · refine ev_else (by rw [inB_no h1]; simp) (ev_is ?_)
      rw [show numL 5 (tx t) = none from ?_]
      · rfl
      · unfold numL
        rw [if_neg]
        rintro ⟨_, h2, _⟩
        rw [List.all_eq_true] at h2
        have := h2 _ (List.getElem_mem hlt)
        simp [isDig] at this
        omega
theorem impl_natural.ev (t : ByteArray) : Ev (fun k => impl_natural.f k t) (resNat (numL 5 (tx t))) := by
  unfold impl_natural.f
  have hl := tx_length t
  refine ev_bind0 (impl_in.val _ _ _) ?_
  by_cases h : 1 ≤ (t.size : Int) ∧ (t.size : Int) ≤ 5
  · refine ev_if (inB_yes h.1 h.2) (ev_if (by omega) ?_)
    have hne : tx t ≠ [] := fun e => by rw [e] at hl; simp at hl; omega
    have hh : (tx t).getD 0 0 = (tx t).headD 0 := by cases tx t <;> rfl
    have hb : bt t 0 = (((tx t).headD 0).toNat : Int) := by rw [← hh, ← bt_tx]; rfl
    rw [hb]
    by_cases h48 : (tx t).headD 0 = 48
    · refine ev_if (by rw [h48]; rfl) (Ev.step (fun k => by rw [impl_natural.j0]) ?_)
      by_cases h1 : t.size = 1
      · refine ev_else (by simp; omega) ?_
        exact impl_natural.l0_ev t (by omega) ⟨hne, .inl (by omega)⟩ t.size 0 (by omega) (by omega) (by simp)
      · refine ev_if (by simp; omega) (ev_is ?_)
        rw [show numL 5 (tx t) = none from ?_]
        · rfl
        · unfold numL
          rw [if_neg]
          rintro ⟨_, h2, h3⟩
          rw [List.all_eq_true] at h2
          rcases ((canon_iff h2).1 h3).2 with h4 | h4
          · omega
          · exact h4 h48
    · refine ev_else (fun hx => h48 (UInt8.toNat_inj.1 (by exact_mod_cast hx))) (Ev.step (fun k => by rw [impl_natural.j0]) (ev_else (by simp) ?_))
      exact impl_natural.l0_ev t (by omega) ⟨hne, .inr h48⟩ t.size 0 (by omega) (by omega) (by simp)
  · refine ev_else (by rw [inB_no h]; simp) (Ev.step (fun k => by rw [impl_natural.j0]) (ev_if rfl (ev_is ?_)))
    rw [show numL 5 (tx t) = none from ?_]
    · rfl
    · by_cases h0 : tx t = []
      · rw [h0]; exact numL_nil 5
      · have := List.length_pos_iff.2 h0
        unfold numL
        rw [if_neg (by omega)]

theorem impl_copied_string.val (l : List ByteArray) (h : l.length ≤ 17592186044416) : impl_copied_string.f l = some l := by
  unfold impl_copied_string.f; rw [if_pos h]

set_option maxRecDepth 100000 in
theorem impl_ShelfRead.ev_l1 (t : ByteArray) (ht : t.size ≤ 1099511627776) (at_ : Nat) (ha : at_ < t.size) (acc : List ByteArray) (hacc : 4 * acc.length ≤ at_)
    (hstop : ∀ r : List ByteArray × Int, r = (acc, (at_ : Int)) → oneL ((tx t).drop at_) = none → Ev (fun _ => some r) (acc ++ (readL ((tx t).drop at_)).1.map ba, ((at_ + (readL ((tx t).drop at_)).2 : Nat) : Int)))
    (hgo : ∀ r n, oneL ((tx t).drop at_) = some (r, n) → Ev (fun k => impl_ShelfRead.l0 k t (acc ++ [ba r]) ((at_ + n : Nat) : Int)) (acc ++ (readL ((tx t).drop at_)).1.map ba, ((at_ + (readL ((tx t).drop at_)).2 : Nat) : Int)))
    (d : Nat) : ∀ i, 3 - i = d → i ≤ 3 → i ≤ col ((tx t).drop at_) → at_ + i ≤ t.size →
    Ev (fun k => impl_ShelfRead.l1 k t acc (at_ : Int) ((at_ + i : Nat) : Int)) (acc ++ (readL ((tx t).drop at_)).1.map ba, ((at_ + (readL ((tx t).drop at_)).2 : Nat) : Int)) := by
  have hl := tx_length t
  have hl2 : ((tx t).drop at_).length = t.size - at_ := by rw [List.length_drop, hl]
  have hgd : ∀ j, ((tx t).drop at_).getD j 0 = (tx t).getD (at_ + j) 0 := fun j => by rw [List.getD_eq_getElem?_getD, List.getD_eq_getElem?_getD, List.getElem?_drop]
  have stop : oneL ((tx t).drop at_) = none → Ev (fun _ => (impl_copied_string.f acc).bind fun t121 => some (t121, (at_ : Int))) (acc ++ (readL ((tx t).drop at_)).1.map ba, ((at_ + (readL ((tx t).drop at_)).2 : Nat) : Int)) := fun h => ev_bind0 (impl_copied_string.val acc (by omega)) (hstop _ rfl h)
  obtain ⟨m, hm⟩ : ∃ m, t.size = at_ + m := ⟨t.size - at_, by omega⟩
  have hl2 : ((tx t).drop at_).length = m := by omega
  have hac2 : acc.length < 8796093022208 := by omega
  clear hstop hacc hl ha
  -- the loop's end: at the colon or behind what may be one
  have fin : ∀ i, i ≤ 3 → i ≤ col ((tx t).drop at_) → at_ + i ≤ t.size → (at_ + i < t.size → i < 3 → (tx t).getD (at_ + i) 0 = 58) →
      Ev (fun k => impl_ShelfRead.j2 k t acc (at_ : Int) ((at_ + i : Nat) : Int)) (acc ++ (readL ((tx t).drop at_)).1.map ba, ((at_ + (readL ((tx t).drop at_)).2 : Nat) : Int)) := by
    intro i h3 hc hle h58
    refine Ev.step (fun k => by rw [impl_ShelfRead.j2]) ?_
    by_cases c1 : ((at_ + i : Nat) : Int) ≥ (t.size : Int)
    · refine ev_if c1 (Ev.step (fun k => by rw [impl_ShelfRead.j3]) (ev_if rfl (stop ?_)))
      unfold oneL
      rw [if_neg (by omega)]
    · refine ev_else c1 (ev_if (by omega) (ev_if (by omega) ?_))
      rw [bt_tx]
      by_cases c2 : (tx t).getD (at_ + i) 0 = 58
      · rw [c2, show (((58 : UInt8).toNat : Int) != 58) = false from rfl]
        have hcol : col ((tx t).drop at_) = i := col_eq hc (by omega) (by rw [hgd]; exact c2)
        refine Ev.step (fun k => by rw [impl_ShelfRead.j3]) (ev_else (by simp) (ev_if (by omega) (ev_if (by omega) (ev_if (by omega) ?_))))
        refine Ev.bind (impl_natural.ev _) ?_
        rw [Int.toNat_natCast, Int.toNat_natCast, tx_extract, show at_ + i - at_ = i by omega]
        have noOne : (¬ ∃ n, numL 4 (((tx t).drop at_).take i) = some n ∧ 1 ≤ n ∧ n ≤ 60 ∧ i < 3 ∧ i + 2 + n ≤ m ∧ (tx t).getD (at_ + (i + 1 + n)) 0 = 59) → oneL ((tx t).drop at_) = none := by
          intro h
          unfold oneL oneAt
          rw [hcol]
          split
          · next hk =>
            split
            · rfl
            · next n hn =>
              rw [if_neg]
              rintro ⟨q1, q2, q3, q4⟩
              exact h ⟨n, hn, q1, q2, hk.1, by omega, by rw [← hgd]; exact q4⟩
          · rfl
        have h45 : numL 5 (((tx t).drop at_).take i) = numL 4 (((tx t).drop at_).take i) := by
          unfold numL
          have : (((tx t).drop at_).take i).length ≤ 4 := by rw [List.length_take]; omega
          simp only [this, show (((tx t).drop at_).take i).length ≤ 5 by omega]
        rw [h45]
        cases hnm : numL 4 (((tx t).drop at_).take i) with
        | none =>
          refine ev_else (by simp [resNat]) (stop (noOne ?_))
          rintro ⟨n, hn, _⟩
          rw [hnm] at hn; cases hn
        | some n =>
          have hun : ∀ n', numL 4 (((tx t).drop at_).take i) = some n' → n' = n := fun n' h => by rw [hnm] at h; exact (Option.some.inj h).symm
          obtain ⟨e1, e2⟩ := numL_some.1 hnm
          have hnb : n < 10000 := by
            have h3 := valL_small (decL_dig n) (by rw [← e1]; exact e2)
            rw [valL_dec] at h3
            exact h3
          have hil : (((tx t).drop at_).take i).length = i := by rw [List.length_take]; omega
          refine ev_if rfl (ev_bind0 (impl_in.val _ _ _) ?_)
          simp only [resNat]
          by_cases c3 : 1 ≤ (n : Int) ∧ (n : Int) ≤ 60
          · refine ev_if (inB_yes c3.1 c3.2) ?_
            have hi3 : i < 3 := by
              have := decL_length (n := n) (d := 1) (by omega)
              rw [← e1, hil] at this
              omega
            have hb1 : at_ + i < 4611686018427387904 := by omega
            have hb2 : at_ + i + 1 + n < 9223372036854775808 := by omega
            have e2 : at_ + i + 1 + n = at_ + (i + 1 + n) := by omega
            have e3 : at_ + i + 1 = at_ + (i + 1) := by omega
            simp only [w64_p1 _ hb1, w64_pn _ _ hb2, e2]
            simp only [e3]
            by_cases c4 : ((at_ + (i + 1 + n) : Nat) : Int) ≥ (t.size : Int)
            · refine ev_if c4 (stop (noOne ?_))
              rintro ⟨n', hn, _, _, _, q, _⟩
              rw [hun n' hn] at q
              omega
            · refine ev_else c4 (ev_if (by omega) (ev_if (by omega) ?_))
              rw [bt_tx]
              by_cases c5 : (tx t).getD (at_ + (i + 1 + n)) 0 = 59
              · refine ev_if (by rw [c5]; rfl) (ev_if (by omega) (ev_if (by omega) (ev_if (by omega) (ev_if (by omega) ?_))))
                have ho : oneL ((tx t).drop at_) = some ((((tx t).drop at_).drop (i + 1)).take n, i + 2 + n) := by
                  unfold oneL oneAt
                  rw [hcol, if_pos (by omega), hnm]
                  simp only []
                  rw [if_pos ⟨by omega, by omega, by omega, by rw [hgd]; exact c5⟩]
                have hx : t.extract (((at_ + (i + 1) : Nat) : Int)).toNat (((at_ + (i + 1 + n) : Nat) : Int)).toNat = ba ((((tx t).drop at_).drop (i + 1)).take n) := by
                  apply tx_inj
                  rw [Int.toNat_natCast, Int.toNat_natCast, tx_extract, tx_ba, List.drop_drop]
                  congr 1
                  omega
                have hb3 : at_ + (i + 1 + n) < 4611686018427387904 := by omega
                have e4 : at_ + (i + 1 + n) + 1 = at_ + (i + 2 + n) := by omega
                simp only [w64_p1 _ hb3, e4, hx]
                exact hgo _ _ ho
              · refine ev_else (fun h => c5 (UInt8.toNat_inj.1 (by exact_mod_cast h))) (stop (noOne ?_))
                rintro ⟨n', hn, _, _, _, _, q⟩
                rw [hun n' hn] at q
                exact c5 q
          · refine ev_else (by rw [inB_no c3]; simp) (stop (noOne ?_))
            rintro ⟨n', hn, q1, q2, _⟩
            rw [hun n' hn] at q1 q2
            omega
      · have hb : ((((tx t).getD (at_ + i) 0).toNat : Int) != 58) = true := by
          rw [bne_iff_ne]
          exact fun h => c2 (UInt8.toNat_inj.1 (by exact_mod_cast h))
        rw [hb]
        refine Ev.step (fun k => by rw [impl_ShelfRead.j3]) (ev_if rfl (stop ?_))
        have h3' : i = 3 := by
          rcases Nat.lt_or_ge i 3 with h | h
          · exact absurd (h58 (by omega) h) c2
          · omega
        unfold oneL
        rw [if_neg (by omega)]
  clear hgo stop
  have hlt : ∀ i, at_ + i < t.size → ((at_ + i : Nat) : Int) < (t.size : Int) := fun i h => by omega
  have hge : ∀ i, ¬ at_ + i < t.size → ¬ ((at_ + i : Nat) : Int) < (t.size : Int) := fun i h => by omega
  have hl3 : ∀ i, i < 3 → ((at_ + i : Nat) : Int) < ((at_ + 3 : Nat) : Int) := fun i h => by omega
  have hn3 : ∀ i, ¬ i < 3 → ¬ ((at_ + i : Nat) : Int) < ((at_ + 3 : Nat) : Int) := fun i h => by omega
  have hb : at_ < 4611686018427387904 := by omega
  have hcl : ∀ i, i ≤ col ((tx t).drop at_) → at_ + i < t.size → ¬ (tx t).getD (at_ + i) 0 = 58 → i + 1 ≤ col ((tx t).drop at_) := fun i hc h h58 => col_lt hc (by omega) (by rw [hgd]; exact h58)
  clear hl2 hgd
  induction d with
  | zero =>
    intro i hi h3 hc hle
    have hi3 : ¬ i < 3 := by omega
    refine Ev.step (fun k => by rw [impl_ShelfRead.l1]) ?_
    simp only [w64_p3 _ hb]
    by_cases h : at_ + i < t.size
    · exact ev_if (hlt i h) (ev_else (hn3 i hi3) (fin i h3 hc hle (fun _ h => absurd h hi3)))
    · exact ev_else (hge i h) (fin i h3 hc hle (fun h' _ => absurd h' h))
  | succ d ih =>
    intro i hi h3 hc hle
    have hi3 : i < 3 := by omega
    refine Ev.step (fun k => by rw [impl_ShelfRead.l1]) ?_
    simp only [w64_p3 _ hb]
    by_cases h : at_ + i < t.size
    · refine ev_if (hlt i h) (ev_if (hl3 i hi3) (ev_if (Int.natCast_nonneg _) ?_))
      rw [bt_tx]
      by_cases h58 : (tx t).getD (at_ + i) 0 = 58
      · exact ev_if (by rw [h58]; rfl) (fin i h3 hc hle (fun _ _ => h58))
      · refine ev_else (fun hx => h58 (UInt8.toNat_inj.1 (by exact_mod_cast hx))) ?_
        simp only [w64_p1 (at_ + i) (by omega), Nat.add_assoc]
        exact ih (i + 1) (by omega) (by omega) (hcl i hc h h58) (by omega)
    · exact ev_else (hge i h) (fin i h3 hc hle (fun h' _ => absurd h' h))
theorem impl_ShelfRead.l0_ev (t : ByteArray) (ht : t.size ≤ 1099511627776) (d : Nat) : ∀ i, t.size - i = d → i ≤ t.size → ∀ acc : List ByteArray, 4 * acc.length ≤ i →
    Ev (fun k => impl_ShelfRead.l0 k t acc (i : Nat)) (acc ++ (readL ((tx t).drop i)).1.map ba, ((i + (readL ((tx t).drop i)).2 : Nat) : Int)) := by
  have hl := tx_length t
  induction d using Nat.strongRecOn with
  | ind d ih =>
    intro i hi hi2 acc ha
    refine Ev.step (fun k => by rw [impl_ShelfRead.l0]) ?_
    by_cases h : (i : Int) < (t.size : Int)
    · refine ev_if h ?_
      have := impl_ShelfRead.ev_l1 t ht i (by omega) acc ha (fun r hr ho => by subst hr; exact ev_is (by rw [readL_none ho]; simp)) (fun r n ho => ?_) 3 0 rfl (by omega) (by omega) (by omega)
      · exact this
      · obtain ⟨k1, k2⟩ := oneL_len ho
        rw [List.length_drop] at k2
        refine ev_eq (ih (t.size - (i + n)) (by omega) (i + n) rfl (by omega) _ (by simp; omega)) ?_
        rw [readL_some ho, List.drop_drop]
        simp
        omega
    · refine ev_else h (ev_bind0 (impl_copied_string.val acc (by omega)) (ev_is ?_))
      rw [List.drop_eq_nil_of_le (by omega), readL_none (l := []) (by decide)]
      simp
theorem impl_ShelfRead.ev (t : ByteArray) (ht : t.size ≤ 1099511627776) : Ev (fun k => impl_ShelfRead.f k t) (resLog (readL (tx t))) := by
  refine ev_eq (impl_ShelfRead.l0_ev t ht t.size 0 (by omega) (by omega) [] (by simp)) ?_
  simp [resLog]

theorem impl_ShelfOk.ev (t : ByteArray) (f : Int) : Ev (fun k => impl_ShelfOk.f k t f) (okL t f) := by
  unfold impl_ShelfOk.f
  by_cases h : (t.size : Int) > 2400
  · refine ev_if h (Ev.step (fun k => by rw [impl_ShelfOk.j0]) (ev_if rfl (ev_is ?_)))
    unfold okL
    rw [decide_eq_false (by omega)]
    rfl
  · refine ev_else h (ev_bind0 (impl_in.val _ _ _) (Ev.step (fun k => by rw [impl_ShelfOk.j0]) ?_))
    by_cases h2 : 0 ≤ f ∧ f ≤ (t.size : Int)
    · obtain ⟨i, rfl⟩ := Int.eq_ofNat_of_zero_le h2.1
      have hi := inB_yes h2.1 h2.2
      rw [hi]
      refine ev_else (by simp) (Ev.bind (impl_ShelfRead.ev t (by omega)) (ev_if h2.1 (ev_if h2.2 (Ev.bind (impl_ShelfRead.ev _ ?_) ?_))))
      · rw [Int.toNat_natCast, ← tx_length, tx_extract0, List.length_take, tx_length]
        omega
      · rw [Int.toNat_natCast, tx_extract0]
        unfold okL
        rw [hi, decide_eq_true (p := t.size ≤ 2400) (by omega), Int.toNat_natCast]
        simp only [resLog, Bool.true_and]
        by_cases h3 : (readL (tx t)).2 = t.size
        · refine ev_if (by omega) (ev_is ?_)
          rw [decide_eq_true h3, Bool.true_and]
          rfl
        · refine ev_else (by omega) (ev_is ?_)
          rw [decide_eq_false h3, Bool.false_and]
    · refine ev_if (by rw [inB_no h2]; rfl) (ev_is ?_)
      unfold okL
      rw [inB_no h2, Bool.and_false, Bool.false_and]

theorem spec_ShelfFall.go (t : ByteArray) (f keep : Int) (h : okL t f = true) (x : Int) (hx : x = ((leftN t f keep : Nat) : Int)) (hle : leftN t f keep ≤ t.size) :
    Ev (fun k => if 0 ≤ x then (if x ≤ (t.size : Int) then ((spec_ShelfRead.f k (t.extract 0 (x : Int).toNat)).bind fun bt => (if 0 ≤ bt.2 then (if bt.2 ≤ (t.size : Int) then (some (t.extract 0 (bt.2 : Int).toNat, bt.2)) else (none)) else (none))) else (none)) else (none)) (fallL t f keep) := by
  subst hx
  obtain ⟨h1, _⟩ := okL_some h
  have hsz : (t.extract 0 (leftN t f keep)).size = leftN t f keep := by
    rw [← tx_length, tx_extract0, List.length_take, tx_length]; omega
  have hrl := readL_le ((tx t).take (leftN t f keep))
  rw [List.length_take, tx_length] at hrl
  refine ev_if (by omega) (ev_if (by omega) (Ev.bind (spec_ShelfRead.ev _ (by rw [Int.toNat_natCast]; omega)) ?_))
  rw [Int.toNat_natCast, tx_extract0]
  refine ev_if (by simp only [resLog]; omega) (ev_if (by simp only [resLog]; omega) (ev_is ?_))
  rw [fallL, if_pos h]
  simp only [resLog, Int.toNat_natCast, Prod.mk.injEq, and_true]
  apply tx_inj
  rw [tx_extract0, tx_ba]
theorem spec_ShelfFall.ev (t : ByteArray) (f keep : Int) (hk0 : -9223372036854775808 ≤ keep) (hk1 : keep ≤ 9223372036854775807) : Ev (fun k => spec_ShelfFall.f k t f keep) (fallL t f keep) := by
  unfold spec_ShelfFall.f
  refine Ev.bind (spec_ShelfOk.ev t f) ?_
  by_cases h : okL t f = true
  · refine ev_if h ?_
    obtain ⟨h1, h2, h3, _, _⟩ := okL_some h
    have e0 : wrap64 ((t.size : Int) - f) = (t.size : Int) - f := wrap64_id (x := (t.size : Int) - f) (by omega) (by omega)
    have hle : leftN t f keep ≤ t.size := by
      unfold leftN
      split
      · omega
      · split <;> omega
    simp only [e0]
    by_cases c1 : keep > (t.size : Int) - f
    · refine ev_if c1 ?_
      have hL : ((leftN t f keep : Nat) : Int) = (t.size : Int) := by unfold leftN; rw [if_pos c1]; omega
      by_cases c2 : (t.size : Int) - f > 0
      · have e3 : f + ((t.size : Int) - f) = ((leftN t f keep : Nat) : Int) := by omega
        have e4 : wrap64 ((leftN t f keep : Nat) : Int) = ((leftN t f keep : Nat) : Int) := w64_nat _ (by omega)
        refine ev_if c2 ?_
        simp only [e3, e4]
        exact spec_ShelfFall.go t f keep h _ rfl hle
      · exact ev_else c2 (spec_ShelfFall.go t f keep h f (by omega) hle)
    · refine ev_else c1 ?_
      by_cases c2 : keep > 0
      · have hL : ((leftN t f keep : Nat) : Int) = f + keep := by unfold leftN; rw [if_neg c1, if_pos c2]; omega
        have e4 : wrap64 (f + keep) = ((leftN t f keep : Nat) : Int) := (wrap64_id (x := f + keep) (by omega) (by omega)).trans hL.symm
        refine ev_if c2 ?_
        simp only [e4]
        exact spec_ShelfFall.go t f keep h _ rfl hle
      · have hL : ((leftN t f keep : Nat) : Int) = f := by unfold leftN; rw [if_neg c1, if_neg c2]; omega
        exact ev_else c2 (spec_ShelfFall.go t f keep h f hL.symm hle)
  · exact ev_else h (ev_is (by rw [fallL, if_neg h]))

theorem impl_ShelfFall.ev (t : ByteArray) (f keep : Int) (hk0 : -9223372036854775808 ≤ keep) (hk1 : keep ≤ 9223372036854775807) : Ev (fun k => impl_ShelfFall.f k t f keep) (fallL t f keep) := by
  unfold impl_ShelfFall.f
  refine Ev.bind (impl_ShelfOk.ev t f) ?_
  by_cases h : okL t f = true
  · refine ev_if h ?_
    obtain ⟨h1, h2, h3, _, _⟩ := okL_some h
    have e0 : wrap64 ((t.size : Int) - f) = (t.size : Int) - f := wrap64_id (x := (t.size : Int) - f) (by omega) (by omega)
    have e1 : f + mx 0 (mn keep ((t.size : Int) - f)) = ((leftN t f keep : Nat) : Int) := by
      unfold mx mn leftN
      split <;> split <;> (try split) <;> omega
    have hle : leftN t f keep ≤ t.size := by
      unfold leftN
      split
      · omega
      · split <;> omega
    have e2 : wrap64 ((leftN t f keep : Nat) : Int) = ((leftN t f keep : Nat) : Int) := w64_nat _ (by omega)
    simp only [e0, e1, e2, Int.toNat_natCast]
    have hsz : (t.extract 0 (leftN t f keep)).size = leftN t f keep := by
      rw [← tx_length, tx_extract0, List.length_take, tx_length]; omega
    have hrl := readL_le ((tx t).take (leftN t f keep))
    rw [List.length_take, tx_length] at hrl
    refine ev_if (by omega) (ev_if (by omega) (Ev.bind (impl_ShelfRead.ev _ (by omega)) ?_))
    rw [tx_extract0, hsz]
    refine ev_if (by simp only [resLog]; omega) (ev_if (by simp only [resLog]; omega) (ev_is ?_))
    rw [fallL, if_pos h]
    simp only [resLog, Int.toNat_natCast, Prod.mk.injEq, and_true]
    apply tx_inj
    rw [tx_extract0, tx_extract0, tx_ba, List.take_take, Nat.min_eq_left (by omega)]
  · exact ev_else h (ev_is (by rw [fallL, if_neg h]))

theorem spec_ShelfForce.ev (t : ByteArray) (f : Int) : Ev (fun k => spec_ShelfForce.f k t f) (forceL t f) := by
  unfold spec_ShelfForce.f
  refine Ev.bind (spec_ShelfOk.ev t f) ?_
  by_cases h : okL t f = true
  · exact ev_if h (ev_is (by rw [forceL, if_pos h]))
  · exact ev_else h (ev_is (by rw [forceL, if_neg h]))

/-- A number is drawn: from 0 to n - 1. -/
theorem spec_l6Rd_pick.ok {l : List Int} (hl : Byt l) (hn : l.length ≤ 2000) {p : Int} (hp0 : 0 ≤ p) (hp1 : p < 1000000000000) (n : Int) (hn1 : n ≤ 1000000000) :
    ∃ r, (∀ k, spec_l6Rd_pick.f (k + 1) l p n = some (r, p + 1)) ∧ 0 ≤ r ∧ (1 ≤ n → r < n) ∧ r ≤ 1000000000 := by
  have e1 : wrap64 (p + 1) = p + 1 := wrap64_id (by omega) (by omega)
  have e2 : wrap64 (p + 1 - 1) = p := by rw [wrap64_id (by omega) (by omega)]; omega
  by_cases hz : n < 1 ∨ l.length = 0
  · refine ⟨0, fun k => ?_, by omega, by omega, by omega⟩
    unfold spec_l6Rd_pick.f
    by_cases h1 : n < 1
    · rw [if_pos h1, e1]; simp only [spec_l6Rd_pick.j0, if_true]
    · have h0 : ((l.length : Int) == 0) = true := by simp; have : l.length = 0 := by omega
                                                     simpa using this
      rw [if_neg h1, e1, h0]; simp only [spec_l6Rd_pick.j0, if_true]
  · have h1 : ¬ n < 1 := fun h => hz (.inl h)
    have h0 : ((l.length : Int) == 0) = false := by
      rw [beq_eq_false_iff_ne]; omega
    have hlen : 0 < l.length := by omega
    by_cases hlt : p < (l.length : Int)
    · have hb := rd_byt hl p
      refine ⟨rd l p % n, fun k => ?_, Int.emod_nonneg _ (by omega), fun _ => Int.emod_lt_of_pos _ (by omega), by have := Int.emod_lt_of_pos (rd l p) (show 0 < n by omega); omega⟩
      unfold spec_l6Rd_pick.f
      rw [if_neg h1, e1, h0]
      simp only [spec_l6Rd_pick.j0]
      rw [if_neg (by simp), e2, if_pos hlt, if_pos hp0, if_neg (by omega), wrap64_id (by omega) (by omega), Int.tmod_eq_emod_of_nonneg (by omega)]
    · have f1 : 0 ≤ p % (l.length : Int) := Int.emod_nonneg _ (by omega)
      have f2 : p % (l.length : Int) < (l.length : Int) := Int.emod_lt_of_pos _ (by omega)
      have t1 : Int.tmod p (l.length : Int) = p % (l.length : Int) := Int.tmod_eq_emod_of_nonneg hp0
      have w1 : wrap64 (p * 7) = p * 7 := wrap64_id (by omega) (by omega)
      have w2 : wrap64 (p * 7 + 3) = p * 7 + 3 := wrap64_id (by omega) (by omega)
      have t2 : Int.tmod (p * 7 + 3) (l.length : Int) = (p * 7 + 3) % (l.length : Int) := Int.tmod_eq_emod_of_nonneg (by omega)
      have f3 : 0 ≤ (p * 7 + 3) % (l.length : Int) := Int.emod_nonneg _ (by omega)
      have f4 : (p * 7 + 3) % (l.length : Int) < (l.length : Int) := Int.emod_lt_of_pos _ (by omega)
      have b1 := rd_byt hl (p % (l.length : Int))
      have b2 := rd_byt hl ((p * 7 + 3) % (l.length : Int))
      have q0 : 0 ≤ p / (l.length : Int) := Int.ediv_nonneg hp0 (by omega)
      have q1 : p / (l.length : Int) ≤ p := Int.ediv_le_self _ hp0
      have t3 : Int.tdiv p (l.length : Int) = p / (l.length : Int) := Int.tdiv_eq_ediv_of_nonneg hp0
      generalize ha : rd l (p % (l.length : Int)) = a at b1
      generalize hb : rd l ((p * 7 + 3) % (l.length : Int)) = b at b2
      generalize hq : p / (l.length : Int) = q at q0 q1 t3
      have u1 : wrap64 a = a := wrap64_id (by omega) (by omega)
      have u2 : wrap64 b = b := wrap64_id (by omega) (by omega)
      have u3 : wrap64 (a * 131) = a * 131 := wrap64_id (by omega) (by omega)
      have u4 : wrap64 (b * 1117) = b * 1117 := wrap64_id (by omega) (by omega)
      have u5 : wrap64 (a * 131 + b * 1117) = a * 131 + b * 1117 := wrap64_id (by omega) (by omega)
      have u6 : wrap64 (p * 29) = p * 29 := wrap64_id (by omega) (by omega)
      have u7 : wrap64 (a * 131 + b * 1117 + p * 29) = a * 131 + b * 1117 + p * 29 := wrap64_id (by omega) (by omega)
      have u8 : wrap64 q = q := wrap64_id (by omega) (by omega)
      have u9 : wrap64 (q * 53) = q * 53 := wrap64_id (by omega) (by omega)
      have u10 : wrap64 (a * 131 + b * 1117 + p * 29 + q * 53) = a * 131 + b * 1117 + p * 29 + q * 53 := wrap64_id (by omega) (by omega)
      generalize hx : a * 131 + b * 1117 + p * 29 + q * 53 = x at u10
      have x0 : 0 ≤ x := by omega
      have x1 : x < 1000000000000000 := by omega
      have t4 : Int.tdiv x 64 = x / 64 := Int.tdiv_eq_ediv_of_nonneg x0
      have u11 : wrap64 (x / 64) = x / 64 := wrap64_id (by omega) (by omega)
      obtain ⟨y0, y1⟩ := xor_nonneg x (x / 64) x0 (by omega) (by omega) (by omega)
      generalize hy : Go.bits .xor .i64 x (x / 64) = y at y0 y1
      refine ⟨y % n, fun k => ?_, Int.emod_nonneg _ (by omega), fun _ => Int.emod_lt_of_pos _ (by omega), by have := Int.emod_lt_of_pos y (show 0 < n by omega); omega⟩
      unfold spec_l6Rd_pick.f
      rw [if_neg h1, e1, h0]
      simp only [spec_l6Rd_pick.j0]
      rw [if_neg (by simp), e2, if_neg hlt, if_neg (by omega), t1, if_pos f1, if_pos f2, w1, w2, t2, if_pos f3, if_pos f4, if_neg (by omega), ha, hb, t3, u1, u2, u3, u4, u5, u6, u7, u8, u9, hx, u10, t4, u11, hy, Int.tmod_eq_emod_of_nonneg y0]
theorem spec_l6Rd_pick.ev {l : List Int} (hl : Byt l) (hn : l.length ≤ 2000) {p : Int} (hp0 : 0 ≤ p) (hp1 : p < 1000000000000) (n : Int) (hn1 : n ≤ 1000000000) :
    ∃ r, Ev (fun k => spec_l6Rd_pick.f k l p n) (r, p + 1) ∧ 0 ≤ r ∧ (1 ≤ n → r < n) ∧ r ≤ 1000000000 := by
  obtain ⟨r, h, h1, h2, h3⟩ := spec_l6Rd_pick.ok hl hn hp0 hp1 n hn1
  exact ⟨r, Ev.of (spec_l6Rd_pick.mono l p n) (h 0), h1, h2, h3⟩
theorem spec_l6Rd_pick.tot {l : List Int} (hl : Byt l) (hn : l.length ≤ 2000) {p : Int} (hp0 : 0 ≤ p) (hp1 : p < 1000000000000) (n : Int) (hn1 : n ≤ 1000000000) : Tot (fun k => spec_l6Rd_pick.f k l p n) (Pk p n) := by
  obtain ⟨r, h, h1, h2, h3⟩ := spec_l6Rd_pick.ev hl hn hp0 hp1 n hn1
  exact ⟨_, h, rfl, h1, h2, h3⟩

theorem spec_l6Rd_of.tot {l : List Int} (hl : Byt l) (hn : l.length ≤ 2000) {p : Int} (hp0 : 0 ≤ p) (hp1 : p < 1000000000000) (ls : List ByteArray) (h1 : 1 ≤ ls.length) (h2 : ls.length ≤ 1000) : Tot (fun k => spec_l6Rd_of.f k l p ls) (fun r => r.1 ∈ ls ∧ r.2 = p + 1) := by
  unfold spec_l6Rd_of.f
  refine Tot.bind (spec_l6Rd_pick.tot hl hn hp0 hp1 _ (by omega)) fun a ha => ?_
  obtain ⟨a1, a2, a3, a4⟩ := ha
  have a3 := a3 (by omega)
  refine Tot.ok a2 (Tot.ok a3 (Tot.now ⟨?_, a1⟩))
  obtain ⟨i, hi⟩ := Int.eq_ofNat_of_zero_le a2
  rw [hi] at a3 ⊢
  rw [rdOf_nat _ _ i (by omega)]
  exact List.getElem_mem _

theorem xsize (t : ByteArray) (a b : Nat) : (t.extract a b).size ≤ t.size := by
  rw [← tx_length, tx_extract, List.length_take, List.length_drop, tx_length]; omega
theorem spec_l72Bend.tot {l : List Int} (hl : Byt l) (hn : l.length ≤ 2000) {p : Int} (hp0 : 0 ≤ p) (hp1 : p < 800000000000) (t : ByteArray) (ht : t.size ≤ 100000) : Tot (fun k => spec_l72Bend.f k l p t) (fun r => r.1.size ≤ 2 * t.size + 1 ∧ p ≤ r.2 ∧ r.2 ≤ p + 10) := by
  unfold spec_l72Bend.f
  refine Tot.ite (fun h => Tot.step (fun k => by rw [spec_l72Bend.j0]) (Tot.ok rfl (Tot.now ⟨by show t.size ≤ _; omega, by show p ≤ p; omega, by show p ≤ _; omega⟩))) fun h => ?_
  refine Tot.bind (spec_l6Rd_pick.tot hl hn hp0 (by omega) _ (by omega)) fun a ha => Tot.step (fun k => by rw [spec_l72Bend.j0]) ?_
  obtain ⟨a1, a2, a3, a4⟩ := ha
  refine Tot.ite (fun h => Tot.now ⟨by show t.size ≤ _; omega, by show p ≤ a.2; omega, by show a.2 ≤ _; omega⟩) fun h => ?_
  refine Tot.bind (spec_l6Rd_pick.tot hl hn (by omega) (by omega) _ (by omega)) fun b hb => Tot.bind (spec_l6Rd_pick.tot hl hn (by have := hb.1; omega) (by have := hb.1; omega) _ (by omega)) fun c hc => ?_
  obtain ⟨b1, b2, b3, b4⟩ := hb
  obtain ⟨c1, c2, c3, c4⟩ := hc
  have b3 := b3 (by omega)
  obtain ⟨i, hi⟩ := Int.eq_ofNat_of_zero_le b2
  have e : wrap64 ((i : Int) + 1) = ((i + 1 : Nat) : Int) := w64_p1 i (by omega)
  simp only [hi, e, Int.toNat_natCast]
  clear e
  have x1 := xsize t 0 i
  have x2 := xsize t (i + 1) t.size
  have x3 := xsize t i t.size
  have x4 : (t.extract 0 i).size = i := by rw [← tx_length, tx_extract0, List.length_take, tx_length]; omega
  have x5 : (t.extract i t.size).size = t.size - i := by rw [← tx_length, tx_extractEnd, List.length_drop, tx_length]
  refine Tot.ite (fun h => ?_) fun h => Tot.ite (fun h => ?_) fun h => Tot.ite (fun h => ?_) fun h => Tot.ite (fun h => ?_) fun h => ?_
  · refine Tot.ok (by omega) (Tot.ok (by omega) (Tot.ok (by omega) (Tot.ok (by omega) (Tot.ok (by omega) (Tot.now ⟨?_, ?_, ?_⟩)))))
    · simp only [ByteArray.size_append]; omega
    · show p ≤ c.2; omega
    · show c.2 ≤ _; omega
  · refine Tot.ok (by omega) (Tot.ok (by omega) (Tot.bind (spec_l6Rd_of.tot hl hn (by omega) (by omega) _ (by simp) (by simp)) fun d hd => ?_))
    have hds : d.1.size = 1 := by
      have := hd.1
      simp only [List.mem_cons, List.not_mem_nil, or_false] at this
      rcases this with h | h | h | h | h | h | h <;> rw [h] <;> rfl
    have hd2 := hd.2
    refine Tot.ok (by omega) (Tot.ok (by simp only [ByteArray.size_append]; omega) (Tot.now ⟨?_, ?_, ?_⟩))
    · simp only [ByteArray.size_append]; omega
    · show p ≤ d.2; omega
    · show d.2 ≤ _; omega
  · refine Tot.ok (by omega) (Tot.ok (by omega) (Tot.bind (spec_l6Rd_of.tot hl hn (by omega) (by omega) _ (by simp) (by simp)) fun d hd => ?_))
    have hds : d.1.size = 1 := by
      have := hd.1
      simp only [List.mem_cons, List.not_mem_nil, or_false] at this
      rcases this with h | h | h | h | h <;> rw [h] <;> rfl
    have hd2 := hd.2
    refine Tot.ok (by omega) (Tot.ok (by omega) (Tot.ok (by omega) (Tot.ok (by simp only [ByteArray.size_append]; omega) (Tot.now ⟨?_, ?_, ?_⟩))))
    · simp only [ByteArray.size_append]; omega
    · show p ≤ d.2; omega
    · show d.2 ≤ _; omega
  · refine Tot.ok (by omega) (Tot.now ⟨?_, ?_, ?_⟩)
    · simp only [ByteArray.size_append]; omega
    · show p ≤ c.2; omega
    · show c.2 ≤ _; omega
  · refine Tot.ok (by omega) (Tot.ok (by omega) (Tot.now ⟨?_, ?_, ?_⟩))
    · show (t.extract 0 i).size ≤ _; omega
    · show p ≤ c.2; omega
    · show c.2 ≤ _; omega

theorem spec_l11Rec.ev (t : ByteArray) (ht : t.size ≤ 1099511627776) : Ev (fun k => spec_l11Rec.f k t) (ba (recL (tx t))) := by
  unfold spec_l11Rec.f
  have hs : (⟨#[58]⟩ : ByteArray).size = 1 := rfl
  have hd := decL_length (n := t.size) (d := 18) (by omega)
  have hb := ba_size (decL t.size)
  refine Ev.bind (spec_l6Dec.ev t.size (by omega)) (ev_if (by omega) (ev_if (by simp only [ByteArray.size_append]; omega) (ev_if (by simp only [ByteArray.size_append]; omega) (ev_is ?_))))
  apply tx_inj
  rw [tx_append, tx_append, tx_append, tx_ba, tx_ba, recL, tx_length]
  rfl

theorem spec_l11RecOk.val (t : ByteArray) : spec_l11RecOk.f t = some (inB (t.size : Int) 1 60) := by
  unfold spec_l11RecOk.f
  rw [spec_l6In.val]
  rfl

theorem spec_ShelfAdd.tot (t : ByteArray) (f : Int) (rec : ByteArray) (ht : t.size ≤ 2400) (hr : rec.size ≤ 1000) : Tot (fun k => spec_ShelfAdd.f k t f rec) (fun r => r.1.size ≤ 2400) := by
  unfold spec_ShelfAdd.f
  refine Tot.bind (Tot.ev (spec_ShelfOk.ev t f) rfl) fun o _ => Tot.ite (fun _ => ?_) (fun _ => Tot.now (by show (0 : Nat) ≤ 2400; omega))
  refine Tot.bind0 (spec_l11RecOk.val rec) (Tot.ite (fun _ => ?_) (fun _ => Tot.now ht))
  have hd := decL_length (n := rec.size) (d := 18) (by omega)
  have hz : (ba (recL (tx rec))).size ≤ 2000 := by rw [ba_size, recL_length, tx_length]; omega
  refine Tot.bind (Tot.ev (spec_l11Rec.ev rec (by omega)) rfl) fun x hx => ?_
  subst hx
  have e : wrap64 ((t.size : Int) + ((ba (recL (tx rec))).size : Int)) = ((t.size + (ba (recL (tx rec))).size : Nat) : Int) := w64_pn _ _ (by omega)
  simp only [e]
  refine Tot.ite (fun _ => Tot.now ht) (fun h => Tot.bind (Tot.ev (spec_l11Rec.ev rec (by omega)) rfl) fun y hy => ?_)
  subst hy
  refine Tot.ok (by omega) (Tot.now ?_)
  simp only [ByteArray.size_append]
  omega

theorem spec_l6Many.l0_tot (n : Nat) : ∀ (x acc : ByteArray), n < 1000000 → 2 * (x.size * n) + acc.size ≤ 1099511627776 → Tot (fun k => spec_l6Many.l0 k x (n : Int) acc) (fun r => r.size = acc.size + x.size * n) := by
  induction n using Nat.strongRecOn with
  | ind n ih =>
    intro x acc hn h
    refine Tot.step (fun k => by rw [spec_l6Many.l0]) ?_
    by_cases h0 : n = 0
    · subst h0
      exact Tot.no (by omega) (Tot.now (by simp))
    · refine Tot.ok (by omega) ?_
      have e : wrap64 (Int.tdiv (n : Int) 2) = ((n / 2 : Nat) : Int) := by
        rw [Int.tdiv_eq_ediv_of_nonneg (by omega)]; exact (wrap64_id (x := (n : Int) / 2) (by omega) (by omega)).trans (by omega)
      have ht : Int.tmod (n : Int) 2 = (n : Int) % 2 := Int.tmod_eq_emod_of_nonneg (by omega)
      have hxx : (x ++ x).size = x.size + x.size := ByteArray.size_append
      have hax : (acc ++ x).size = acc.size + x.size := ByteArray.size_append
      simp only [e, ht]
      have hm : x.size ≤ x.size * n := Nat.le_mul_of_pos_right _ (by omega)
      refine Tot.ite (fun h1 => ?_) (fun h1 => ?_)
      · obtain ⟨m, rfl⟩ : ∃ m, n = 2 * m + 1 := ⟨n / 2, by omega⟩
        rw [show (2 * m + 1) / 2 = m by omega]
        have e1 : x.size * (2 * m + 1) = 2 * (x.size * m) + x.size := by rw [Nat.mul_add, Nat.mul_left_comm, Nat.mul_one]
        have e2 : (x ++ x).size * m = 2 * (x.size * m) := by rw [hxx, ← Nat.two_mul, Nat.mul_assoc]
        refine Tot.ok (by omega) (Tot.ok (by omega) ((ih m (by omega) (x ++ x) (acc ++ x) (by omega) (by omega)).imp fun r hr => ?_))
        omega
      · obtain ⟨m, rfl⟩ : ∃ m, n = 2 * m := ⟨n / 2, by omega⟩
        rw [show (2 * m) / 2 = m by omega]
        have e1 : x.size * (2 * m) = 2 * (x.size * m) := by rw [Nat.mul_left_comm]
        have e2 : (x ++ x).size * m = 2 * (x.size * m) := by rw [hxx, ← Nat.two_mul, Nat.mul_assoc]
        refine Tot.ok (by omega) ((ih m (by omega) (x ++ x) acc (by omega) (by omega)).imp fun r hr => ?_)
        omega
theorem spec_l6Many.tot (x : ByteArray) (n : Nat) (hn : n < 1000000) (hx : 2 * (x.size * n) ≤ 1099511627776) : Tot (fun k => spec_l6Many.f k x (n : Int)) (fun r => r.size = x.size * n) :=
  (spec_l6Many.l0_tot n x ⟨#[]⟩ hn (by show _ + 0 ≤ _; omega)).imp fun r hr => hr.trans (Nat.zero_add _)

theorem spec_l22Three.tot (a b c : Int) (ha : 0 ≤ a ∧ a < 1000) (hb : 0 ≤ b ∧ b < 1000) (hc : 0 ≤ c ∧ c < 1000) : Tot (fun k => spec_l22Three.f k a b c) (fun r => r.size ≤ 11) := by
  unfold spec_l22Three.f
  have hs : (⟨#[32]⟩ : ByteArray).size = 1 := rfl
  refine Tot.bind (spec_l6Dec.tot a ha.1 ha.2) fun x hx => Tot.ok (by omega) (Tot.bind (spec_l6Dec.tot b hb.1 hb.2) fun y hy => ?_)
  refine Tot.ok (by simp only [ByteArray.size_append]; omega) (Tot.ok (by simp only [ByteArray.size_append]; omega) (Tot.bind (spec_l6Dec.tot c hc.1 hc.2) fun z hz => ?_))
  refine Tot.ok (by simp only [ByteArray.size_append]; omega) (Tot.now ?_)
  simp only [ByteArray.size_append]
  omega

theorem spec_l3Keeper.val (a : Int) : spec_l3Keeper.f a = some (inB a 0 3) := by
  unfold spec_l3Keeper.f
  rw [spec_l6In.val]; rfl

theorem spec_NoteOk.loop (a b c d : Int) (t : ByteArray) (ht : t.size ≤ 140737488355328) : ∀ (m i : Nat), i ≤ t.size → t.size - i = m → Ev (fun k => spec_NoteOk.l0 k (i : Int) a b c d t) ((t.data.toList.drop i).all chOk) := by
  intro m
  induction m with
  | zero =>
    intro i hi hm
    rw [drop_end (by omega)]
    refine Ev.step (fun k => by rw [spec_NoteOk.l0]) ?_
    exact ev_else (by omega) (Ev.now _)
  | succ m ih =>
    intro i hi hm
    obtain ⟨ch, hd, hb⟩ := bt_drop (t := t) (i := i) (by omega)
    refine Ev.step (fun k => by rw [spec_NoteOk.l0]) ?_
    refine ev_if (by omega) (ev_if (by omega) ?_)
    rw [hb, hd, List.all_cons]
    by_cases h1 : (ch.toNat : Int) < 32
    · rw [show chOk ch = false from by simp [chOk]; omega, Bool.false_and]
      exact ev_if h1 (Ev.now _)
    refine ev_else h1 ?_
    by_cases h2 : (ch.toNat : Int) > 126
    · rw [show chOk ch = false from by simp [chOk]; omega, Bool.false_and]
      exact ev_if h2 (Ev.now _)
    refine ev_else h2 ?_
    rw [show chOk ch = true from by simp [chOk]; omega, Bool.true_and, wrap64_id (by omega) (by omega)]
    exact ih (i + 1) (by omega) (by omega)
theorem spec_NoteOk.ev (a b c d : Int) (t : ByteArray) (ht : t.size ≤ 140737488355328) : Ev (fun k => spec_NoteOk.f k a b c d t) (ntOk a b c d t) := by
  have hj : ∀ z, Ev (fun k => spec_NoteOk.j0 k z a b c d t) (!z && t.data.toList.all chOk) := by
    intro z
    refine Ev.step (fun k => by rw [spec_NoteOk.j0]) ?_
    cases z with
    | true => exact ev_if rfl (Ev.now _)
    | false => exact ev_else (by simp) (spec_NoteOk.loop a b c d t ht t.size 0 (by omega) (by omega))
  have hno : ∀ r, r = false → Ev (fun k => spec_NoteOk.j0 k true a b c d t) r := by
    intro r hr
    subst hr
    exact hj true
  unfold spec_NoteOk.f
  refine ev_bind0 (spec_l3Keeper.val a) ?_
  by_cases h1 : inB a 0 3 = true
  · refine ev_if h1 (ev_bind0 (spec_l3Keeper.val c) ?_)
    by_cases h2 : inB c 0 3 = true
    · refine ev_if h2 (ev_bind0 (spec_l6In.val b 1 99) ?_)
      by_cases h3 : inB b 1 99 = true
      · refine ev_if h3 (ev_bind0 (spec_l6In.val d 1 999) ?_)
        by_cases h4 : inB d 1 999 = true
        · refine ev_if h4 ?_
          by_cases h5 : (t.size : Int) < 1
          · exact ev_if h5 (hno _ (by simp [ntOk, txOk, inB_no (x := (t.size : Int)) (a := 1) (b := 24) (by omega)]))
          · refine ev_else h5 ?_
            by_cases h6 : (t.size : Int) > 24
            · rw [decide_eq_true h6]
              exact hno _ (by simp [ntOk, txOk, inB_no (x := (t.size : Int)) (a := 1) (b := 24) (by omega)])
            · rw [decide_eq_false h6]
              have := hj false
              have e : ntOk a b c d t = (!false && t.data.toList.all chOk) := by
                simp [ntOk, txOk, h1, h2, h3, h4, inB_yes (x := (t.size : Int)) (a := 1) (b := 24) (by omega) (by omega)]
              rw [e]
              exact this
        · exact ev_else h4 (hno _ (by simp [ntOk, h4]))
      · exact ev_else h3 (hno _ (by simp [ntOk, h3]))
    · exact ev_else h2 (hno _ (by simp [ntOk, h2]))
  · exact ev_else h1 (hno _ (by simp [ntOk, h1]))

theorem spec_NoteWrite.tot (a b c d : Int) (t : ByteArray) (ht : t.size ≤ 1000) : Tot (fun k => spec_NoteWrite.f k a b c d t) (fun r => r.size ≤ 50) := by
  unfold spec_NoteWrite.f
  refine Tot.bind (Tot.ev (spec_NoteOk.ev a b c d t (by omega)) rfl) fun o ho => ?_
  refine Tot.ite (fun h => ?_) (fun h => Tot.now (by show (0 : Nat) ≤ 50; omega))
  have ho : ntOk a b c d t = true := by rw [h] at ho; exact ho.symm ▸ rfl
  simp only [ntOk, txOk, Bool.and_eq_true, inB_iff] at ho
  obtain ⟨⟨⟨⟨h1, h2⟩, h3⟩, h4⟩, h5, _⟩ := ho
  have hs : (⟨#[32]⟩ : ByteArray).size = 1 := rfl
  refine Tot.bind (spec_l6Dec.tot a (by omega) (by omega)) fun x hx => Tot.ok (by omega) (Tot.bind (spec_l6Dec.tot b (by omega) (by omega)) fun y hy => ?_)
  refine Tot.ok (by simp only [ByteArray.size_append]; omega) (Tot.ok (by simp only [ByteArray.size_append]; omega) (Tot.bind (spec_l6Dec.tot c (by omega) (by omega)) fun z hz => ?_))
  refine Tot.ok (by simp only [ByteArray.size_append]; omega) (Tot.ok (by simp only [ByteArray.size_append]; omega) (Tot.bind (spec_l6Dec.tot d (by omega) (by omega)) fun u hu => ?_))
  refine Tot.ok (by simp only [ByteArray.size_append]; omega) (Tot.ok (by simp only [ByteArray.size_append]; omega) (Tot.ok (by simp only [ByteArray.size_append]; omega) (Tot.now ?_)))
  simp only [ByteArray.size_append]
  omega

theorem spec_l72Text.l0_tot {l : List Int} (hl : Byt l) (hn : l.length ≤ 2000) (n : Nat) : ∀ (x : List Int) (p : Int), n ≤ 100 → x.length + n ≤ 100 → 0 ≤ p → p + n < 900000000000 →
    Tot (fun k => spec_l72Text.l0 k x (n : Int) l p) (fun r => r.1.size = x.length + n ∧ r.2 = p + n) := by
  induction n with
  | zero =>
    intro x p h1 h2 h3 h4
    exact Tot.step (fun k => by rw [spec_l72Text.l0]) (Tot.no (by omega) (Tot.now ⟨by rw [strOfNums_size]; rfl, by omega⟩))
  | succ n ih =>
    intro x p h1 h2 h3 h4
    refine Tot.step (fun k => by rw [spec_l72Text.l0]) (Tot.ok (by omega) (Tot.bind (spec_l6Rd_pick.tot hl hn h3 (by omega) _ (by omega)) fun a ha => Tot.ok (by omega) ?_))
    obtain ⟨a1, a2, a3, a4⟩ := ha
    have e : wrap64 (((n + 1 : Nat) : Int) - 1) = (n : Int) := (wrap64_id (x := ((n + 1 : Nat) : Int) - 1) (by omega) (by omega)).trans (by omega)
    simp only [e, a1]
    refine (ih (x ++ [a.1 % 256]) (p + 1) (by omega) (by simp; omega) (by omega) (by omega)).imp fun r hr => ?_
    rw [List.length_append, List.length_singleton] at hr
    exact ⟨by omega, by omega⟩
theorem spec_l72Text.tot {l : List Int} (hl : Byt l) (hn : l.length ≤ 2000) {p : Int} (hp0 : 0 ≤ p) (hp1 : p < 800000000000) : Tot (fun k => spec_l72Text.f k l p) (fun r => r.1.size ≤ 25 ∧ p ≤ r.2 ∧ r.2 ≤ p + 30) := by
  unfold spec_l72Text.f
  refine Tot.bind (spec_l6Rd_pick.tot hl hn hp0 (by omega) _ (by omega)) fun a ha => ?_
  obtain ⟨a1, a2, a3, a4⟩ := ha
  refine Tot.ite (fun h => ?_) fun h => Tot.ite (fun h2 => ?_) fun h2 => ?_
  · refine Tot.bind (spec_l6Many.tot _ 24 (by omega) (by show 2 * (1 * 24) ≤ _; omega)) fun b hb => Tot.bind (spec_l6Many.tot _ 25 (by omega) (by show 2 * (1 * 25) ≤ _; omega)) fun c hc => ?_
    have hb : b.size = 24 := hb
    have hc : c.size = 25 := hc
    refine Tot.bind (spec_l6Rd_of.tot hl hn (by omega) (by omega) _ (by simp) (by simp)) fun d hd => Tot.now ?_
    refine ⟨?_, by omega, by omega⟩
    have := hd.1
    simp only [List.mem_cons, List.not_mem_nil, or_false] at this
    rcases this with h | h | h | h | h <;> rw [h] <;> first | omega | (show (_ : Nat) ≤ 25; decide)
  · refine Tot.bind (spec_l6Rd_pick.tot hl hn (by omega) (by omega) _ (by omega)) fun b hb => ?_
    obtain ⟨b1, b2, b3, b4⟩ := hb
    have b3 := b3 (by omega)
    obtain ⟨i, hi⟩ := Int.eq_ofNat_of_zero_le b2
    have e : wrap64 (1 + b.1) = ((1 + i : Nat) : Int) := (wrap64_id (x := 1 + b.1) (by omega) (by omega)).trans (by omega)
    simp only [e]
    refine (spec_l72Text.l0_tot hl hn (1 + i) [] _ (by omega) (by simp; omega) (by omega) (by omega)).imp fun r hr => ?_
    simp only [List.length_nil] at hr
    exact ⟨by omega, by omega, by omega⟩
  · refine Tot.bind (spec_l6Rd_of.tot hl hn (by omega) (by omega) _ (by simp) (by simp)) fun d hd => Tot.now ?_
    refine ⟨?_, by omega, by omega⟩
    have := hd.1
    simp only [List.mem_cons, List.not_mem_nil, or_false] at this
    rcases this with h | h | h | h | h | h | h | h <;> rw [h] <;> (show (_ : Nat) ≤ 25; decide)

theorem spec_l72Note.tot {l : List Int} (hl : Byt l) (hn : l.length ≤ 2000) {p : Int} (hp0 : 0 ≤ p) (hp1 : p < 700000000000) : Tot (fun k => spec_l72Note.f k l p) (fun r => r.2.2.2.2.1.size ≤ 25 ∧ p ≤ r.2.2.2.2.2 ∧ r.2.2.2.2.2 ≤ p + 50) := by
  unfold spec_l72Note.f
  refine Tot.bind (spec_l6Rd_pick.tot hl hn hp0 (by omega) _ (by omega)) fun a ha => ?_
  have ha := ha.1
  refine Tot.bind (spec_l6Rd_pick.tot hl hn (by omega) (by omega) _ (by omega)) fun b hb => ?_
  have hb := hb.1
  refine Tot.bind (spec_l6Rd_pick.tot hl hn (by omega) (by omega) _ (by omega)) fun c hc => ?_
  have hc := hc.1
  refine Tot.bind (spec_l6Rd_pick.tot hl hn (by omega) (by omega) _ (by omega)) fun d hd => ?_
  have hd := hd.1
  refine Tot.bind (spec_l6Rd_of.tot hl hn (by omega) (by omega) _ (by simp) (by simp)) fun e he => ?_
  obtain ⟨he1, he2⟩ := he
  have hes : e.1.size ≤ 25 := by
    simp only [List.mem_cons, List.not_mem_nil, or_false] at he1
    rcases he1 with h | h | h | h | h <;> rw [h] <;> (show (_ : Nat) ≤ 25; decide)
  clear he1
  refine Tot.bind (spec_l6Rd_pick.tot hl hn (by omega) (by omega) _ (by omega)) fun g hg => ?_
  have hg := hg.1
  refine Tot.ite (fun _ => ?_) fun _ => Tot.ite (fun _ => ?_) fun _ => Tot.ite (fun _ => ?_) fun _ => Tot.ite (fun _ => ?_) fun _ => Tot.ite (fun _ => ?_) fun _ => ?_
  · refine Tot.bind0 rfl (Tot.bind (spec_l6Rd_pick.tot hl hn (by omega) (by omega) _ (by omega)) fun x hx => ?_)
    obtain ⟨x1, x2, x3, x4⟩ := hx
    exact Tot.ok x2 (Tot.ok (x3 (by omega)) (Tot.now ⟨hes, by show p ≤ x.2; omega, by show x.2 ≤ _; omega⟩))
  · refine Tot.bind0 rfl (Tot.bind (spec_l6Rd_pick.tot hl hn (by omega) (by omega) _ (by omega)) fun x hx => ?_)
    obtain ⟨x1, x2, x3, x4⟩ := hx
    exact Tot.ok x2 (Tot.ok (x3 (by omega)) (Tot.now ⟨hes, by show p ≤ x.2; omega, by show x.2 ≤ _; omega⟩))
  · refine Tot.bind0 rfl (Tot.bind (spec_l6Rd_pick.tot hl hn (by omega) (by omega) _ (by omega)) fun x hx => ?_)
    obtain ⟨x1, x2, x3, x4⟩ := hx
    exact Tot.ok x2 (Tot.ok (x3 (by omega)) (Tot.now ⟨hes, by show p ≤ x.2; omega, by show x.2 ≤ _; omega⟩))
  · refine Tot.bind (spec_l72Text.tot hl hn (by omega) (by omega)) fun x hx => ?_
    obtain ⟨x1, x2, x3⟩ := hx
    exact Tot.now ⟨x1, by show p ≤ x.2; omega, by show x.2 ≤ _; omega⟩
  · refine Tot.bind0 rfl (Tot.bind (spec_l6Rd_pick.tot hl hn (by omega) (by omega) _ (by omega)) fun x hx => ?_)
    obtain ⟨x1, x2, x3, x4⟩ := hx
    exact Tot.ok x2 (Tot.ok (x3 (by omega)) (Tot.now ⟨hes, by show p ≤ x.2; omega, by show x.2 ≤ _; omega⟩))
  · exact Tot.now ⟨hes, by show p ≤ g.2; omega, by show g.2 ≤ _; omega⟩

theorem spec_l72Rec.tot {l : List Int} (hl : Byt l) (hn : l.length ≤ 2000) {p : Int} (hp0 : 0 ≤ p) (hp1 : p < 600000000000) : Tot (fun k => spec_l72Rec.f k l p) (fun r => r.1.size ≤ 100 ∧ p ≤ r.2 ∧ r.2 ≤ p + 70) := by
  unfold spec_l72Rec.f
  have s5 : (⟨#[116, 105, 109, 101, 32]⟩ : ByteArray).size = 5 := rfl
  have s4 : (⟨#[108, 101, 116, 32]⟩ : ByteArray).size = 4 := rfl
  have s4' : (⟨#[101, 97, 116, 32]⟩ : ByteArray).size = 4 := rfl
  have w : ∀ x : Int, 0 ≤ x → x ≤ 100 → wrap64 (1 + x) = 1 + x := fun x h0 h1 => wrap64_id (x := 1 + x) (by omega) (by omega)
  refine Tot.bind (spec_l6Rd_pick.tot hl hn hp0 (by omega) _ (by omega)) fun a ha => ?_
  have ha := ha.1
  refine Tot.ite (fun _ => ?_) fun _ => Tot.ite (fun _ => ?_) fun _ => Tot.ite (fun _ => ?_) fun _ => Tot.ite (fun _ => ?_) fun _ => ?_
  · refine Tot.bind (spec_l6Rd_pick.tot hl hn (by omega) (by omega) _ (by omega)) fun x hx => ?_
    obtain ⟨x1, x2, x3, x4⟩ := hx
    have x3 := x3 (by omega)
    refine Tot.bind (spec_l6Dec.tot x.1 x2 (by omega)) fun y hy => Tot.ok (by omega) (Tot.now ⟨?_, by show p ≤ x.2; omega, by show x.2 ≤ _; omega⟩)
    simp only [ByteArray.size_append]; omega
  · refine Tot.bind (spec_l6Rd_pick.tot hl hn (by omega) (by omega) _ (by omega)) fun x hx => ?_
    obtain ⟨x1, x2, x3, x4⟩ := hx
    have x3 := x3 (by omega)
    refine Tot.bind (spec_l6Rd_pick.tot hl hn (by omega) (by omega) _ (by omega)) fun y hy => ?_
    obtain ⟨y1, y2, y3, y4⟩ := hy
    have y3 := y3 (by omega)
    refine Tot.bind (spec_l6Rd_pick.tot hl hn (by omega) (by omega) _ (by omega)) fun z hz => ?_
    obtain ⟨z1, z2, z3, z4⟩ := hz
    have z3 := z3 (by omega)
    simp only [w y.1 y2 (by omega), w z.1 z2 (by omega)]
    refine Tot.bind (spec_l22Three.tot x.1 (1 + y.1) (1 + z.1) ⟨by omega, by omega⟩ ⟨by omega, by omega⟩ ⟨by omega, by omega⟩) fun u hu => Tot.ok (by omega) (Tot.now ⟨?_, by show p ≤ z.2; omega, by show z.2 ≤ _; omega⟩)
    simp only [ByteArray.size_append]; omega
  · refine Tot.bind (spec_l6Rd_pick.tot hl hn (by omega) (by omega) _ (by omega)) fun x hx => ?_
    obtain ⟨x1, x2, x3, x4⟩ := hx
    have x3 := x3 (by omega)
    refine Tot.bind (spec_l6Rd_pick.tot hl hn (by omega) (by omega) _ (by omega)) fun y hy => ?_
    obtain ⟨y1, y2, y3, y4⟩ := hy
    have y3 := y3 (by omega)
    refine Tot.bind (spec_l6Rd_pick.tot hl hn (by omega) (by omega) _ (by omega)) fun z hz => ?_
    obtain ⟨z1, z2, z3, z4⟩ := hz
    have z3 := z3 (by omega)
    simp only [w y.1 y2 (by omega), w z.1 z2 (by omega)]
    refine Tot.bind (spec_l22Three.tot x.1 (1 + y.1) (1 + z.1) ⟨by omega, by omega⟩ ⟨by omega, by omega⟩ ⟨by omega, by omega⟩) fun u hu => Tot.ok (by omega) (Tot.now ⟨?_, by show p ≤ z.2; omega, by show z.2 ≤ _; omega⟩)
    simp only [ByteArray.size_append]; omega
  · refine Tot.bind (spec_l6Many.tot _ 60 (by omega) (by show 2 * (1 * 60) ≤ _; omega)) fun b hb => Tot.bind (spec_l6Many.tot _ 61 (by omega) (by show 2 * (1 * 61) ≤ _; omega)) fun c hc => ?_
    have hb : b.size = 60 := hb
    have hc : c.size = 61 := hc
    refine Tot.bind (spec_l6Rd_of.tot hl hn (by omega) (by omega) _ (by simp) (by simp)) fun d hd => Tot.now ?_
    obtain ⟨d1, d2⟩ := hd
    refine ⟨?_, by show p ≤ d.2; omega, by show d.2 ≤ _; omega⟩
    simp only [List.mem_cons, List.not_mem_nil, or_false] at d1
    rcases d1 with h | h | h | h | h | h | h | h | h | h | h | h | h | h <;> rw [h] <;> first | omega | (show (_ : Nat) ≤ 100; decide)
  · refine Tot.bind (spec_l6Rd_of.tot hl hn (by omega) (by omega) _ (by simp) (by simp)) fun d hd => ?_
    obtain ⟨d1, d2⟩ := hd
    have hds : d.1.size ≤ 10 := by
      simp only [List.mem_cons, List.not_mem_nil, or_false] at d1
      rcases d1 with h | h | h | h | h <;> rw [h] <;> (show (_ : Nat) ≤ 10; decide)
    clear d1
    refine Tot.bind (spec_l72Note.tot hl hn (by omega) (by omega)) fun x hx => ?_
    obtain ⟨x1, x2, x3⟩ := hx
    refine Tot.bind (spec_NoteWrite.tot _ _ _ _ _ (by omega)) fun y hy => Tot.ok (by omega) (Tot.now ⟨?_, by show p ≤ x.2.2.2.2.2; omega, by show x.2.2.2.2.2 ≤ _; omega⟩)
    simp only [ByteArray.size_append]; omega

theorem spec_l72Shelf.l1_tot {l : List Int} (hl : Byt l) (hn : l.length ≤ 2000) (m : Nat) : ∀ (i : Nat) (p : Int) (t : ByteArray) (f : Int), 40 - i = m → i ≤ 40 → 0 ≤ p → p + 10 * m < 600000000000 → t.size ≤ 2400 + 200 * i →
    Tot (fun k => spec_l72Shelf.l1 k (i : Int) l p t f) (fun r => r.1.size ≤ 10400 ∧ p ≤ r.2.2 ∧ r.2.2 ≤ p + 10 * m + 10) := by
  induction m with
  | zero =>
    intro i p t f h1 h2 h3 h4 h5
    refine Tot.step (fun k => by rw [spec_l72Shelf.l1]) (Tot.bind (spec_l6Rd_pick.tot hl hn h3 (by omega) _ (by omega)) fun a ha => ?_)
    obtain ⟨a1, a2, a3, a4⟩ := ha
    have a3 := a3 (by omega)
    have e : wrap64 (38 + a.1) = 38 + a.1 := wrap64_id (x := 38 + a.1) (by omega) (by omega)
    simp only [e]
    exact Tot.no (by omega) (Tot.now ⟨by show t.size ≤ _; omega, by show p ≤ a.2; omega, by show a.2 ≤ _; omega⟩)
  | succ m ih =>
    intro i p t f h1 h2 h3 h4 h5
    refine Tot.step (fun k => by rw [spec_l72Shelf.l1]) (Tot.bind (spec_l6Rd_pick.tot hl hn h3 (by omega) _ (by omega)) fun a ha => ?_)
    obtain ⟨a1, a2, a3, a4⟩ := ha
    have a3 := a3 (by omega)
    have e : wrap64 (38 + a.1) = 38 + a.1 := wrap64_id (x := 38 + a.1) (by omega) (by omega)
    simp only [e]
    clear e
    refine Tot.ite (fun h => ?_) (fun _ => Tot.now ⟨by show t.size ≤ _; omega, by show p ≤ a.2; omega, by show a.2 ≤ _; omega⟩)
    refine Tot.bind (spec_l6Rd_pick.tot hl hn (by omega) (by omega) _ (by omega)) fun b hb => ?_
    obtain ⟨b1, b2, b3, b4⟩ := hb
    have b3 := b3 (by omega)
    obtain ⟨j, hj⟩ := Int.eq_ofNat_of_zero_le b2
    have e : wrap64 (58 + b.1) = ((58 + j : Nat) : Int) := (wrap64_id (x := 58 + b.1) (by omega) (by omega)).trans (by omega)
    simp only [e]
    clear e
    refine Tot.bind (spec_l6Many.tot _ (58 + j) (by omega) (by show 2 * (1 * (58 + j)) ≤ _; omega)) fun c hc => ?_
    have hc : c.size = 1 * (58 + j) := hc
    refine Tot.bind (Tot.ev (spec_l11Rec.ev c (by omega)) rfl) fun d hd => ?_
    have hz : d.size ≤ 200 := by
      subst hd
      have := decL_length (n := c.size) (d := 18) (by omega)
      rw [ba_size, recL_length, tx_length]
      omega
    refine Tot.ok (by omega) ?_
    have e : wrap64 ((i : Int) + 1) = ((i + 1 : Nat) : Int) := w64_p1 i (by omega)
    simp only [e]
    clear e
    refine (ih (i + 1) b.2 (t ++ d) f (by omega) (by omega) (by omega) (by omega) (by simp only [ByteArray.size_append]; omega)).imp fun r hr => ?_
    exact ⟨hr.1, by omega, by omega⟩
theorem spec_l72Shelf.l0_tot {l : List Int} (hl : Byt l) (hn : l.length ≤ 2000) (m : Nat) : ∀ (p : Int) (t : ByteArray) (f : Int), m ≤ 100 → 0 ≤ p → p + 100 * m < 500000000000 → t.size ≤ 2400 →
    Tot (fun k => spec_l72Shelf.l0 k (m : Int) l p t f) (fun r => r.1.size ≤ 10400 ∧ p ≤ r.2.2 ∧ r.2.2 ≤ p + 100 * m + 1000) := by
  induction m with
  | zero =>
    intro p t f h1 h2 h3 h4
    refine Tot.step (fun k => by rw [spec_l72Shelf.l0]) (Tot.no (by omega) ?_)
    refine Tot.bind (spec_l6Rd_pick.tot hl hn h2 (by omega) _ (by omega)) fun a ha => ?_
    have ha := ha.1
    refine Tot.ite (fun _ => ?_) fun _ => Tot.ite (fun _ => ?_) fun _ => Tot.ite (fun _ => ?_) fun _ => ?_
    · refine Tot.bind (spec_l72Bend.tot hl hn (by omega) (by omega) t (by omega)) fun b hb => ?_
      obtain ⟨b1, b2, b3⟩ := hb
      exact Tot.now ⟨by show b.1.size ≤ _; omega, by show p ≤ b.2; omega, by show b.2 ≤ _; omega⟩
    · have e : wrap64 ((t.size : Int) + 1) = ((t.size + 1 : Nat) : Int) := w64_p1 _ (by omega)
      simp only [e]
      clear e
      refine Tot.bind (spec_l6Rd_pick.tot hl hn (by omega) (by omega) _ (by omega)) fun b hb => ?_
      have hb := hb.1
      refine Tot.bind0 rfl (Tot.bind (spec_l6Rd_pick.tot hl hn (by omega) (by omega) _ (by omega)) fun x hx => ?_)
      obtain ⟨x1, x2, x3, x4⟩ := hx
      exact Tot.ok x2 (Tot.ok (x3 (by omega)) (Tot.now ⟨by show t.size ≤ _; omega, by show p ≤ x.2; omega, by show x.2 ≤ _; omega⟩))
    · refine (spec_l72Shelf.l1_tot hl hn 40 0 a.2 t f rfl (by omega) (by omega) (by omega) (by omega)).imp fun r hr => ?_
      exact ⟨hr.1, by omega, by omega⟩
    · exact Tot.now ⟨by show t.size ≤ _; omega, by show p ≤ a.2; omega, by show a.2 ≤ _; omega⟩
  | succ m ih =>
    intro p t f h1 h2 h3 h4
    refine Tot.step (fun k => by rw [spec_l72Shelf.l0]) (Tot.ok (by omega) ?_)
    refine Tot.bind (spec_l72Rec.tot hl hn h2 (by omega)) fun a ha => ?_
    obtain ⟨a1, a2, a3⟩ := ha
    refine Tot.bind (spec_ShelfAdd.tot t f a.1 h4 (by omega)) fun b hb => ?_
    refine Tot.bind (spec_l6Rd_pick.tot hl hn (by omega) (by omega) _ (by omega)) fun c hc => ?_
    have hc := hc.1
    have e : wrap64 (((m + 1 : Nat) : Int) - 1) = (m : Int) := (wrap64_id (x := ((m + 1 : Nat) : Int) - 1) (by omega) (by omega)).trans (by omega)
    simp only [e]
    clear e
    refine Tot.ite (fun _ => ?_) fun _ => ?_
    · refine Tot.bind (Tot.ev (spec_ShelfForce.ev b.1 b.2.1) rfl) fun d hd => ?_
      have hd : d.1.size ≤ 2400 := by
        subst hd
        unfold forceL
        split
        · exact hb
        · show (0 : Nat) ≤ 2400; omega
      refine (ih c.2 d.1 d.2 (by omega) (by omega) (by omega) hd).imp fun r hr => ?_
      exact ⟨hr.1, by omega, by omega⟩
    · refine (ih c.2 b.1 b.2.1 (by omega) (by omega) (by omega) hb).imp fun r hr => ?_
      exact ⟨hr.1, by omega, by omega⟩
theorem spec_l72Shelf.tot {l : List Int} (hl : Byt l) (hn : l.length ≤ 2000) {p : Int} (hp0 : 0 ≤ p) (hp1 : p < 400000000000) : Tot (fun k => spec_l72Shelf.f k l p) (fun r => r.1.size ≤ 10400 ∧ p ≤ r.2.2 ∧ r.2.2 ≤ p + 3000) := by
  unfold spec_l72Shelf.f
  refine Tot.bind (spec_l6Rd_pick.tot hl hn hp0 (by omega) _ (by omega)) fun a ha => ?_
  obtain ⟨a1, a2, a3, a4⟩ := ha
  have a3 := a3 (by omega)
  obtain ⟨j, hj⟩ := Int.eq_ofNat_of_zero_le a2
  simp only [hj]
  refine (spec_l72Shelf.l0_tot hl hn j a.2 ⟨#[]⟩ 0 (by omega) (by omega) (by omega) (by show (0 : Nat) ≤ 2400; omega)).imp fun r hr => ?_
  exact ⟨hr.1, by omega, by omega⟩

theorem spec_l6Open.val {l : List Int} (h : Byt l) : ∃ l', spec_l6Open.f l = some (l', 0) ∧ Byt l' ∧ l'.length ≤ 2000 := by
  unfold spec_l6Open.f
  by_cases h1 : (l.length : Int) > 2000
  · exact ⟨l.take 2000, by rw [if_pos h1, if_pos (by omega)], byt_take h _, by rw [List.length_take]; omega⟩
  · exact ⟨l, by rw [if_neg h1], h, by omega⟩

theorem spec_DrawShelfFall.tot {l : List Int} (hl : Byt l) : Tot (fun k => spec_DrawShelfFall.f k l) (fun r => r.1.size ≤ 10400 ∧ -9223372036854775808 ≤ r.2.2 ∧ r.2.2 ≤ 9223372036854775807) := by
  unfold spec_DrawShelfFall.f
  obtain ⟨l', h1, h2, h3⟩ := spec_l6Open.val hl
  refine Tot.bind0 h1 (Tot.bind (spec_l72Shelf.tot h2 h3 (by omega) (by omega)) fun a ha => ?_)
  obtain ⟨a1, a2, a3⟩ := ha
  refine Tot.bind (spec_l6Rd_pick.tot h2 h3 (by omega) (by omega) _ (by omega)) fun b hb => ?_
  obtain ⟨b1, b2, b3, b4⟩ := hb
  refine Tot.bind0 rfl (Tot.bind (spec_l6Rd_pick.tot h2 h3 (by omega) (by omega) _ (by omega)) fun c hc => ?_)
  obtain ⟨c1, c2, c3, c4⟩ := hc
  have c3 := c3 (by omega)
  refine Tot.ok c2 (Tot.ok c3 (Tot.now ⟨a1, ?_⟩))
  show -9223372036854775808 ≤ rd [0, 1, b.1, -1, 9223372036854775807] c.1 ∧ rd [0, 1, b.1, -1, 9223372036854775807] c.1 ≤ 9223372036854775807
  have : c.1 = 0 ∨ c.1 = 1 ∨ c.1 = 2 ∨ c.1 = 3 ∨ c.1 = 4 := by omega
  rcases this with h | h | h | h | h <;> rw [h] <;> (first | (show _ ≤ (0 : Int) ∧ (0 : Int) ≤ _; omega) | (show _ ≤ (1 : Int) ∧ (1 : Int) ≤ _; omega) | (show _ ≤ b.1 ∧ b.1 ≤ _; omega) | (show _ ≤ (-1 : Int) ∧ (-1 : Int) ≤ _; omega) | (show _ ≤ (9223372036854775807 : Int) ∧ (9223372036854775807 : Int) ≤ _; omega))

theorem FnShelfFall : laws_FnShelfFall.Pure := by
  intro l0 h0 h1 h2
  refine Ev.rounds ?_
  unfold laws_FnShelfFall.f
  by_cases h : (l0.length : Int) > 1048576
  · exact ev_if h (Ev.now _)
  · obtain ⟨⟨t, f, keep⟩, ht, hts, hk0, hk1⟩ := spec_DrawShelfFall.tot (byt_of_wf h2)
    refine ev_else h (Ev.bind ht (Ev.bind (spec_ShelfFall.ev t f keep hk0 hk1) (Ev.bind (impl_ShelfFall.ev t f keep hk0 hk1) ?_)))
    refine ev_else (by rw [pair_same]; simp) (Ev.bind (spec_ShelfOk.ev t f) (Ev.step (fun k => by rw [laws_FnShelfFall.j0]) ?_))
    by_cases ho : okL t f = true
    · refine ev_else (by rw [ho]; simp) ?_
      obtain ⟨x, hx, x1, x2, x3, x4, x5⟩ := fallL_ok (keep := keep) ho
      simp only [hx]
      refine ev_if trivial (ev_if x1 (ev_if (by omega) (ev_if (by omega) (ev_if (congrArg ByteArray.toList x3) ?_))))
      refine Ev.bind (impl_ShelfOk.ev x _) (ev_if (okL_whole x4 x5) (Ev.bind (impl_ShelfFall.ev x _ keep hk0 hk1) (ev_is ?_)))
      rw [fallL_whole x4 x5]
      exact pair_eq _ _
    · refine ev_if (by simpa using ho) (ev_is ?_)
      exact pair_eq _ _
end FnShelfFall_
theorem FnShelfFall : laws_FnShelfFall.Pure := FnShelfFall_.FnShelfFall
end Go.Proofs.Ytdgigadocempdaa.Pure
