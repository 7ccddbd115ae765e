/- The pure statement of the law FnExactShelfFall: what the printed functions compute answers true, for every input. No condition beyond those that the statement itself names. -/
import Derived.Test.YtdgigadocempdaaPFnExactShelfFallx4
import Derived.Test.YtdgigadocempdaaCom
namespace Go.Proofs.Ytdgigadocempdaa.Pure
open Go.RowKit Go.Proofs.Ytdgigadocempdaa.PFnExactShelfFall Go.Proofs.YtdgigadocempdaaW.PrintWords Go.Proofs.YtdgigadocempdaaW.PrintLast Go.Proofs.Ytdgigadocempdaa.Com
set_option linter.unusedVariables false
set_option linter.unusedSimpArgs false
namespace FnExactShelfFall_
theorem laws_szShelf.val (t : ByteArray) (f : Int) (h : t.size ≤ 9223372036854775807) : ∃ r, laws_szShelf.f t f 1048576 = some r ∧ (¬ r < 0 → t.size ≤ 1048576) := by
  unfold laws_szShelf.f
  rw [wrap64_id (x := 1048576 - (t.size : Int)) (by omega) (by omega)]
  by_cases h1 : 1048576 - (t.size : Int) < 0
  · exact ⟨-1, by rw [if_pos h1], by omega⟩
  · exact ⟨_, by rw [if_neg h1], by omega⟩

theorem laws_toShelf.val (t : ByteArray) (f : Int) : laws_toShelf.f t f = some (t, f) := rfl

theorem laws_eqShelf.val (t : ByteArray) (f : Int) : laws_eqShelf.f t f t f = some true := by
  unfold laws_eqShelf.f
  rw [if_pos rfl, if_pos rfl]

theorem spec_l6Dec.ev (n : Nat) (hn : n < 9223372036854775808) : Ev (fun k => spec_l6Dec.f k (n : Int)) (ba (decL n)) := by
  induction n using Nat.strongRecOn with
  | ind n ih =>
    refine Ev.step (fun k => by rw [spec_l6Dec.f]) ?_
    refine ev_else (by omega) (ev_else (by omega) ?_)
    by_cases h : n < 10
    · refine ev_if (by omega) ?_
      refine ev_is ?_
      apply tx_inj
      have e : (wrap64 (48 + (n : Int)) % 256).toNat = 48 + n := by unfold wrap64; omega
      rw [tx_nums, tx_ba, decL_lt h, List.map_singleton, e]
      rfl
    · refine ev_else (by omega) ?_
      have e : wrap64 (Int.tdiv (n : Int) 10) = ((n / 10 : Nat) : Int) := by
        rw [Int.tdiv_eq_ediv_of_nonneg (by omega)]; unfold wrap64; omega
      have e2 : (wrap64 (48 + Int.tmod (n : Int) 10) % 256).toNat = 48 + n % 10 := by
        rw [Int.tmod_eq_emod_of_nonneg (by omega)]; unfold wrap64; omega
      rw [e]
      refine Ev.bind (ih (n / 10) (by omega) (by omega)) (ev_bind0 rfl (ev_if ?_ (ev_is ?_)))
      · rw [ba_size, strOfNums_size]
        have := decL_length (n := n / 10) (d := 18) (by omega)
        simp only [List.length_singleton]
        omega
      · apply tx_inj
        rw [tx_append, tx_ba, tx_nums, tx_ba, decL_ge h, List.map_singleton, e2]
        rfl

theorem spec_l3Dec.l0_ev (t : ByteArray) (ht : t.size ≤ 4) (h0 : 1 ≤ t.size) (d : Nat) : ∀ i, t.size - i = d → i ≤ t.size → (∀ c ∈ (tx t).take i, isDig c = true) →
    Ev (fun k => spec_l3Dec.l0 k t (valL ((tx t).take i) : Nat) (i : Nat)) (resNum (numL 4 (tx t))) := by
  have hl := tx_length t
  induction d with
  | zero =>
    intro i hi hi2 hd
    have e : i = (tx t).length := by omega
    subst e
    rw [List.take_length] at hd
    rw [List.take_length]
    refine Ev.step (fun k => by rw [spec_l3Dec.l0]) (ev_else (by omega) ?_)
    have hv : valL (tx t) < 10000 := valL_small hd (by omega)
    refine Ev.bind (spec_l6Dec.ev _ (by omega)) ?_
    rw [toList_eq, toList_eq, tx_ba]
    by_cases h : decL (valL (tx t)) = tx t
    · refine ev_if h (ev_is ?_)
      unfold numL
      rw [if_pos ⟨by omega, by simpa using hd, h⟩]
      rfl
    · refine ev_else h (ev_is ?_)
      unfold numL
      rw [if_neg (fun h' => h h'.2.2)]
      rfl
  | succ d ih =>
    intro i hi hi2 hd
    have hlt : i < (tx t).length := by omega
    have hg : (tx t).getD i 0 = (tx t)[i] := by rw [List.getD_eq_getElem?_getD, List.getElem?_eq_getElem hlt]; rfl
    have hno : isDig (tx t)[i] = false → resNum (numL 4 (tx t)) = -1 := by
      intro hb
      unfold numL
      rw [if_neg]
      · rfl
      · rintro ⟨_, h2, _⟩
        rw [List.all_eq_true] at h2
        rw [h2 _ (List.getElem_mem hlt)] at hb
        cases hb
    refine Ev.step (fun k => by rw [spec_l3Dec.l0]) (ev_if (by omega) (ev_if (by omega) ?_))
    rw [bt_tx, hg]
    by_cases h1 : (((tx t)[i]).toNat : Int) < 48
    · refine ev_if h1 (ev_is (hno ?_).symm)
      simp [isDig]; omega
    · refine ev_else h1 ?_
      by_cases h2 : (((tx t)[i]).toNat : Int) > 57
      · refine ev_if h2 (ev_is (hno ?_).symm)
        simp [isDig]; omega
      · refine ev_else h2 ?_
        have ht1 : (tx t).take (i + 1) = (tx t).take i ++ [(tx t)[i]] := by rw [List.take_add_one, List.getElem?_eq_getElem hlt]; rfl
        have hv : valL ((tx t).take i) < 10000 := valL_small hd (by rw [List.length_take]; omega)
        have e1 : wrap64 (wrap64 (((valL ((tx t).take i) : Nat) : Int) * 10) + (((((tx t)[i]).toNat : Int) - 48) % 256)) = ((valL ((tx t).take (i + 1)) : Nat) : Int) := by
          rw [ht1, valL_snoc]
          generalize valL ((tx t).take i) = v at hv
          generalize (tx t)[i].toNat = c at h1 h2
          have u1 : ((c : Int) - 48) % 256 = ((c - 48 : Nat) : Int) := by omega
          have u3 : c - 48 < 10 := by omega
          rw [u1, wrap64_id (x := (v : Int) * 10) (by omega) (by omega)]
          generalize c - 48 = g at u3
          rw [wrap64_id (x := (v : Int) * 10 + (g : Int)) (by omega) (by omega)]
          omega
        have e2 : wrap64 ((i : Int) + 1) = ((i + 1 : Nat) : Int) := by unfold wrap64; omega
        rw [e1, e2]
        refine ih (i + 1) (by omega) (by omega) ?_
        rw [ht1]
        intro c hc
        rcases List.mem_append.1 hc with hc | hc
        · exact hd c hc
        · rw [List.mem_singleton] at hc
          subst hc
          simp [isDig]; omega
theorem spec_l3Dec.ev (t : ByteArray) : Ev (fun k => spec_l3Dec.f k t) (resNum (numL 4 (tx t))) := by
  unfold spec_l3Dec.f
  have hl := tx_length t
  by_cases h : (t.size : Int) < 1
  · refine ev_if h (Ev.step (fun k => by rw [spec_l3Dec.j0]) (ev_if rfl (ev_is ?_)))
    have : tx t = [] := List.eq_nil_of_length_eq_zero (by omega)
    rw [this, numL_nil]
    rfl
  · refine ev_else h (Ev.step (fun k => by rw [spec_l3Dec.j0]) ?_)
    by_cases h4 : t.size ≤ 4
    · refine ev_else (by simp; omega) ?_
      exact spec_l3Dec.l0_ev t h4 (by omega) t.size 0 (by omega) (by omega) (by simp)
    · refine ev_if (by simp; omega) (ev_is ?_)
      unfold numL
      rw [if_neg (by omega)]
      rfl

set_option maxRecDepth 100000 in
theorem spec_l11One.l0_ev (t : ByteArray) (ht : t.size < 4611686018427387904) (d : Nat) : ∀ i, 3 - i = d → i ≤ 3 → i ≤ col (tx t) → Ev (fun k => spec_l11One.l0 k t (i : Nat)) (resOne (oneL (tx t))) := by
  have hl := tx_length t
  have fin : ∀ i, ¬ (i < t.size ∧ i < 3) → i ≤ col (tx t) → Ev (fun k => spec_l11One.j1 k t (i : Nat) false) (resOne (oneL (tx t))) := by
    intro i h hc
    refine Ev.step (fun k => by rw [spec_l11One.j1]) (ev_else (by simp) (ev_is ?_))
    unfold oneL
    rw [if_neg (by omega)]
    rfl
  have go : ∀ i, i < t.size → i < 3 → i ≤ col (tx t) → (Ev (fun k => spec_l11One.l0 k t ((i + 1 : Nat) : Int)) (resOne (oneL (tx t))) ∨ (tx t).getD i 0 = 58) → Ev (fun k => spec_l11One.j1 k t (i : Nat) true) (resOne (oneL (tx t))) := by
    intro i h1 h2 hc hn
    refine Ev.step (fun k => by rw [spec_l11One.j1]) (ev_if rfl (ev_if (by omega) (ev_if (by omega) ?_)))
    rw [bt_tx]
    by_cases h58 : (tx t).getD i 0 = 58
    · refine ev_if (by rw [h58]; rfl) (ev_if (by omega) ?_)
      have hcol := col_eq hc (by omega) h58
      have ho : oneL (tx t) = oneAt (tx t) i := by unfold oneL; rw [hcol, if_pos (by omega)]
      rw [ho]
      refine Ev.bind (spec_l3Dec.ev _) ?_
      rw [Int.toNat_natCast, tx_extract0]
      unfold oneAt
      cases hm : numL 4 ((tx t).take i) with
      | none => exact ev_if (by simp [resNum]) (Ev.now _)
      | some n =>
        have hni : (i : Nat) ≤ 2 := by omega
        have hnb : n < 10000 := by
          obtain ⟨e1, e2⟩ := numL_some.1 hm
          have h3 := valL_small (decL_dig n) (by rw [← e1]; exact e2)
          rw [valL_dec] at h3
          exact h3
        simp only [resNum]
        have w1 : wrap64 (wrap64 ((i : Int) + 2) + (n : Int)) = ((i + 2 + n : Nat) : Int) := by unfold wrap64; omega
        have w2 : wrap64 (wrap64 ((i : Int) + 1) + (n : Int)) = ((i + 1 + n : Nat) : Int) := by unfold wrap64; omega
        have w3 : wrap64 ((i : Int) + 1) = ((i + 1 : Nat) : Int) := by unfold wrap64; omega
        simp only [w1, w2]
        simp only [w3]
        by_cases c1 : (n : Int) < 1
        · refine ev_if c1 (ev_is ?_)
          rw [if_neg (by omega)]; rfl
        · refine ev_else c1 ?_
          by_cases c2 : (n : Int) > 60
          · refine ev_if c2 (ev_is ?_)
            rw [if_neg (by omega)]; rfl
          · refine ev_else c2 ?_
            by_cases c3 : (t.size : Int) < ((i + 2 + n : Nat) : Int)
            · refine ev_if c3 (ev_is ?_)
              rw [if_neg (by omega)]; rfl
            · refine ev_else c3 (ev_if (by omega) (ev_if (by omega) ?_))
              rw [bt_tx]
              by_cases c4 : (tx t).getD (i + 1 + n) 0 = 59
              · refine ev_if (by rw [c4]; rfl) (ev_if (by omega) (ev_if (by omega) (ev_if (by omega) (ev_is ?_))))
                rw [if_pos ⟨by omega, by omega, by omega, c4⟩]
                simp only [resOne, Prod.mk.injEq, and_true]
                apply tx_inj
                rw [tx_extract, tx_ba]
                congr 1
                omega
              · refine ev_else (fun h => c4 (UInt8.toNat_inj.1 (by exact_mod_cast h))) (ev_is ?_)
                rw [if_neg (fun h => c4 h.2.2.2)]; rfl
    · refine ev_else (fun h => h58 (UInt8.toNat_inj.1 (by exact_mod_cast h))) ?_
      have w3 : wrap64 ((i : Int) + 1) = ((i + 1 : Nat) : Int) := by unfold wrap64; omega
      rw [w3]
      exact hn.resolve_right h58
  induction d with
  | zero =>
    intro i hi h3 hc
    refine Ev.step (fun k => by rw [spec_l11One.l0]) ?_
    by_cases h : (i : Int) < (t.size : Int)
    · refine ev_if h ?_
      rw [decide_eq_false (by omega)]
      exact fin i (by omega) hc
    · exact ev_else h (fin i (by omega) hc)
  | succ d ih =>
    intro i hi h3 hc
    refine Ev.step (fun k => by rw [spec_l11One.l0]) ?_
    by_cases h : (i : Int) < (t.size : Int)
    · refine ev_if h ?_
      rw [decide_eq_true (by omega)]
      refine go i (by omega) (by omega) hc ?_
      by_cases h58 : (tx t).getD i 0 = 58
      · exact .inr h58
      · exact .inl (ih (i + 1) (by omega) (by omega) (col_lt hc (by omega) h58))
    · exact ev_else h (fin i (by omega) hc)
theorem spec_l11One.ev (t : ByteArray) (ht : t.size < 4611686018427387904) : Ev (fun k => spec_l11One.f k t) (resOne (oneL (tx t))) := spec_l11One.l0_ev t ht 3 0 rfl (by omega) (by omega)

theorem spec_ShelfRead.l0_ev (t : ByteArray) (ht : t.size ≤ 1099511627776) (d : Nat) : ∀ i, t.size - i = d → i ≤ t.size → ∀ acc : List ByteArray, 4 * acc.length ≤ i →
    Ev (fun k => spec_ShelfRead.l0 k t acc (i : Nat)) (acc ++ (readL ((tx t).drop i)).1.map ba, ((i + (readL ((tx t).drop i)).2 : Nat) : Int)) := by
  have hl := tx_length t
  induction d using Nat.strongRecOn with
  | ind d ih =>
    intro i hi hi2 acc ha
    refine Ev.step (fun k => by rw [spec_ShelfRead.l0]) ?_
    by_cases h : (i : Int) < (t.size : Int)
    · refine ev_if h (ev_if (by omega) (ev_if (by omega) ?_))
      rw [Int.toNat_natCast]
      refine Ev.bind (spec_l11One.ev _ (by rw [← tx_length, tx_extractEnd, List.length_drop]; omega)) ?_
      rw [tx_extractEnd]
      cases ho : oneL ((tx t).drop i) with
      | none =>
        refine ev_if rfl (ev_is ?_)
        rw [readL_none ho]
        simp
      | some p =>
        obtain ⟨r, n⟩ := p
        obtain ⟨k1, k2⟩ := oneL_len ho
        rw [List.length_drop] at k2
        refine ev_else (by simp [resOne]; omega) (ev_if (by omega) ?_)
        have e1 : wrap64 ((i : Int) + (resOne (some (r, n))).2) = ((i + n : Nat) : Int) := by simp only [resOne]; unfold wrap64; omega
        rw [e1]
        refine ev_eq (ih (t.size - (i + n)) (by omega) (i + n) rfl (by omega) _ (by simp; omega)) ?_
        rw [readL_some ho, List.drop_drop]
        simp [resOne]
        omega
    · refine ev_else h (ev_is ?_)
      rw [List.drop_eq_nil_of_le (by omega), readL_none (l := []) (by decide)]
      simp
theorem spec_ShelfRead.ev (t : ByteArray) (ht : t.size ≤ 1099511627776) : Ev (fun k => spec_ShelfRead.f k t) (resLog (readL (tx t))) := by
  refine ev_eq (spec_ShelfRead.l0_ev t ht t.size 0 (by omega) (by omega) [] (by simp)) ?_
  simp [resLog]

theorem spec_l6In.val (a b c : Int) : spec_l6In.f a b c = some (inB a b c) := by
  unfold spec_l6In.f inB
  by_cases h : b ≤ a <;> simp [h]

theorem spec_ShelfOk.ev (t : ByteArray) (f : Int) : Ev (fun k => spec_ShelfOk.f k t f) (okL t f) := by
  unfold spec_ShelfOk.f
  by_cases h : (t.size : Int) > 2400
  · refine ev_if h (Ev.step (fun k => by rw [spec_ShelfOk.j0]) (ev_if rfl (ev_is ?_)))
    unfold okL
    rw [decide_eq_false (by omega)]
    rfl
  · refine ev_else h (ev_bind0 (spec_l6In.val _ _ _) (Ev.step (fun k => by rw [spec_ShelfOk.j0]) ?_))
    by_cases h2 : 0 ≤ f ∧ f ≤ (t.size : Int)
    · obtain ⟨i, rfl⟩ := Int.eq_ofNat_of_zero_le h2.1
      have hi := inB_yes h2.1 h2.2
      rw [hi]
      refine ev_else (by simp) (Ev.bind (spec_ShelfRead.ev t (by omega)) (ev_if h2.1 (ev_if h2.2 (Ev.bind (spec_ShelfRead.ev _ ?_) ?_))))
      · rw [Int.toNat_natCast, ← tx_length, tx_extract0, List.length_take, tx_length]
        omega
      · rw [Int.toNat_natCast, tx_extract0]
        unfold okL
        rw [hi, decide_eq_true (p := t.size ≤ 2400) (by omega), Int.toNat_natCast]
        simp only [resLog, Bool.true_and]
        by_cases h3 : (readL (tx t)).2 = t.size
        · refine ev_if (by omega) (ev_is ?_)
          rw [decide_eq_true h3, Bool.true_and]
          rfl
        · refine ev_else (by omega) (ev_is ?_)
          rw [decide_eq_false h3, Bool.false_and]
    · refine ev_if (by rw [inB_no h2]; rfl) (ev_is ?_)
      unfold okL
      rw [inB_no h2, Bool.and_false, Bool.false_and]

theorem spec_ShelfFall.go (t : ByteArray) (f keep : Int) (h : okL t f = true) (x : Int) (hx : x = ((leftN t f keep : Nat) : Int)) (hle : leftN t f keep ≤ t.size) :
    Ev (fun k => if 0 ≤ x then (if x ≤ (t.size : Int) then ((spec_ShelfRead.f k (t.extract 0 (x : Int).toNat)).bind fun bt => (if 0 ≤ bt.2 then (if bt.2 ≤ (t.size : Int) then (some (t.extract 0 (bt.2 : Int).toNat, bt.2)) else (none)) else (none))) else (none)) else (none)) (fallL t f keep) := by
  subst hx
  obtain ⟨h1, _⟩ := okL_some h
  have hsz : (t.extract 0 (leftN t f keep)).size = leftN t f keep := by
    rw [← tx_length, tx_extract0, List.length_take, tx_length]; omega
  have hrl := readL_le ((tx t).take (leftN t f keep))
  rw [List.length_take, tx_length] at hrl
  refine ev_if (by omega) (ev_if (by omega) (Ev.bind (spec_ShelfRead.ev _ (by rw [Int.toNat_natCast]; omega)) ?_))
  rw [Int.toNat_natCast, tx_extract0]
  refine ev_if (by simp only [resLog]; omega) (ev_if (by simp only [resLog]; omega) (ev_is ?_))
  rw [fallL, if_pos h]
  simp only [resLog, Int.toNat_natCast, Prod.mk.injEq, and_true]
  apply tx_inj
  rw [tx_extract0, tx_ba]
theorem spec_ShelfFall.ev (t : ByteArray) (f keep : Int) (hk0 : -9223372036854775808 ≤ keep) (hk1 : keep ≤ 9223372036854775807) : Ev (fun k => spec_ShelfFall.f k t f keep) (fallL t f keep) := by
  unfold spec_ShelfFall.f
  refine Ev.bind (spec_ShelfOk.ev t f) ?_
  by_cases h : okL t f = true
  · refine ev_if h ?_
    obtain ⟨h1, h2, h3, _, _⟩ := okL_some h
    have e0 : wrap64 ((t.size : Int) - f) = (t.size : Int) - f := wrap64_id (x := (t.size : Int) - f) (by omega) (by omega)
    have hle : leftN t f keep ≤ t.size := by
      unfold leftN
      split
      · omega
      · split <;> omega
    simp only [e0]
    by_cases c1 : keep > (t.size : Int) - f
    · refine ev_if c1 ?_
      have hL : ((leftN t f keep : Nat) : Int) = (t.size : Int) := by unfold leftN; rw [if_pos c1]; omega
      by_cases c2 : (t.size : Int) - f > 0
      · have e3 : f + ((t.size : Int) - f) = ((leftN t f keep : Nat) : Int) := by omega
        have e4 : wrap64 ((leftN t f keep : Nat) : Int) = ((leftN t f keep : Nat) : Int) := w64_nat _ (by omega)
        refine ev_if c2 ?_
        simp only [e3, e4]
        exact spec_ShelfFall.go t f keep h _ rfl hle
      · exact ev_else c2 (spec_ShelfFall.go t f keep h f (by omega) hle)
    · refine ev_else c1 ?_
      by_cases c2 : keep > 0
      · have hL : ((leftN t f keep : Nat) : Int) = f + keep := by unfold leftN; rw [if_neg c1, if_pos c2]; omega
        have e4 : wrap64 (f + keep) = ((leftN t f keep : Nat) : Int) := (wrap64_id (x := f + keep) (by omega) (by omega)).trans hL.symm
        refine ev_if c2 ?_
        simp only [e4]
        exact spec_ShelfFall.go t f keep h _ rfl hle
      · have hL : ((leftN t f keep : Nat) : Int) = f := by unfold leftN; rw [if_neg c1, if_neg c2]; omega
        exact ev_else c2 (spec_ShelfFall.go t f keep h f hL.symm hle)
  · exact ev_else h (ev_is (by rw [fallL, if_neg h]))

theorem impl_in.val (a b c : Int) : impl_in.f a b c = some (inB a b c) := by
  unfold impl_in.f inB
  by_cases h : b ≤ a <;> simp [h]

def resNat : Option Nat → Int × Bool
  | none => (0, false)
  | some n => (n, true)
theorem impl_natural.l0_ev (t : ByteArray) (ht : t.size ≤ 5) (hc : tx t ≠ [] ∧ ((tx t).length = 1 ∨ (tx t).headD 0 ≠ 48)) (d : Nat) : ∀ i, t.size - i = d → i ≤ t.size → (∀ c ∈ (tx t).take i, isDig c = true) →
    Ev (fun k => impl_natural.l0 k t (valL ((tx t).take i) : Nat) (i : Nat)) (resNat (numL 5 (tx t))) := by
  have hl := tx_length t
  induction d with
  | zero =>
    intro i hi hi2 hd
    have e : i = (tx t).length := by omega
    subst e
    rw [List.take_length] at hd
    rw [List.take_length]
    refine Ev.step (fun k => by rw [impl_natural.l0]) (ev_else (by omega) (ev_is ?_))
    rw [show numL 5 (tx t) = some (valL (tx t)) from ?_]
    · rfl
    · unfold numL
      rw [if_pos ⟨by omega, by simpa using hd, (canon_iff hd).2 hc⟩]
  | succ d ih =>
    intro i hi hi2 hd
    have hlt : i < (tx t).length := by omega
    have hg : (tx t).getD i 0 = (tx t)[i] := by rw [List.getD_eq_getElem?_getD, List.getElem?_eq_getElem hlt]; rfl
    have h8 : (tx t)[i].toNat < 256 := (tx t)[i].toNat_lt
    refine Ev.step (fun k => by rw [impl_natural.l0]) (ev_if (by omega) (ev_if (by omega) ?_))
    rw [bt_tx, hg, wrap64_id (x := (((tx t)[i]).toNat : Int)) (by omega) (by omega)]
    refine ev_bind0 (impl_in.val _ _ _) ?_
    by_cases h1 : 48 ≤ (((tx t)[i]).toNat : Int) ∧ (((tx t)[i]).toNat : Int) ≤ 57
    · refine ev_if (inB_yes h1.1 h1.2) ?_
      have ht1 : (tx t).take (i + 1) = (tx t).take i ++ [(tx t)[i]] := by rw [List.take_add_one, List.getElem?_eq_getElem hlt]; rfl
      have hv : valL ((tx t).take i) < 10000 := valL_small hd (by rw [List.length_take]; omega)
      have e1 : wrap64 (wrap64 (10 * ((valL ((tx t).take i) : Nat) : Int)) + (((((tx t)[i]).toNat : Int) - 48) % 256)) = ((valL ((tx t).take (i + 1)) : Nat) : Int) := by
        rw [ht1, valL_snoc]
        generalize valL ((tx t).take i) = v at hv
        generalize (tx t)[i].toNat = c at h1
        have u1 : ((c : Int) - 48) % 256 = ((c - 48 : Nat) : Int) := by omega
        have u3 : c - 48 < 10 := by omega
        rw [u1, wrap64_id (x := 10 * (v : Int)) (by omega) (by omega)]
        generalize c - 48 = g at u3
        rw [wrap64_id (x := 10 * (v : Int) + (g : Int)) (by omega) (by omega)]
        omega
      have e2 : wrap64 ((i : Int) + 1) = ((i + 1 : Nat) : Int) := by unfold wrap64; omega
      rw [e1, e2]
      refine ih (i + 1) (by omega) (by omega) ?_
      rw [ht1]
      intro c hc
      rcases List.mem_append.1 hc with hc | hc
      · exact hd c hc
      · rw [List.mem_singleton] at hc
        subst hc
        simp [isDig]; omega
    · refine ev_else (by rw [inB_no h1]; simp) (ev_is ?_)
      rw [show numL 5 (tx t) = none from ?_]
      · rfl
      · unfold numL
        rw [if_neg]
        rintro ⟨_, h2, _⟩
        rw [List.all_eq_true] at h2
        have := h2 _ (List.getElem_mem hlt)
        simp [isDig] at this
        omega
theorem impl_natural.ev (t : ByteArray) : Ev (fun k => impl_natural.f k t) (resNat (numL 5 (tx t))) := by
  unfold impl_natural.f
  have hl := tx_length t
  refine ev_bind0 (impl_in.val _ _ _) ?_
  by_cases h : 1 ≤ (t.size : Int) ∧ (t.size : Int) ≤ 5
  · refine ev_if (inB_yes h.1 h.2) (ev_if (by omega) ?_)
    have hne : tx t ≠ [] := fun e => by rw [e] at hl; simp at hl; omega
    have hh : (tx t).getD 0 0 = (tx t).headD 0 := by cases tx t <;> rfl
    have hb : bt t 0 = (((tx t).headD 0).toNat : Int) := by rw [← hh, ← bt_tx]; rfl
    rw [hb]
    by_cases h48 : (tx t).headD 0 = 48
    · refine ev_if (by rw [h48]; rfl) (Ev.step (fun k => by rw [impl_natural.j0]) ?_)
      by_cases h1 : t.size = 1
      · refine ev_else (by simp; omega) ?_
        exact impl_natural.l0_ev t (by omega) ⟨hne, .inl (by omega)⟩ t.size 0 (by omega) (by omega) (by simp)
      · refine ev_if (by simp; omega) (ev_is ?_)
        rw [show numL 5 (tx t) = none from ?_]
        · rfl
        · unfold numL
          rw [if_neg]
          rintro ⟨_, h2, h3⟩
          rw [List.all_eq_true] at h2
          rcases ((canon_iff h2).1 h3).2 with h4 | h4
          · omega
          · exact h4 h48
    · refine ev_else (fun hx => h48 (UInt8.toNat_inj.1 (by exact_mod_cast hx))) (Ev.step (fun k => by rw [impl_natural.j0]) (ev_else (by simp) ?_))
      exact impl_natural.l0_ev t (by omega) ⟨hne, .inr h48⟩ t.size 0 (by omega) (by omega) (by simp)
  · refine ev_else (by rw [inB_no h]; simp) (Ev.step (fun k => by rw [impl_natural.j0]) (ev_if rfl (ev_is ?_)))
    rw [show numL 5 (tx t) = none from ?_]
    · rfl
    · by_cases h0 : tx t = []
      · rw [h0]; exact numL_nil 5
      · have := List.length_pos_iff.2 h0
        unfold numL
        rw [if_neg (by omega)]

theorem impl_copied_string.val (l : List ByteArray) (h : l.length ≤ 17592186044416) : impl_copied_string.f l = some l := by
  unfold impl_copied_string.f; rw [if_pos h]

set_option maxRecDepth 100000 in
theorem impl_ShelfRead.ev_l1 (t : ByteArray) (ht : t.size ≤ 1099511627776) (at_ : Nat) (ha : at_ < t.size) (acc : List ByteArray) (hacc : 4 * acc.length ≤ at_)
    (hstop : ∀ r : List ByteArray × Int, r = (acc, (at_ : Int)) → oneL ((tx t).drop at_) = none → Ev (fun _ => some r) (acc ++ (readL ((tx t).drop at_)).1.map ba, ((at_ + (readL ((tx t).drop at_)).2 : Nat) : Int)))
    (hgo : ∀ r n, oneL ((tx t).drop at_) = some (r, n) → Ev (fun k => impl_ShelfRead.l0 k t (acc ++ [ba r]) ((at_ + n : Nat) : Int)) (acc ++ (readL ((tx t).drop at_)).1.map ba, ((at_ + (readL ((tx t).drop at_)).2 : Nat) : Int)))
    (d : Nat) : ∀ i, 3 - i = d → i ≤ 3 → i ≤ col ((tx t).drop at_) → at_ + i ≤ t.size →
    Ev (fun k => impl_ShelfRead.l1 k t acc (at_ : Int) ((at_ + i : Nat) : Int)) (acc ++ (readL ((tx t).drop at_)).1.map ba, ((at_ + (readL ((tx t).drop at_)).2 : Nat) : Int)) := by
  have hl := tx_length t
  have hl2 : ((tx t).drop at_).length = t.size - at_ := by rw [List.length_drop, hl]
  have hgd : ∀ j, ((tx t).drop at_).getD j 0 = (tx t).getD (at_ + j) 0 := fun j => by rw [List.getD_eq_getElem?_getD, List.getD_eq_getElem?_getD, List.getElem?_drop]
  have stop : oneL ((tx t).drop at_) = none → Ev (fun _ => (impl_copied_string.f acc).bind fun t121 => some (t121, (at_ : Int))) (acc ++ (readL ((tx t).drop at_)).1.map ba, ((at_ + (readL ((tx t).drop at_)).2 : Nat) : Int)) := fun h => ev_bind0 (impl_copied_string.val acc (by omega)) (hstop _ rfl h)
  obtain ⟨m, hm⟩ : ∃ m, t.size = at_ + m := ⟨t.size - at_, by omega⟩
  have hl2 : ((tx t).drop at_).length = m := by omega
  have hac2 : acc.length < 8796093022208 := by omega
  clear hstop hacc hl ha
  -- the loop's end: at the colon or behind what may be one
  have fin : ∀ i, i ≤ 3 → i ≤ col ((tx t).drop at_) → at_ + i ≤ t.size → (at_ + i < t.size → i < 3 → (tx t).getD (at_ + i) 0 = 58) →
      Ev (fun k => impl_ShelfRead.j2 k t acc (at_ : Int) ((at_ + i : Nat) : Int)) (acc ++ (readL ((tx t).drop at_)).1.map ba, ((at_ + (readL ((tx t).drop at_)).2 : Nat) : Int)) := by
    intro i h3 hc hle h58
    refine Ev.step (fun k => by rw [impl_ShelfRead.j2]) ?_
    by_cases c1 : ((at_ + i : Nat) : Int) ≥ (t.size : Int)
    · refine ev_if c1 (Ev.step (fun k => by rw [impl_ShelfRead.j3]) (ev_if rfl (stop ?_)))
      unfold oneL
      rw [if_neg (by omega)]
    · refine ev_else c1 (ev_if (by omega) (ev_if (by omega) ?_))
      rw [bt_tx]
      by_cases c2 : (tx t).getD (at_ + i) 0 = 58
      · rw [c2, show (((58 : UInt8).toNat : Int) != 58) = false from rfl]
        have hcol : col ((tx t).drop at_) = i := col_eq hc (by omega) (by rw [hgd]; exact c2)
        refine Ev.step (fun k => by rw [impl_ShelfRead.j3]) (ev_else (by simp) (ev_if (by omega) (ev_if (by omega) (ev_if (by omega) ?_))))
        refine Ev.bind (impl_natural.ev _) ?_
        rw [Int.toNat_natCast, Int.toNat_natCast, tx_extract, show at_ + i - at_ = i by omega]
        have noOne : (¬ ∃ n, numL 4 (((tx t).drop at_).take i) = some n ∧ 1 ≤ n ∧ n ≤ 60 ∧ i < 3 ∧ i + 2 + n ≤ m ∧ (tx t).getD (at_ + (i + 1 + n)) 0 = 59) → oneL ((tx t).drop at_) = none := by
          intro h
          unfold oneL oneAt
          rw [hcol]
          split
          · next hk =>
            split
            · rfl
            · next n hn =>
              rw [if_neg]
              rintro ⟨q1, q2, q3, q4⟩
              exact h ⟨n, hn, q1, q2, hk.1, by omega, by rw [← hgd]; exact q4⟩
          · rfl
        have h45 : numL 5 (((tx t).drop at_).take i) = numL 4 (((tx t).drop at_).take i) := by
          unfold numL
          have : (((tx t).drop at_).take i).length ≤ 4 := by rw [List.length_take]; omega
          simp only [this, show (((tx t).drop at_).take i).length ≤ 5 by omega]
        rw [h45]
        cases hnm : numL 4 (((tx t).drop at_).take i) with
        | none =>
          refine ev_else (by simp [resNat]) (stop (noOne ?_))
          rintro ⟨n, hn, _⟩
          rw [hnm] at hn; cases hn
        | some n =>
          have hun : ∀ n', numL 4 (((tx t).drop at_).take i) = some n' → n' = n := fun n' h => by rw [hnm] at h; exact (Option.some.inj h).symm
          obtain ⟨e1, e2⟩ := numL_some.1 hnm
          have hnb : n < 10000 := by
            have h3 := valL_small (decL_dig n) (by rw [← e1]; exact e2)
            rw [valL_dec] at h3
            exact h3
          have hil : (((tx t).drop at_).take i).length = i := by rw [List.length_take]; omega
          refine ev_if rfl (ev_bind0 (impl_in.val _ _ _) ?_)
          simp only [resNat]
          by_cases c3 : 1 ≤ (n : Int) ∧ (n : Int) ≤ 60
          · refine ev_if (inB_yes c3.1 c3.2) ?_
            have hi3 : i < 3 := by
              have := decL_length (n := n) (d := 1) (by omega)
              rw [← e1, hil] at this
              omega
            have hb1 : at_ + i < 4611686018427387904 := by omega
            have hb2 : at_ + i + 1 + n < 9223372036854775808 := by omega
            have e2 : at_ + i + 1 + n = at_ + (i + 1 + n) := by omega
            have e3 : at_ + i + 1 = at_ + (i + 1) := by omega
            simp only [w64_p1 _ hb1, w64_pn _ _ hb2, e2]
            simp only [e3]
            by_cases c4 : ((at_ + (i + 1 + n) : Nat) : Int) ≥ (t.size : Int)
            · refine ev_if c4 (stop (noOne ?_))
              rintro ⟨n', hn, _, _, _, q, _⟩
              rw [hun n' hn] at q
              omega
            · refine ev_else c4 (ev_if (by omega) (ev_if (by omega) ?_))
              rw [bt_tx]
              by_cases c5 : (tx t).getD (at_ + (i + 1 + n)) 0 = 59
              · refine ev_if (by rw [c5]; rfl) (ev_if (by omega) (ev_if (by omega) (ev_if (by omega) (ev_if (by omega) ?_))))
                have ho : oneL ((tx t).drop at_) = some ((((tx t).drop at_).drop (i + 1)).take n, i + 2 + n) := by
                  unfold oneL oneAt
                  rw [hcol, if_pos (by omega), hnm]
                  simp only []
                  rw [if_pos ⟨by omega, by omega, by omega, by rw [hgd]; exact c5⟩]
                have hx : t.extract (((at_ + (i + 1) : Nat) : Int)).toNat (((at_ + (i + 1 + n) : Nat) : Int)).toNat = ba ((((tx t).drop at_).drop (i + 1)).take n) := by
                  apply tx_inj
                  rw [Int.toNat_natCast, Int.toNat_natCast, tx_extract, tx_ba, List.drop_drop]
                  congr 1
                  omega
                have hb3 : at_ + (i + 1 + n) < 4611686018427387904 := by omega
                have e4 : at_ + (i + 1 + n) + 1 = at_ + (i + 2 + n) := by omega
                simp only [w64_p1 _ hb3, e4, hx]
                exact hgo _ _ ho
              · refine ev_else (fun h => c5 (UInt8.toNat_inj.1 (by exact_mod_cast h))) (stop (noOne ?_))
                rintro ⟨n', hn, _, _, _, _, q⟩
                rw [hun n' hn] at q
                exact c5 q
          · refine ev_else (by rw [inB_no c3]; simp) (stop (noOne ?_))
            rintro ⟨n', hn, q1, q2, _⟩
            rw [hun n' hn] at q1 q2
            omega
      · have hb : ((((tx t).getD (at_ + i) 0).toNat : Int) != 58) = true := by
          rw [bne_iff_ne]
          exact fun h => c2 (UInt8.toNat_inj.1 (by exact_mod_cast h))
        rw [hb]
        refine Ev.step (fun k => by rw [impl_ShelfRead.j3]) (ev_if rfl (stop ?_))
        have h3' : i = 3 := by
          rcases Nat.lt_or_ge i 3 with h | h
          · exact absurd (h58 (by omega) h) c2
          · omega
        unfold oneL
        rw [if_neg (by omega)]
  clear hgo stop
  have hlt : ∀ i, at_ + i < t.size → ((at_ + i : Nat) : Int) < (t.size : Int) := fun i h => by omega
  have hge : ∀ i, ¬ at_ + i < t.size → ¬ ((at_ + i : Nat) : Int) < (t.size : Int) := fun i h => by omega
  have hl3 : ∀ i, i < 3 → ((at_ + i : Nat) : Int) < ((at_ + 3 : Nat) : Int) := fun i h => by omega
  have hn3 : ∀ i, ¬ i < 3 → ¬ ((at_ + i : Nat) : Int) < ((at_ + 3 : Nat) : Int) := fun i h => by omega
  have hb : at_ < 4611686018427387904 := by omega
  have hcl : ∀ i, i ≤ col ((tx t).drop at_) → at_ + i < t.size → ¬ (tx t).getD (at_ + i) 0 = 58 → i + 1 ≤ col ((tx t).drop at_) := fun i hc h h58 => col_lt hc (by omega) (by rw [hgd]; exact h58)
  clear hl2 hgd
  induction d with
  | zero =>
    intro i hi h3 hc hle
    have hi3 : ¬ i < 3 := by omega
    refine Ev.step (fun k => by rw [impl_ShelfRead.l1]) ?_
    simp only [w64_p3 _ hb]
    by_cases h : at_ + i < t.size
    · exact ev_if (hlt i h) (ev_else (hn3 i hi3) (fin i h3 hc hle (fun _ h => absurd h hi3)))
    · exact ev_else (hge i h) (fin i h3 hc hle (fun h' _ => absurd h' h))
  | succ d ih =>
    intro i hi h3 hc hle
    have hi3 : i < 3 := by omega
    refine Ev.step (fun k => by rw [impl_ShelfRead.l1]) ?_
    simp only [w64_p3 _ hb]
    by_cases h : at_ + i < t.size
    · refine ev_if (hlt i h) (ev_if (hl3 i hi3) (ev_if (Int.natCast_nonneg _) ?_))
      rw [bt_tx]
      by_cases h58 : (tx t).getD (at_ + i) 0 = 58
      · exact ev_if (by rw [h58]; rfl) (fin i h3 hc hle (fun _ _ => h58))
      · refine ev_else (fun hx => h58 (UInt8.toNat_inj.1 (by exact_mod_cast hx))) ?_
        simp only [w64_p1 (at_ + i) (by omega), Nat.add_assoc]
        exact ih (i + 1) (by omega) (by omega) (hcl i hc h h58) (by omega)
    · exact ev_else (hge i h) (fin i h3 hc hle (fun h' _ => absurd h' h))
theorem impl_ShelfRead.l0_ev (t : ByteArray) (ht : t.size ≤ 1099511627776) (d : Nat) : ∀ i, t.size - i = d → i ≤ t.size → ∀ acc : List ByteArray, 4 * acc.length ≤ i →
    Ev (fun k => impl_ShelfRead.l0 k t acc (i : Nat)) (acc ++ (readL ((tx t).drop i)).1.map ba, ((i + (readL ((tx t).drop i)).2 : Nat) : Int)) := by
  have hl := tx_length t
  induction d using Nat.strongRecOn with
  | ind d ih =>
    intro i hi hi2 acc ha
    refine Ev.step (fun k => by rw [impl_ShelfRead.l0]) ?_
    by_cases h : (i : Int) < (t.size : Int)
    · refine ev_if h ?_
      have := impl_ShelfRead.ev_l1 t ht i (by omega) acc ha (fun r hr ho => by subst hr; exact ev_is (by rw [readL_none ho]; simp)) (fun r n ho => ?_) 3 0 rfl (by omega) (by omega) (by omega)
      · exact this
      · obtain ⟨k1, k2⟩ := oneL_len ho
        rw [List.length_drop] at k2
        refine ev_eq (ih (t.size - (i + n)) (by omega) (i + n) rfl (by omega) _ (by simp; omega)) ?_
        rw [readL_some ho, List.drop_drop]
        simp
        omega
    · refine ev_else h (ev_bind0 (impl_copied_string.val acc (by omega)) (ev_is ?_))
      rw [List.drop_eq_nil_of_le (by omega), readL_none (l := []) (by decide)]
      simp
theorem impl_ShelfRead.ev (t : ByteArray) (ht : t.size ≤ 1099511627776) : Ev (fun k => impl_ShelfRead.f k t) (resLog (readL (tx t))) := by
  refine ev_eq (impl_ShelfRead.l0_ev t ht t.size 0 (by omega) (by omega) [] (by simp)) ?_
  simp [resLog]

theorem impl_ShelfOk.ev (t : ByteArray) (f : Int) : Ev (fun k => impl_ShelfOk.f k t f) (okL t f) := by
  unfold impl_ShelfOk.f
  by_cases h : (t.size : Int) > 2400
  · refine ev_if h (Ev.step (fun k => by rw [impl_ShelfOk.j0]) (ev_if rfl (ev_is ?_)))
    unfold okL
    rw [decide_eq_false (by omega)]
    rfl
  · refine ev_else h (ev_bind0 (impl_in.val _ _ _) (Ev.step (fun k => by rw [impl_ShelfOk.j0]) ?_))
    by_cases h2 : 0 ≤ f ∧ f ≤ (t.size : Int)
    · obtain ⟨i, rfl⟩ := Int.eq_ofNat_of_zero_le h2.1
      have hi := inB_yes h2.1 h2.2
      rw [hi]
      refine ev_else (by simp) (Ev.bind (impl_ShelfRead.ev t (by omega)) (ev_if h2.1 (ev_if h2.2 (Ev.bind (impl_ShelfRead.ev _ ?_) ?_))))
      · rw [Int.toNat_natCast, ← tx_length, tx_extract0, List.length_take, tx_length]
        omega
      · rw [Int.toNat_natCast, tx_extract0]
        unfold okL
        rw [hi, decide_eq_true (p := t.size ≤ 2400) (by omega), Int.toNat_natCast]
        simp only [resLog, Bool.true_and]
        by_cases h3 : (readL (tx t)).2 = t.size
        · refine ev_if (by omega) (ev_is ?_)
          rw [decide_eq_true h3, Bool.true_and]
          rfl
        · refine ev_else (by omega) (ev_is ?_)
          rw [decide_eq_false h3, Bool.false_and]
    · refine ev_if (by rw [inB_no h2]; rfl) (ev_is ?_)
      unfold okL
      rw [inB_no h2, Bool.and_false, Bool.false_and]

theorem impl_ShelfFall.ev (t : ByteArray) (f keep : Int) (hk0 : -9223372036854775808 ≤ keep) (hk1 : keep ≤ 9223372036854775807) : Ev (fun k => impl_ShelfFall.f k t f keep) (fallL t f keep) := by
  unfold impl_ShelfFall.f
  refine Ev.bind (impl_ShelfOk.ev t f) ?_
  by_cases h : okL t f = true
  · refine ev_if h ?_
    obtain ⟨h1, h2, h3, _, _⟩ := okL_some h
    have e0 : wrap64 ((t.size : Int) - f) = (t.size : Int) - f := wrap64_id (x := (t.size : Int) - f) (by omega) (by omega)
    have e1 : f + mx 0 (mn keep ((t.size : Int) - f)) = ((leftN t f keep : Nat) : Int) := by
      unfold mx mn leftN
      split <;> split <;> (try split) <;> omega
    have hle : leftN t f keep ≤ t.size := by
      unfold leftN
      split
      · omega
      · split <;> omega
    have e2 : wrap64 ((leftN t f keep : Nat) : Int) = ((leftN t f keep : Nat) : Int) := w64_nat _ (by omega)
    simp only [e0, e1, e2, Int.toNat_natCast]
    have hsz : (t.extract 0 (leftN t f keep)).size = leftN t f keep := by
      rw [← tx_length, tx_extract0, List.length_take, tx_length]; omega
    have hrl := readL_le ((tx t).take (leftN t f keep))
    rw [List.length_take, tx_length] at hrl
    refine ev_if (by omega) (ev_if (by omega) (Ev.bind (impl_ShelfRead.ev _ (by omega)) ?_))
    rw [tx_extract0, hsz]
    refine ev_if (by simp only [resLog]; omega) (ev_if (by simp only [resLog]; omega) (ev_is ?_))
    rw [fallL, if_pos h]
    simp only [resLog, Int.toNat_natCast, Prod.mk.injEq, and_true]
    apply tx_inj
    rw [tx_extract0, tx_extract0, tx_ba, List.take_take, Nat.min_eq_left (by omega)]
  · exact ev_else h (ev_is (by rw [fallL, if_neg h]))

theorem FnExactShelfFall_ev (t : ByteArray) (f : Int) (keep : Int) (hk : (Lit.int .i64 keep).wf = true) (h : t.size ≤ 9223372036854775807) : ∃ k, laws_FnExactShelfFall.f k t f keep = some true := by
  obtain ⟨hk0, hk1⟩ := i64_of_wf hk
  refine Ev.rounds ?_
  unfold laws_FnExactShelfFall.f
  obtain ⟨r, hr, hs⟩ := laws_szShelf.val t f h
  refine ev_bind0 hr ?_
  by_cases h1 : r < 0
  · exact ev_if h1 (Ev.now _)
  · refine ev_else h1 (ev_bind0 (laws_toShelf.val t f) (Ev.bind (spec_ShelfFall.ev t f keep hk0 hk1) (ev_bind0 (laws_toShelf.val t f) (Ev.bind (impl_ShelfFall.ev t f keep hk0 hk1) ?_))))
    exact ev_bind0 (laws_eqShelf.val _ _) (ev_if rfl (Ev.now _))
end FnExactShelfFall_
end Go.Proofs.Ytdgigadocempdaa.Pure
