/- What the Go functions compute, told in plain words. No condition beyond those that stand in each. -/
import Derived.Test.YteglhciieakmaaaDoorEvuFnExactNoteWrite
import Derived.Test.YteglhciieakmaaaDoorPur
import Derived.Test.YteglhciieakmaaaDoorPum
import Derived.Test.YteglhciieakmaaaDoorPus
namespace Go.Ev.F
set_option linter.unusedVariables false
set_option linter.unusedSimpArgs false
theorem laws_szNote.tot (a b c d : Int) (t : ByteArray) (ht : (t.size : Int) ≤ 9223372036854775807) (v : Int) (h0 : 0 ≤ v) (h1 : v ≤ 1048576) : ∃ r : Int, r ≤ v ∧ (0 ≤ r → t.size ≤ 1048576) ∧ ∀ {R : Type} (K : Int → Option R), laws_szNote.c 4194304 a b c d t v K = K r := by
  have e : w64 (v - (t.size : Int)) = v - (t.size : Int) := w64_id (by omega) (by omega)
  by_cases h : v - (t.size : Int) < 0
  · exact ⟨-1, by omega, by omega, fun K => by rw [laws_szNote.u]; exact ct (by rw [e]; exact dt h)⟩
  · exact ⟨v - (t.size : Int), by omega, by omega, fun K => by rw [laws_szNote.u]; refine (cf (by rw [e]; exact df h)).trans ?_; rw [e]⟩
theorem spec_l6In.val {R : Type} (k : Nat) (a b c : Int) (K : Bool → Option R) : spec_l6In.c k a b c K = K (inB a b c) := by
  rw [spec_l6In.u]
  unfold inB
  by_cases h : b ≤ a <;> simp [h]
theorem spec_l3Keeper.val {R : Type} (k : Nat) (a : Int) (K : Bool → Option R) : spec_l3Keeper.c k a K = K (inB a 0 3) := by
  rw [spec_l3Keeper.u, spec_l6In.val]
theorem spec_NoteOk.l4r_val {R : Type} (a b c d : Int) (t : ByteArray) (ht : t.size ≤ 24) (x0 : Option R) (q : Bool → Option R) : ∀ (e i n : Nat), i + e = t.size → e < n →
    spec_NoteOk.l4r (spec_NoteOk.g 4194304) 4194304 a b c d t x0 q n (i : Int) = cond (((tx t).drop i).all chOk) x0 (q false) := by
  have hl := tx_length t
  intro e
  induction e with
  | zero =>
    intro i n h1 h2
    obtain ⟨n, rfl⟩ := Nat.exists_eq_succ_of_ne_zero (n := n) (by omega)
    rw [spec_NoteOk.l4r_u, List.drop_eq_nil_of_le (by omega)]
    exact cf (df (by omega))
  | succ e ih =>
    intro i n h1 h2
    obtain ⟨n, rfl⟩ := Nat.exists_eq_succ_of_ne_zero (n := n) (by omega)
    have hi : i < t.size := by omega
    have hlt : i < (tx t).length := by omega
    rw [spec_NoteOk.l4r_u, Int.toNat_natCast, byteAt_tx, getD_at hlt, w64_p1 i (by omega), List.drop_eq_getElem_cons hlt, List.all_cons]
    refine (ct (dt (by omega))).trans ((ct (gd hi)).trans ?_)
    by_cases c1 : (((tx t)[i].toNat : Nat) : Int) < 32
    · rw [show chOk (tx t)[i] = false from by simp [chOk]; omega, Bool.false_and]
      exact ct (dt c1)
    · refine (cf (df c1)).trans ((ct (gd hi)).trans ?_)
      by_cases c2 : (126 : Int) < (((tx t)[i].toNat : Nat) : Int)
      · rw [show chOk (tx t)[i] = false from by simp [chOk]; omega, Bool.false_and]
        exact ct (dt c2)
      · rw [show chOk (tx t)[i] = true from by simp [chOk]; omega, Bool.true_and, ← ih (i + 1) n (by omega) (by omega)]
        exact cf (df c2)
theorem spec_NoteOk.val {R : Type} (a b c d : Int) (t : ByteArray) (K : Bool → Option R) : spec_NoteOk.c 4194304 a b c d t K = K (ntOk a b c d t) := by
  rw [spec_NoteOk.u, spec_l3Keeper.val]
  cases h1 : inB a 0 3 with
  | false => exact (ct rfl).trans (by simp [ntOk, h1])
  | true =>
    refine (cf rfl).trans ?_
    rw [spec_l3Keeper.val]
    cases h2 : inB c 0 3 with
    | false => exact (ct rfl).trans (by simp [ntOk, h2])
    | true =>
      refine (cf rfl).trans ?_
      rw [spec_l6In.val]
      cases h3 : inB b 1 99 with
      | false => exact (ct rfl).trans (by simp [ntOk, h3])
      | true =>
        refine (cf rfl).trans ?_
        rw [spec_l6In.val]
        cases h4 : inB d 1 999 with
        | false => exact (ct rfl).trans (by simp [ntOk, h4])
        | true =>
          refine (cf rfl).trans ?_
          by_cases h5 : (t.size : Int) < 1
          · exact (ct (dt h5)).trans (by simp [ntOk, txOk, inB_no (x := (t.size : Int)) (a := 1) (b := 24) (by omega)])
          · refine (cf (df h5)).trans ?_
            by_cases h6 : (24 : Int) < (t.size : Int)
            · exact (ct (dt h6)).trans (by simp [ntOk, txOk, inB_no (x := (t.size : Int)) (a := 1) (b := 24) (by omega)])
            · refine (cf (df h6)).trans ?_
              refine (spec_NoteOk.l4r_val a b c d t (by omega) _ _ t.size 0 4194304 (by omega) (by omega)).trans ?_
              have e : ntOk a b c d t = (tx t).all chOk := by
                simp [ntOk, txOk, h1, h2, h3, h4, inB_yes (x := (t.size : Int)) (a := 1) (b := 24) (by omega) (by omega), tx]
              rw [List.drop_zero, e]
              cases (tx t).all chOk <;> rfl
theorem spec_l6Dec.small {R : Type} (n k : Nat) (h : n < 10) (K : ByteArray → Option R) : spec_l6Dec.c (k + 1) (n : Int) K = K (ba (decL n)) := by
  rw [spec_l6Dec.u]
  refine (cf (df (by omega))).trans ((cf (df (by omega))).trans ((ct (dt (by omega))).trans ?_))
  have e : w64 ((48 : Int) + (n : Int)) = ((48 + n : Nat) : Int) := (w64_id (x := 48 + (n : Int)) (by omega) (by omega)).trans (by omega)
  simp only [e]
  rw [ofBytes_one _ (by omega), decL_lt h]
  rfl
theorem spec_l6Dec.deep (d : Nat) : ∀ (n k : Nat), n < 10 ^ (d + 1) → d < k → n < 9223372036854775808 → ∀ {R : Type} (K : ByteArray → Option R), spec_l6Dec.c k (n : Int) K = K (ba (decL n)) := by
  induction d with
  | zero =>
    intro n k h hk _ R K
    obtain ⟨k, rfl⟩ := Nat.exists_eq_succ_of_ne_zero (n := k) (by omega)
    exact spec_l6Dec.small n k (by omega) K
  | succ d ih =>
    intro n k h hk hn R K
    obtain ⟨k, rfl⟩ := Nat.exists_eq_succ_of_ne_zero (n := k) (by omega)
    by_cases h10 : n < 10
    · exact spec_l6Dec.small n k h10 K
    · have hq : n / 10 < 10 ^ (d + 1) := by
        rw [Nat.pow_succ] at h
        exact Nat.div_lt_of_lt_mul (by rw [Nat.mul_comm]; exact h)
      have e1 : w64 (Int.tdiv (n : Int) 10) = ((n / 10 : Nat) : Int) := by
        have := tdivN n 10
        rw [show ((10 : Nat) : Int) = 10 from rfl] at this
        rw [this]; exact w64_nat _ (by omega)
      have e2 : w64 ((48 : Int) + Int.tmod (n : Int) 10) = ((48 + n % 10 : Nat) : Int) := by
        have := tmodN n 10
        rw [show ((10 : Nat) : Int) = 10 from rfl] at this
        rw [this, w64_id (by omega) (by omega)]
        omega
      have hs : (decL (n / 10)).length ≤ 19 := decL_length (d := 18) (by omega)
      rw [spec_l6Dec.u]
      refine (cf (df (by omega))).trans ((cf (df (by omega))).trans ((cf (df (by omega))).trans ((ct rfl).trans ?_)))
      rw [e1, ih (n / 10) k hq (by omega) (by omega)]
      refine (ct rfl).trans ?_
      simp only [e2]
      refine (ct (dt (by rw [ba_size, ofBytes_size]; simp only [List.length_singleton]; omega))).trans ?_
      rw [ofBytes_one _ (by omega), ba_append, decL_ge h10]
      rfl
theorem spec_l6Dec.val {R : Type} (n : Nat) (hn : n < 9223372036854775808) (K : ByteArray → Option R) : spec_l6Dec.c 4194304 (n : Int) K = K (ba (decL n)) := spec_l6Dec.deep 18 n 4194304 (by omega) (by omega) hn K
theorem spec_NoteWrite.val {R : Type} (a b c d : Int) (t : ByteArray) (K : ByteArray → Option R) : spec_NoteWrite.c 4194304 a b c d t K = K (nwB a b c d t) := by
  rw [spec_NoteWrite.u, spec_NoteOk.val]
  unfold nwB
  cases ho : ntOk a b c d t with
  | false => exact ct rfl
  | true =>
    obtain ⟨h1, h2, h3, h4, h5, _⟩ := ntOk_some ho
    obtain ⟨a', rfl⟩ := Int.eq_ofNat_of_zero_le h1.1
    obtain ⟨b', rfl⟩ := Int.eq_ofNat_of_zero_le (show 0 ≤ b by omega)
    obtain ⟨c', rfl⟩ := Int.eq_ofNat_of_zero_le h3.1
    obtain ⟨d', rfl⟩ := Int.eq_ofNat_of_zero_le (show 0 ≤ d by omega)
    have hs : (ByteArray.mk #[32]).size = 1 := rfl
    have e1 := decL_length (n := a') (d := 0) (by omega)
    have e2 := decL_length (n := b') (d := 1) (by omega)
    have e3 := decL_length (n := c') (d := 0) (by omega)
    have e4 := decL_length (n := d') (d := 2) (by omega)
    have b1 := ba_size (decL a')
    have b2 := ba_size (decL b')
    have b3 := ba_size (decL c')
    have b4 := ba_size (decL d')
    refine (cf rfl).trans ?_
    rw [spec_l6Dec.val _ (by omega)]
    refine (ct (dt (by omega))).trans ?_
    rw [spec_l6Dec.val _ (by omega)]
    refine (ct (dt (by simp only [sz_append]; omega))).trans ((ct (dt (by simp only [sz_append]; omega))).trans ?_)
    simp only []
    rw [spec_l6Dec.val _ (by omega)]
    refine (ct (dt (by simp only [sz_append]; omega))).trans ((ct (dt (by simp only [sz_append]; omega))).trans ?_)
    rw [spec_l6Dec.val _ (by omega)]
    refine (ct (dt (by simp only [sz_append]; omega))).trans ((ct (dt (by simp only [sz_append]; omega))).trans ?_)
    refine (ct (dt (by simp only [sz_append]; omega))).trans ?_
    refine congrArg K ?_
    apply tx_inj
    rw [cond_true, tx_ba]
    simp only [tx_append, tx_ba, ntL, Int.toNat_natCast]
    rfl
theorem laws_toNote.val {R : Type} (a b c d : Int) (t : ByteArray) (K : Int → Int → Int → Int → ByteArray → Option R) : laws_toNote.c 4194304 a b c d t K = K a b c d t := by rw [laws_toNote.u]
theorem impl_in.val {R : Type} (k : Nat) (a b c : Int) (K : Bool → Option R) : impl_in.c k a b c K = K (inB a b c) := by
  rw [impl_in.u]
  unfold inB
  by_cases h : b ≤ a <;> simp [h]
theorem impl_isNode.val {R : Type} (k : Nat) (a : Int) (K : Bool → Option R) : impl_isNode.c k a K = K (inB a 0 3) := by
  rw [impl_isNode.u, impl_in.val]
theorem impl_textOk.l4r_val {R : Type} (t : ByteArray) (ht : t.size ≤ 2097152) (x0 : Option R) (q : Bool → Option R) : ∀ (e i n : Nat), i + e = t.size → e < n →
    impl_textOk.l4r (impl_textOk.g 4194304) 4194304 t x0 q n (i : Int) = cond (((tx t).drop i).all chOk) x0 (q false) := by
  have hl := tx_length t
  intro e
  induction e with
  | zero =>
    intro i n h1 h2
    obtain ⟨n, rfl⟩ := Nat.exists_eq_succ_of_ne_zero (n := n) (by omega)
    rw [impl_textOk.l4r_u, List.drop_eq_nil_of_le (by omega)]
    exact cf (df (by omega))
  | succ e ih =>
    intro i n h1 h2
    obtain ⟨n, rfl⟩ := Nat.exists_eq_succ_of_ne_zero (n := n) (by omega)
    have hi : i < t.size := by omega
    have hlt : i < (tx t).length := by omega
    have hby := (tx t)[i].toNat_lt
    rw [impl_textOk.l4r_u, Int.toNat_natCast, byteAt_tx, getD_at hlt, w64_p1 i (by omega), w64_nat _ (by omega), List.drop_eq_getElem_cons hlt, List.all_cons]
    refine (ct (dt (by omega))).trans ((ct (gd hi)).trans ?_)
    rw [impl_in.val]
    by_cases c1 : (32 : Int) ≤ (((tx t)[i].toNat : Nat) : Int) ∧ (((tx t)[i].toNat : Nat) : Int) ≤ 126
    · rw [inB_yes c1.1 c1.2, show chOk (tx t)[i] = true from by simp [chOk]; omega, Bool.true_and, ← ih (i + 1) n (by omega) (by omega)]
      exact cf rfl
    · rw [inB_no c1, show chOk (tx t)[i] = false from by simp [chOk]; omega, Bool.false_and]
      exact ct rfl
theorem impl_textOk.val {R : Type} (t : ByteArray) (ht : t.size ≤ 2097152) (K : Bool → Option R) : impl_textOk.c 4194304 t K = K (txOk t) := by
  rw [impl_textOk.u]
  refine (impl_textOk.l4r_val t ht _ _ t.size 0 4194304 (by omega) (by omega)).trans ?_
  rw [List.drop_zero, impl_in.val]
  unfold txOk
  show cond ((tx t).all chOk) _ _ = K (inB (t.size : Int) 1 24 && (tx t).all chOk)
  cases (tx t).all chOk with
  | true => rw [Bool.and_true]; rfl
  | false => rw [Bool.and_false]; rfl
theorem impl_NoteOk.val {R : Type} (a b c d : Int) (t : ByteArray) (ht : t.size ≤ 2097152) (K : Bool → Option R) : impl_NoteOk.c 4194304 a b c d t K = K (ntOk a b c d t) := by
  rw [impl_NoteOk.u, impl_isNode.val]
  cases h1 : inB a 0 3 with
  | false => exact (cf rfl).trans (by simp [ntOk, h1])
  | true =>
    refine (ct rfl).trans ?_
    rw [impl_isNode.val]
    cases h2 : inB c 0 3 with
    | false => exact (cf rfl).trans (by simp [ntOk, h2])
    | true =>
      refine (ct rfl).trans ?_
      rw [impl_in.val]
      cases h3 : inB b 1 99 with
      | false => exact (cf rfl).trans (by simp [ntOk, h3])
      | true =>
        refine (ct rfl).trans ?_
        rw [impl_in.val]
        cases h4 : inB d 1 999 with
        | false => exact (cf rfl).trans (by simp [ntOk, h4])
        | true =>
          refine (ct rfl).trans ?_
          rw [impl_textOk.val _ ht]
          simp [ntOk, h1, h2, h3, h4]
theorem libDec (n : Nat) : Go.Lib.decDigits n = decL n := by
  induction n using Nat.strongRecOn with
  | ind n ih =>
    rw [Go.Lib.decDigits, decL]
    by_cases h : n < 10
    · rw [dif_pos h, if_pos h]
      rfl
    · rw [dif_neg h, if_neg h, ih (n / 10) (by omega)]
      rfl
theorem strconv_Itoa.val {R : Type} (n : Nat) (hn : n < 9223372036854775808) (K : ByteArray → Option R) : strconv_Itoa.c 4194304 (n : Int) K = K (ba (decL n)) := by
  rw [strconv_Itoa.u]
  refine (ct (by simp; omega)).trans ?_
  unfold Go.Lib.itoa
  rw [if_neg (by omega), Int.toNat_natCast, libDec]
  rfl
theorem impl_NoteWrite.val {R : Type} (a b c d : Int) (t : ByteArray) (ht : t.size ≤ 2097152) (K : ByteArray → Option R) : impl_NoteWrite.c 4194304 a b c d t K = K (nwB a b c d t) := by
  rw [impl_NoteWrite.u, impl_NoteOk.val _ _ _ _ _ ht]
  unfold nwB
  cases ho : ntOk a b c d t with
  | false => exact ct rfl
  | true =>
    obtain ⟨h1, h2, h3, h4, h5, _⟩ := ntOk_some ho
    obtain ⟨a', rfl⟩ := Int.eq_ofNat_of_zero_le h1.1
    obtain ⟨b', rfl⟩ := Int.eq_ofNat_of_zero_le (show 0 ≤ b by omega)
    obtain ⟨c', rfl⟩ := Int.eq_ofNat_of_zero_le h3.1
    obtain ⟨d', rfl⟩ := Int.eq_ofNat_of_zero_le (show 0 ≤ d by omega)
    have hs : (ByteArray.mk #[32]).size = 1 := rfl
    have e1 := decL_length (n := a') (d := 0) (by omega)
    have e2 := decL_length (n := b') (d := 1) (by omega)
    have e3 := decL_length (n := c') (d := 0) (by omega)
    have e4 := decL_length (n := d') (d := 2) (by omega)
    have b1 := ba_size (decL a')
    have b2 := ba_size (decL b')
    have b3 := ba_size (decL c')
    have b4 := ba_size (decL d')
    refine (cf rfl).trans ?_
    rw [strconv_Itoa.val _ (by omega)]
    refine (ct (dt (by omega))).trans ?_
    rw [strconv_Itoa.val _ (by omega)]
    refine (ct (dt (by simp only [sz_append]; omega))).trans ((ct (dt (by simp only [sz_append]; omega))).trans ?_)
    simp only []
    rw [strconv_Itoa.val _ (by omega)]
    refine (ct (dt (by simp only [sz_append]; omega))).trans ((ct (dt (by simp only [sz_append]; omega))).trans ?_)
    rw [strconv_Itoa.val _ (by omega)]
    refine (ct (dt (by simp only [sz_append]; omega))).trans ((ct (dt (by simp only [sz_append]; omega))).trans ?_)
    refine (ct (dt (by simp only [sz_append]; omega))).trans ?_
    refine congrArg K ?_
    apply tx_inj
    rw [cond_true, tx_ba]
    simp only [tx_append, tx_ba, ntL, Int.toNat_natCast]
    rfl
theorem laws_FnExactNoteWrite.law {R : Type} (a b c d : Int) (t : ByteArray) (_ha : -9223372036854775808 ≤ a ∧ a ≤ 9223372036854775807) (_hb : -9223372036854775808 ≤ b ∧ b ≤ 9223372036854775807) (_hc : -9223372036854775808 ≤ c ∧ c ≤ 9223372036854775807) (_hd : -9223372036854775808 ≤ d ∧ d ≤ 9223372036854775807) (ht : (t.size : Int) ≤ 9223372036854775807) (K : Bool → Option R) : laws_FnExactNoteWrite.c 4194304 a b c d t K = K true := by
  obtain ⟨r, _, r2, hr⟩ := laws_szNote.tot a b c d t ht 1048576 (by omega) (by omega)
  rw [laws_FnExactNoteWrite.u, hr]
  by_cases h1 : r < 0
  · exact ct (dt h1)
  · have r2 := r2 (by omega)
    refine (cf (df h1)).trans ?_
    rw [laws_toNote.val, spec_NoteWrite.val, laws_toNote.val, impl_NoteWrite.val _ _ _ _ _ (by omega)]
    exact cf (by simp)
end Go.Ev.F
