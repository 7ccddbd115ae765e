/- What the Go functions compute, told in plain words. No condition beyond those that stand in each. -/
import Derived.Test.YtidmkpeokahjoaaDoorEvuFnNoteStrict
import Derived.Test.YtidmkpeokahjoaaDoorPur
import Derived.Test.YtidmkpeokahjoaaDoorPum
import Derived.Test.YtidmkpeokahjoaaDoorPus
import Derived.Test.YtidmkpeokahjoaaDoorPun
namespace Go.Ev.F
set_option linter.unusedVariables false
set_option linter.unusedSimpArgs false
theorem spec_l6In.val {R : Type} (k : Nat) (a b c : Int) (K : Bool → Option R) : spec_l6In.c k a b c K = K (inB a b c) := by
  rw [spec_l6In.u]
  unfold inB
  by_cases h : b ≤ a <;> simp [h]
theorem spec_l3Keeper.val {R : Type} (k : Nat) (a : Int) (K : Bool → Option R) : spec_l3Keeper.c k a K = K (inB a 0 3) := by
  rw [spec_l3Keeper.u, spec_l6In.val]
theorem spec_NoteOk.l4r_val {R : Type} (a b c d : Int) (t : ByteArray) (ht : t.size ≤ 24) (x0 : Option R) (q : Bool → Option R) : ∀ (e i n : Nat), i + e = t.size → e < n →
    spec_NoteOk.l4r (spec_NoteOk.g 4194304) 4194304 a b c d t x0 q n (i : Int) = cond (((tx t).drop i).all chOk) x0 (q false) := by
  have hl := tx_length t
  intro e
  induction e with
  | zero =>
    intro i n h1 h2
    obtain ⟨n, rfl⟩ := Nat.exists_eq_succ_of_ne_zero (n := n) (by omega)
    rw [spec_NoteOk.l4r_u, List.drop_eq_nil_of_le (by omega)]
    exact cf (df (by omega))
  | succ e ih =>
    intro i n h1 h2
    obtain ⟨n, rfl⟩ := Nat.exists_eq_succ_of_ne_zero (n := n) (by omega)
    have hi : i < t.size := by omega
    have hlt : i < (tx t).length := by omega
    rw [spec_NoteOk.l4r_u, Int.toNat_natCast, byteAt_tx, getD_at hlt, w64_p1 i (by omega), List.drop_eq_getElem_cons hlt, List.all_cons]
    refine (ct (dt (by omega))).trans ((ct (gd hi)).trans ?_)
    by_cases c1 : (((tx t)[i].toNat : Nat) : Int) < 32
    · rw [show chOk (tx t)[i] = false from by simp [chOk]; omega, Bool.false_and]
      exact ct (dt c1)
    · refine (cf (df c1)).trans ((ct (gd hi)).trans ?_)
      by_cases c2 : (126 : Int) < (((tx t)[i].toNat : Nat) : Int)
      · rw [show chOk (tx t)[i] = false from by simp [chOk]; omega, Bool.false_and]
        exact ct (dt c2)
      · rw [show chOk (tx t)[i] = true from by simp [chOk]; omega, Bool.true_and, ← ih (i + 1) n (by omega) (by omega)]
        exact cf (df c2)
theorem spec_NoteOk.val {R : Type} (a b c d : Int) (t : ByteArray) (K : Bool → Option R) : spec_NoteOk.c 4194304 a b c d t K = K (ntOk a b c d t) := by
  rw [spec_NoteOk.u, spec_l3Keeper.val]
  cases h1 : inB a 0 3 with
  | false => exact (ct rfl).trans (by simp [ntOk, h1])
  | true =>
    refine (cf rfl).trans ?_
    rw [spec_l3Keeper.val]
    cases h2 : inB c 0 3 with
    | false => exact (ct rfl).trans (by simp [ntOk, h2])
    | true =>
      refine (cf rfl).trans ?_
      rw [spec_l6In.val]
      cases h3 : inB b 1 99 with
      | false => exact (ct rfl).trans (by simp [ntOk, h3])
      | true =>
        refine (cf rfl).trans ?_
        rw [spec_l6In.val]
        cases h4 : inB d 1 999 with
        | false => exact (ct rfl).trans (by simp [ntOk, h4])
        | true =>
          refine (cf rfl).trans ?_
          by_cases h5 : (t.size : Int) < 1
          · exact (ct (dt h5)).trans (by simp [ntOk, txOk, inB_no (x := (t.size : Int)) (a := 1) (b := 24) (by omega)])
          · refine (cf (df h5)).trans ?_
            by_cases h6 : (24 : Int) < (t.size : Int)
            · exact (ct (dt h6)).trans (by simp [ntOk, txOk, inB_no (x := (t.size : Int)) (a := 1) (b := 24) (by omega)])
            · refine (cf (df h6)).trans ?_
              refine (spec_NoteOk.l4r_val a b c d t (by omega) _ _ t.size 0 4194304 (by omega) (by omega)).trans ?_
              have e : ntOk a b c d t = (tx t).all chOk := by
                simp [ntOk, txOk, h1, h2, h3, h4, inB_yes (x := (t.size : Int)) (a := 1) (b := 24) (by omega) (by omega), tx]
              rw [List.drop_zero, e]
              cases (tx t).all chOk <;> rfl
theorem spec_l6Dec.small {R : Type} (n k : Nat) (h : n < 10) (K : ByteArray → Option R) : spec_l6Dec.c (k + 1) (n : Int) K = K (ba (decL n)) := by
  rw [spec_l6Dec.u]
  refine (cf (df (by omega))).trans ((cf (df (by omega))).trans ((ct (dt (by omega))).trans ?_))
  have e : w64 ((48 : Int) + (n : Int)) = ((48 + n : Nat) : Int) := (w64_id (x := 48 + (n : Int)) (by omega) (by omega)).trans (by omega)
  simp only [e]
  rw [ofBytes_one _ (by omega), decL_lt h]
  rfl
theorem spec_l6Dec.deep (d : Nat) : ∀ (n k : Nat), n < 10 ^ (d + 1) → d < k → n < 9223372036854775808 → ∀ {R : Type} (K : ByteArray → Option R), spec_l6Dec.c k (n : Int) K = K (ba (decL n)) := by
  induction d with
  | zero =>
    intro n k h hk _ R K
    obtain ⟨k, rfl⟩ := Nat.exists_eq_succ_of_ne_zero (n := k) (by omega)
    exact spec_l6Dec.small n k (by omega) K
  | succ d ih =>
    intro n k h hk hn R K
    obtain ⟨k, rfl⟩ := Nat.exists_eq_succ_of_ne_zero (n := k) (by omega)
    by_cases h10 : n < 10
    · exact spec_l6Dec.small n k h10 K
    · have hq : n / 10 < 10 ^ (d + 1) := by
        rw [Nat.pow_succ] at h
        exact Nat.div_lt_of_lt_mul (by rw [Nat.mul_comm]; exact h)
      have e1 : w64 (Int.tdiv (n : Int) 10) = ((n / 10 : Nat) : Int) := by
        have := tdivN n 10
        rw [show ((10 : Nat) : Int) = 10 from rfl] at this
        rw [this]; exact w64_nat _ (by omega)
      have e2 : w64 ((48 : Int) + Int.tmod (n : Int) 10) = ((48 + n % 10 : Nat) : Int) := by
        have := tmodN n 10
        rw [show ((10 : Nat) : Int) = 10 from rfl] at this
        rw [this, w64_id (by omega) (by omega)]
        omega
      have hs : (decL (n / 10)).length ≤ 19 := decL_length (d := 18) (by omega)
      rw [spec_l6Dec.u]
      refine (cf (df (by omega))).trans ((cf (df (by omega))).trans ((cf (df (by omega))).trans ((ct rfl).trans ?_)))
      rw [e1, ih (n / 10) k hq (by omega) (by omega)]
      refine (ct rfl).trans ?_
      simp only [e2]
      refine (ct (dt (by rw [ba_size, ofBytes_size]; simp only [List.length_singleton]; omega))).trans ?_
      rw [ofBytes_one _ (by omega), ba_append, decL_ge h10]
      rfl
theorem spec_l6Dec.val {R : Type} (n : Nat) (hn : n < 9223372036854775808) (K : ByteArray → Option R) : spec_l6Dec.c 4194304 (n : Int) K = K (ba (decL n)) := spec_l6Dec.deep 18 n 4194304 (by omega) (by omega) hn K
theorem spec_NoteWrite.val {R : Type} (a b c d : Int) (t : ByteArray) (K : ByteArray → Option R) : spec_NoteWrite.c 4194304 a b c d t K = K (nwB a b c d t) := by
  rw [spec_NoteWrite.u, spec_NoteOk.val]
  unfold nwB
  cases ho : ntOk a b c d t with
  | false => exact ct rfl
  | true =>
    obtain ⟨h1, h2, h3, h4, h5, _⟩ := ntOk_some ho
    obtain ⟨a', rfl⟩ := Int.eq_ofNat_of_zero_le h1.1
    obtain ⟨b', rfl⟩ := Int.eq_ofNat_of_zero_le (show 0 ≤ b by omega)
    obtain ⟨c', rfl⟩ := Int.eq_ofNat_of_zero_le h3.1
    obtain ⟨d', rfl⟩ := Int.eq_ofNat_of_zero_le (show 0 ≤ d by omega)
    have hs : (ByteArray.mk #[32]).size = 1 := rfl
    have e1 := decL_length (n := a') (d := 0) (by omega)
    have e2 := decL_length (n := b') (d := 1) (by omega)
    have e3 := decL_length (n := c') (d := 0) (by omega)
    have e4 := decL_length (n := d') (d := 2) (by omega)
    have b1 := ba_size (decL a')
    have b2 := ba_size (decL b')
    have b3 := ba_size (decL c')
    have b4 := ba_size (decL d')
    refine (cf rfl).trans ?_
    rw [spec_l6Dec.val _ (by omega)]
    refine (ct (dt (by omega))).trans ?_
    rw [spec_l6Dec.val _ (by omega)]
    refine (ct (dt (by simp only [sz_append]; omega))).trans ((ct (dt (by simp only [sz_append]; omega))).trans ?_)
    simp only []
    rw [spec_l6Dec.val _ (by omega)]
    refine (ct (dt (by simp only [sz_append]; omega))).trans ((ct (dt (by simp only [sz_append]; omega))).trans ?_)
    rw [spec_l6Dec.val _ (by omega)]
    refine (ct (dt (by simp only [sz_append]; omega))).trans ((ct (dt (by simp only [sz_append]; omega))).trans ?_)
    refine (ct (dt (by simp only [sz_append]; omega))).trans ?_
    refine congrArg K ?_
    apply tx_inj
    rw [cond_true, tx_ba]
    simp only [tx_append, tx_ba, ntL, Int.toNat_natCast]
    rfl
theorem spec_l3Word.l4r_val {R : Type} (s : ByteArray) (hs : s.size ≤ 2097152) (K : ByteArray → ByteArray → Option R) : ∀ (d i n : Nat), i + d = s.size → d < n → (∀ c ∈ (tx s).take i, c ≠ 32) →
    spec_l3Word.l4r (spec_l3Word.g 4194304) 4194304 s (K s (ByteArray.mk #[])) (fun v w => K v w) n (i : Int) = K (ba (wordL (tx s)).1) (ba (wordL (tx s)).2) := by
  have hl := tx_length s
  intro d
  induction d with
  | zero =>
    intro i n h1 h2 h3
    obtain ⟨n, rfl⟩ := Nat.exists_eq_succ_of_ne_zero (n := n) (by omega)
    rw [List.take_of_length_le (by omega)] at h3
    rw [spec_l3Word.l4r_u, wordL_none h3]
    exact cf (df (by omega))
  | succ d ih =>
    intro i n h1 h2 h3
    obtain ⟨n, rfl⟩ := Nat.exists_eq_succ_of_ne_zero (n := n) (by omega)
    have hi : i < s.size := by omega
    have hlt : i < (tx s).length := by omega
    rw [spec_l3Word.l4r_u, Int.toNat_natCast, byteAt_tx, getD_at hlt, w64_p1 i (by omega), Int.toNat_natCast]
    refine (ct (dt (by omega))).trans ((ct (gd hi)).trans ?_)
    by_cases hc : (tx s)[i] = 32
    · refine (ct (by rw [hc]; rfl)).trans ((ct (by simp; omega)).trans ((ct (by simp; omega)).trans ?_))
      have e : tx s = (tx s).take i ++ 32 :: (tx s).drop (i + 1) := by
        have := List.take_append_drop i (tx s)
        rw [List.drop_eq_getElem_cons hlt, hc] at this
        exact this.symm
      have ew : wordL (tx s) = ((tx s).take i, (tx s).drop (i + 1)) := by
        conv => lhs; rw [e]
        rw [wordL_hit h3]
      rw [ew]
      have e1 : s.extract 0 i = ba ((tx s).take i) := by apply tx_inj; rw [tx_extract0, tx_ba]
      have e2 : s.extract (i + 1) s.size = ba ((tx s).drop (i + 1)) := by apply tx_inj; rw [tx_extractEnd, tx_ba]
      simp only [e1, e2]
    · refine (cf (df (fun h => hc (UInt8.toNat_inj.1 (by have h0 : (32 : UInt8).toNat = 32 := rfl; omega))))).trans ?_
      refine ih (i + 1) n (by omega) (by omega) ?_
      rw [List.take_add_one, List.getElem?_eq_getElem hlt]
      intro c hm
      rcases List.mem_append.1 hm with hm | hm
      · exact h3 c hm
      · have : c = (tx s)[i] := by simpa using hm
        rw [this]; exact hc
theorem spec_l3Word.val {R : Type} (s : ByteArray) (hs : s.size ≤ 2097152) (K : ByteArray → ByteArray → Option R) : spec_l3Word.c 4194304 s K = K (ba (wordL (tx s)).1) (ba (wordL (tx s)).2) := by
  rw [spec_l3Word.u]
  exact spec_l3Word.l4r_val s hs K s.size 0 4194304 (by omega) (by omega) (by simp)
theorem spec_l3Dec.l4r_val {R : Type} (t : ByteArray) (ht : t.size ≤ 4) (x0 q : Int → Option R) : ∀ (d i n : Nat), i + d = t.size → d < n → (∀ c ∈ (tx t).take i, isDig c = true) →
    spec_l3Dec.l4r (spec_l3Dec.g 4194304) 4194304 t x0 q n ((valL ((tx t).take i) : Nat) : Int) (i : Int) = cond ((tx t).all isDig) (x0 ((valL (tx t) : Nat) : Int)) (q (-1)) := by
  have hl := tx_length t
  intro d
  induction d with
  | zero =>
    intro i n h1 h2 hd
    obtain ⟨n, rfl⟩ := Nat.exists_eq_succ_of_ne_zero (n := n) (by omega)
    rw [List.take_of_length_le (by omega)] at hd ⊢
    rw [spec_l3Dec.l4r_u, List.all_eq_true.2 hd]
    exact cf (df (by omega))
  | succ d ih =>
    intro i n h1 h2 hd
    obtain ⟨n, rfl⟩ := Nat.exists_eq_succ_of_ne_zero (n := n) (by omega)
    have hi : i < t.size := by omega
    have hlt : i < (tx t).length := by omega
    have hno : isDig (tx t)[i] = false → (tx t).all isDig = false := fun hb => by
      rw [List.all_eq_false]
      exact ⟨_, List.getElem_mem hlt, by rw [hb]; simp⟩
    rw [spec_l3Dec.l4r_u, Int.toNat_natCast, byteAt_tx, getD_at hlt, w64_p1 i (by omega)]
    refine (ct (dt (by omega))).trans ((ct (gd hi)).trans ?_)
    by_cases c1 : (((tx t)[i].toNat : Nat) : Int) < 48
    · refine (ct (dt c1)).trans ?_
      rw [hno (by simp [isDig]; omega), cond_false]
    · refine (cf (df c1)).trans ((ct (gd hi)).trans ?_)
      by_cases c2 : (57 : Int) < (((tx t)[i].toNat : Nat) : Int)
      · refine (ct (dt c2)).trans ?_
        rw [hno (by simp [isDig]; omega), cond_false]
      · refine (cf (df c2)).trans ((ct (gd hi)).trans ?_)
        have ht1 : (tx t).take (i + 1) = (tx t).take i ++ [(tx t)[i]] := by rw [List.take_add_one, List.getElem?_eq_getElem hlt]; rfl
        have hv : valL ((tx t).take i) < 10000 := valL_small hd (by rw [List.length_take]; omega)
        have e1 : w64 (w64 (((valL ((tx t).take i) : Nat) : Int) * 10) + w64 (w8 ((((tx t)[i].toNat : Nat) : Int) - 48))) = ((valL ((tx t).take (i + 1)) : Nat) : Int) := by
          rw [ht1, valL_snoc]
          generalize valL ((tx t).take i) = v at hv
          generalize (tx t)[i].toNat = c at c1 c2
          rw [w8_id (x := (c : Int) - 48) (by omega) (by omega), w64_id (x := (c : Int) - 48) (by omega) (by omega), w64_id (x := (v : Int) * 10) (by omega) (by omega), w64_id (by omega) (by omega)]
          omega
        simp only [e1]
        refine ih (i + 1) n (by omega) (by omega) ?_
        rw [ht1]
        intro c hc
        rcases List.mem_append.1 hc with hc | hc
        · exact hd c hc
        · rw [List.mem_singleton] at hc
          subst hc
          simp [isDig]; omega
theorem spec_l3Dec.val {R : Type} (t : ByteArray) (K : Int → Option R) : spec_l3Dec.c 4194304 t K = K (resNum (numL 4 (tx t))) := by
  have hl := tx_length t
  rw [spec_l3Dec.u]
  by_cases h0 : (t.size : Int) < 1
  · refine (ct (dt h0)).trans ?_
    rw [List.eq_nil_of_length_eq_zero (show (tx t).length = 0 by omega), numL_nil]
    rfl
  · refine (cf (df h0)).trans ?_
    by_cases h4 : (4 : Int) < (t.size : Int)
    · refine (ct (dt h4)).trans ?_
      unfold numL
      rw [if_neg (by omega)]
      rfl
    · refine (cf (df h4)).trans ?_
      refine (spec_l3Dec.l4r_val t (by omega) _ _ t.size 0 4194304 (by omega) (by omega) (by simp)).trans ?_
      cases hd : (tx t).all isDig with
      | false =>
        refine (cf rfl).trans ?_
        unfold numL
        rw [if_neg (fun h => by rw [hd] at h; cases h.2.1)]
        rfl
      | true =>
        refine (ct rfl).trans ?_
        have hv : valL (tx t) < 10000 := valL_small (List.all_eq_true.1 hd) (by omega)
        rw [spec_l6Dec.val _ (by omega)]
        by_cases h : decL (valL (tx t)) = tx t
        · refine (cf (by rw [dt (show ba (decL (valL (tx t))) = t by rw [h, ba_tx])]; rfl)).trans ?_
          unfold numL
          rw [if_pos ⟨by omega, hd, h⟩]
          rfl
        · refine (ct (by rw [df (fun e => h (by rw [← tx_ba (decL (valL (tx t))), e]))]; rfl)).trans ?_
          unfold numL
          rw [if_neg (fun h' => h h'.2.2)]
          rfl
theorem wordL_len : ∀ l : List UInt8, (wordL l).2.length ≤ l.length
  | [] => Nat.le_refl _
  | c :: l => by
    have := wordL_len l
    unfold wordL
    split
    · simp
    · simp only [List.length_cons]; omega
theorem spec_l3Nums.step {R : Type} (s : ByteArray) (hs : s.size ≤ 2097152) (i : Nat) (hi : i < 4) (w : List Int) (hw : w.length ≤ 100) (x : ByteArray → List Int → Option R) (n : Nat) :
    spec_l3Nums.l4r (spec_l3Nums.g 4194304) 4194304 4 x (n + 1) s (i : Int) w = spec_l3Nums.l4r (spec_l3Nums.g 4194304) 4194304 4 x n (ba (wordL (tx s)).2) ((i + 1 : Nat) : Int) (w ++ [numW (wordL (tx s)).1]) := by
  rw [spec_l3Nums.l4r_u, w64_p1 i (by omega)]
  refine (ct (dt (by omega))).trans ?_
  rw [spec_l3Word.val s hs, spec_l3Dec.val, tx_ba]
  exact ct (lim_le (by simp; omega))
theorem spec_l3Nums.val {R : Type} (s : ByteArray) (hs : s.size ≤ 2097152) (K : List Int → ByteArray → Option R) : spec_l3Nums.c 4194304 s 4 K =
    K [numW (wordL (tx s)).1, numW (wordL (wordL (tx s)).2).1, numW (wordL (wordL (wordL (tx s)).2).2).1, numW (wordL (wordL (wordL (wordL (tx s)).2).2).2).1] (ba (wordL (wordL (wordL (wordL (tx s)).2).2).2).2) := by
  have hl := tx_length s
  have b1 := wordL_len (tx s)
  have b2 := wordL_len (wordL (tx s)).2
  have b3 := wordL_len (wordL (wordL (tx s)).2).2
  rw [spec_l3Nums.u]
  refine (spec_l3Nums.step s hs 0 (by omega) [] (by simp) _ 4194303).trans ?_
  refine (spec_l3Nums.step _ (by rw [ba_size]; omega) 1 (by omega) _ (by simp) _ 4194302).trans ?_
  refine (spec_l3Nums.step _ (by rw [ba_size]; rw [tx_ba]; omega) 2 (by omega) _ (by simp) _ 4194301).trans ?_
  refine (spec_l3Nums.step _ (by rw [ba_size]; rw [tx_ba, tx_ba]; omega) 3 (by omega) _ (by simp) _ 4194300).trans ?_
  refine (spec_l3Nums.l4r_u 4194304 4 _ 4194299 _ _ _).trans ?_
  refine (cf (df (by omega))).trans ?_
  simp only [tx_ba]
  rfl
theorem spec_NoteRead.val {R : Type} (s : ByteArray) (hs : s.size ≤ 2097152) (K : Int → Int → Int → Int → ByteArray → Bool → Option R) : spec_NoteRead.c 4194304 s K = K (specR s).1 (specR s).2.1 (specR s).2.2.1 (specR s).2.2.2.1 (specR s).2.2.2.2.1 (specR s).2.2.2.2.2 := by
  rw [spec_NoteRead.u, spec_l3Nums.val s hs]
  unfold specR
  dsimp only
  generalize numW _ = a
  generalize numW _ = b
  generalize numW _ = c
  generalize numW _ = d
  generalize ba _ = t
  refine (ct rfl).trans ((ct rfl).trans ((ct rfl).trans ((ct rfl).trans ?_)))
  by_cases h0 : s = ByteArray.mk #[]
  · refine (ct (dt h0)).trans ?_
    rw [dt h0]
    rfl
  · refine (cf (df h0)).trans ?_
    rw [df h0, cond_false, spec_NoteWrite.val]
    show cond (!decide (nwB a b c d t = s)) _ _ = _
    by_cases h1 : nwB a b c d t = s
    · refine (cf (by rw [dt h1]; rfl)).trans ?_
      rw [dt h1]
      rfl
    · refine (ct (by rw [df h1]; rfl)).trans ?_
      rw [df h1]
      rfl
theorem impl_in.val {R : Type} (k : Nat) (a b c : Int) (K : Bool → Option R) : impl_in.c k a b c K = K (inB a b c) := by
  rw [impl_in.u]
  unfold inB
  by_cases h : b ≤ a <;> simp [h]
theorem impl_isNode.val {R : Type} (k : Nat) (a : Int) (K : Bool → Option R) : impl_isNode.c k a K = K (inB a 0 3) := by
  rw [impl_isNode.u, impl_in.val]
theorem impl_textOk.l4r_val {R : Type} (t : ByteArray) (ht : t.size ≤ 2097152) (x0 : Option R) (q : Bool → Option R) : ∀ (e i n : Nat), i + e = t.size → e < n →
    impl_textOk.l4r (impl_textOk.g 4194304) 4194304 t x0 q n (i : Int) = cond (((tx t).drop i).all chOk) x0 (q false) := by
  have hl := tx_length t
  intro e
  induction e with
  | zero =>
    intro i n h1 h2
    obtain ⟨n, rfl⟩ := Nat.exists_eq_succ_of_ne_zero (n := n) (by omega)
    rw [impl_textOk.l4r_u, List.drop_eq_nil_of_le (by omega)]
    exact cf (df (by omega))
  | succ e ih =>
    intro i n h1 h2
    obtain ⟨n, rfl⟩ := Nat.exists_eq_succ_of_ne_zero (n := n) (by omega)
    have hi : i < t.size := by omega
    have hlt : i < (tx t).length := by omega
    have hby := (tx t)[i].toNat_lt
    rw [impl_textOk.l4r_u, Int.toNat_natCast, byteAt_tx, getD_at hlt, w64_p1 i (by omega), w64_nat _ (by omega), List.drop_eq_getElem_cons hlt, List.all_cons]
    refine (ct (dt (by omega))).trans ((ct (gd hi)).trans ?_)
    rw [impl_in.val]
    by_cases c1 : (32 : Int) ≤ (((tx t)[i].toNat : Nat) : Int) ∧ (((tx t)[i].toNat : Nat) : Int) ≤ 126
    · rw [inB_yes c1.1 c1.2, show chOk (tx t)[i] = true from by simp [chOk]; omega, Bool.true_and, ← ih (i + 1) n (by omega) (by omega)]
      exact cf rfl
    · rw [inB_no c1, show chOk (tx t)[i] = false from by simp [chOk]; omega, Bool.false_and]
      exact ct rfl
theorem impl_textOk.val {R : Type} (t : ByteArray) (ht : t.size ≤ 2097152) (K : Bool → Option R) : impl_textOk.c 4194304 t K = K (txOk t) := by
  rw [impl_textOk.u]
  refine (impl_textOk.l4r_val t ht _ _ t.size 0 4194304 (by omega) (by omega)).trans ?_
  rw [List.drop_zero, impl_in.val]
  unfold txOk
  show cond ((tx t).all chOk) _ _ = K (inB (t.size : Int) 1 24 && (tx t).all chOk)
  cases (tx t).all chOk with
  | true => rw [Bool.and_true]; rfl
  | false => rw [Bool.and_false]; rfl
theorem impl_NoteOk.val {R : Type} (a b c d : Int) (t : ByteArray) (ht : t.size ≤ 2097152) (K : Bool → Option R) : impl_NoteOk.c 4194304 a b c d t K = K (ntOk a b c d t) := by
  rw [impl_NoteOk.u, impl_isNode.val]
  cases h1 : inB a 0 3 with
  | false => exact (cf rfl).trans (by simp [ntOk, h1])
  | true =>
    refine (ct rfl).trans ?_
    rw [impl_isNode.val]
    cases h2 : inB c 0 3 with
    | false => exact (cf rfl).trans (by simp [ntOk, h2])
    | true =>
      refine (ct rfl).trans ?_
      rw [impl_in.val]
      cases h3 : inB b 1 99 with
      | false => exact (cf rfl).trans (by simp [ntOk, h3])
      | true =>
        refine (ct rfl).trans ?_
        rw [impl_in.val]
        cases h4 : inB d 1 999 with
        | false => exact (cf rfl).trans (by simp [ntOk, h4])
        | true =>
          refine (ct rfl).trans ?_
          rw [impl_textOk.val _ ht]
          simp [ntOk, h1, h2, h3, h4]
theorem libDec (n : Nat) : Go.Lib.decDigits n = decL n := by
  induction n using Nat.strongRecOn with
  | ind n ih =>
    rw [Go.Lib.decDigits, decL]
    by_cases h : n < 10
    · rw [dif_pos h, if_pos h]
      rfl
    · rw [dif_neg h, if_neg h, ih (n / 10) (by omega)]
      rfl
theorem strconv_Itoa.val {R : Type} (n : Nat) (hn : n < 9223372036854775808) (K : ByteArray → Option R) : strconv_Itoa.c 4194304 (n : Int) K = K (ba (decL n)) := by
  rw [strconv_Itoa.u]
  refine (ct (by simp; omega)).trans ?_
  unfold Go.Lib.itoa
  rw [if_neg (by omega), Int.toNat_natCast, libDec]
  rfl
theorem impl_NoteWrite.val {R : Type} (a b c d : Int) (t : ByteArray) (ht : t.size ≤ 2097152) (K : ByteArray → Option R) : impl_NoteWrite.c 4194304 a b c d t K = K (nwB a b c d t) := by
  rw [impl_NoteWrite.u, impl_NoteOk.val _ _ _ _ _ ht]
  unfold nwB
  cases ho : ntOk a b c d t with
  | false => exact ct rfl
  | true =>
    obtain ⟨h1, h2, h3, h4, h5, _⟩ := ntOk_some ho
    obtain ⟨a', rfl⟩ := Int.eq_ofNat_of_zero_le h1.1
    obtain ⟨b', rfl⟩ := Int.eq_ofNat_of_zero_le (show 0 ≤ b by omega)
    obtain ⟨c', rfl⟩ := Int.eq_ofNat_of_zero_le h3.1
    obtain ⟨d', rfl⟩ := Int.eq_ofNat_of_zero_le (show 0 ≤ d by omega)
    have hs : (ByteArray.mk #[32]).size = 1 := rfl
    have e1 := decL_length (n := a') (d := 0) (by omega)
    have e2 := decL_length (n := b') (d := 1) (by omega)
    have e3 := decL_length (n := c') (d := 0) (by omega)
    have e4 := decL_length (n := d') (d := 2) (by omega)
    have b1 := ba_size (decL a')
    have b2 := ba_size (decL b')
    have b3 := ba_size (decL c')
    have b4 := ba_size (decL d')
    refine (cf rfl).trans ?_
    rw [strconv_Itoa.val _ (by omega)]
    refine (ct (dt (by omega))).trans ?_
    rw [strconv_Itoa.val _ (by omega)]
    refine (ct (dt (by simp only [sz_append]; omega))).trans ((ct (dt (by simp only [sz_append]; omega))).trans ?_)
    simp only []
    rw [strconv_Itoa.val _ (by omega)]
    refine (ct (dt (by simp only [sz_append]; omega))).trans ((ct (dt (by simp only [sz_append]; omega))).trans ?_)
    rw [strconv_Itoa.val _ (by omega)]
    refine (ct (dt (by simp only [sz_append]; omega))).trans ((ct (dt (by simp only [sz_append]; omega))).trans ?_)
    refine (ct (dt (by simp only [sz_append]; omega))).trans ?_
    refine congrArg K ?_
    apply tx_inj
    rw [cond_true, tx_ba]
    simp only [tx_append, tx_ba, ntL, Int.toNat_natCast]
    rfl
theorem strings_SplitN.val {R : Type} (s : ByteArray) (hs : s.size ≤ 2097152) (K : List ByteArray → Option R) : strings_SplitN.c 4194304 s (ByteArray.mk #[32]) 5 K = K (splS s) := by
  rw [strings_SplitN.u]
  have z : (ByteArray.mk #[32]).size = 1 := rfl
  exact ct (by rw [dt (show s.size < 4294967281 by omega), dt (show 1 ≤ (ByteArray.mk #[32]).size by omega)]; rfl)
theorem impl_natural.l5r_val {R : Type} (t : ByteArray) (ht : t.size ≤ 5) (x0 : Int → Option R) (q : Int → Bool → Option R) : ∀ (d i n : Nat), i + d = t.size → d < n → (∀ c ∈ (tx t).take i, isDig c = true) →
    impl_natural.l5r (impl_natural.g 4194304) 4194304 t x0 q n ((valL ((tx t).take i) : Nat) : Int) (i : Int) = cond ((tx t).all isDig) (x0 ((valL (tx t) : Nat) : Int)) (q 0 false) := by
  have hl := tx_length t
  intro d
  induction d with
  | zero =>
    intro i n h1 h2 hd
    obtain ⟨n, rfl⟩ := Nat.exists_eq_succ_of_ne_zero (n := n) (by omega)
    rw [List.take_of_length_le (by omega)] at hd ⊢
    rw [impl_natural.l5r_u, List.all_eq_true.2 hd]
    exact cf (df (by omega))
  | succ d ih =>
    intro i n h1 h2 hd
    obtain ⟨n, rfl⟩ := Nat.exists_eq_succ_of_ne_zero (n := n) (by omega)
    have hi : i < t.size := by omega
    have hlt : i < (tx t).length := by omega
    have hno : isDig (tx t)[i] = false → (tx t).all isDig = false := fun hb => by
      rw [List.all_eq_false]
      exact ⟨_, List.getElem_mem hlt, by rw [hb]; simp⟩
    have hby := (tx t)[i].toNat_lt
    rw [impl_natural.l5r_u, Int.toNat_natCast, byteAt_tx, getD_at hlt, w64_p1 i (by omega), w64_nat _ (by omega)]
    refine (ct (dt (by omega))).trans ((ct (gd hi)).trans ?_)
    rw [impl_in.val]
    by_cases c1 : (48 : Int) ≤ (((tx t)[i].toNat : Nat) : Int) ∧ (((tx t)[i].toNat : Nat) : Int) ≤ 57
    · rw [inB_yes c1.1 c1.2]
      refine (cf rfl).trans ((ct (gd hi)).trans ?_)
      have ht1 : (tx t).take (i + 1) = (tx t).take i ++ [(tx t)[i]] := by rw [List.take_add_one, List.getElem?_eq_getElem hlt]; rfl
      have hv : valL ((tx t).take i) < 100000 := by
        have := valL_lt hd
        have h5 : ((tx t).take i).length ≤ 5 := by rw [List.length_take]; omega
        exact Nat.lt_of_lt_of_le this (Nat.pow_le_pow_right (by omega) h5)
      have e1 : w64 (w64 ((10 : Int) * ((valL ((tx t).take i) : Nat) : Int)) + w64 (w8 ((((tx t)[i].toNat : Nat) : Int) - 48))) = ((valL ((tx t).take (i + 1)) : Nat) : Int) := by
        rw [ht1, valL_snoc]
        generalize valL ((tx t).take i) = v at hv
        generalize (tx t)[i].toNat = c at c1
        rw [w8_id (x := (c : Int) - 48) (by omega) (by omega), w64_id (x := (c : Int) - 48) (by omega) (by omega), w64_id (x := 10 * (v : Int)) (by omega) (by omega), w64_id (by omega) (by omega)]
        omega
      simp only [e1]
      refine ih (i + 1) n (by omega) (by omega) ?_
      rw [ht1]
      intro c hc
      rcases List.mem_append.1 hc with hc | hc
      · exact hd c hc
      · rw [List.mem_singleton] at hc
        subst hc
        simp [isDig]; omega
    · rw [inB_no c1]
      refine (ct rfl).trans ?_
      rw [hno (by simp [isDig]; omega), cond_false]
theorem impl_natural.val {R : Type} (t : ByteArray) (K : Int → Bool → Option R) : impl_natural.c 4194304 t K = K (resNat (numL 5 (tx t))).1 (resNat (numL 5 (tx t))).2 := by
  have hl := tx_length t
  have run : (1 ≤ t.size ∧ t.size ≤ 5) → (t.size = 1 ∨ (tx t).headD 0 ≠ 48) → impl_natural.c10 (impl_natural.g 4194304) 4194304 t (fun v w => K v w) = K (resNat (numL 5 (tx t))).1 (resNat (numL 5 (tx t))).2 := by
    intro hs hh
    rw [impl_natural.c10_u]
    refine (impl_natural.l5r_val t hs.2 (fun v => K v true) (fun v w => K v w) t.size 0 4194304 (by omega) (by omega) (by simp)).trans ?_
    cases hd : (tx t).all isDig with
    | false =>
      rw [numL_nodig hd]
      rfl
    | true =>
      have hne : tx t ≠ [] := fun e => by rw [e] at hl; simp at hl; omega
      have : numL 5 (tx t) = some (valL (tx t)) := by
        unfold numL
        rw [if_pos ⟨by omega, hd, (canon_iff (List.all_eq_true.1 hd)).2 ⟨hne, hh.imp (fun h => by omega) id⟩⟩]
      rw [this]
      rfl
  rw [impl_natural.u, impl_in.val]
  by_cases h : 1 ≤ (t.size : Int) ∧ (t.size : Int) ≤ 5
  · rw [inB_yes h.1 h.2]
    refine (cf rfl).trans ((ct (by simp; omega)).trans ?_)
    have hh : (tx t).getD 0 0 = (tx t).headD 0 := by cases tx t <;> rfl
    rw [byteAt_tx, hh]
    by_cases h48 : (tx t).headD 0 = 48
    · refine (ct (by rw [h48]; rfl)).trans ?_
      by_cases h1 : t.size = 1
      · exact (cf (df (by omega))).trans (run (by omega) (.inl h1))
      · refine (ct (dt (by omega))).trans ?_
        rw [show numL 5 (tx t) = none from ?_]
        · rfl
        · unfold numL
          rw [if_neg]
          rintro ⟨_, h2, h3⟩
          rw [List.all_eq_true] at h2
          rcases ((canon_iff h2).1 h3).2 with h4 | h4
          · omega
          · exact h4 h48
    · refine (cf (df (fun hx => h48 (UInt8.toNat_inj.1 (by have h0 : (48 : UInt8).toNat = 48 := rfl; omega))))).trans (run (by omega) (.inr h48))
  · rw [inB_no h]
    refine (ct rfl).trans ?_
    rw [show numL 5 (tx t) = none from ?_]
    · rfl
    · by_cases h0 : tx t = []
      · rw [h0]; exact numL_nil 5
      · have := List.length_pos_iff.2 h0
        exact numL_long (by omega)
theorem impl_naturals.l4r_val {R : Type} (l : List ByteArray) (hl : l.length ≤ 100) (K : List Int → Bool → Option R) : ∀ (d i n : Nat) (acc : List Int), i + d = l.length → d < n → acc.length + d ≤ 1000 →
    impl_naturals.l4r (impl_naturals.g 4194304) 4194304 (l.length : Int) l (fun w => K w true) (fun v w => K w v) n (i : Int) acc = K (natsA acc (l.drop i)).1 (natsA acc (l.drop i)).2 := by
  intro d
  induction d with
  | zero =>
    intro i n acc h1 h2 h3
    obtain ⟨n, rfl⟩ := Nat.exists_eq_succ_of_ne_zero (n := n) (by omega)
    rw [impl_naturals.l4r_u, List.drop_eq_nil_of_le (by omega)]
    exact cf (df (by omega))
  | succ d ih =>
    intro i n acc h1 h2 h3
    obtain ⟨n, rfl⟩ := Nat.exists_eq_succ_of_ne_zero (n := n) (by omega)
    have hi : i < l.length := by omega
    rw [impl_naturals.l4r_u, Int.toNat_natCast, getD_at hi, w64_p1 i (by omega), List.drop_eq_getElem_cons hi]
    refine (ct (dt (by omega))).trans ((ct (gd hi)).trans ?_)
    rw [impl_natural.val]
    unfold natsA
    cases hn : numL 5 (tx l[i]) with
    | none => exact ct rfl
    | some m =>
      refine (cf rfl).trans ((ct (lim_le (by simp; omega))).trans ?_)
      exact ih (i + 1) n _ (by omega) (by omega) (by simp; omega)
theorem impl_naturals.val {R : Type} (l : List ByteArray) (hl : l.length ≤ 100) (K : List Int → Bool → Option R) : impl_naturals.c 4194304 l K = K (natsA [] l).1 (natsA [] l).2 := by
  rw [impl_naturals.u]
  refine (impl_naturals.l4r_val l hl K l.length 0 4194304 [] (by omega) (by omega) (by simp; omega)).trans ?_
  rw [List.drop_zero]
theorem impl_NoteRead.val {R : Type} (s : ByteArray) (hs : s.size ≤ 2097152) (K : Int → Int → Int → Int → ByteArray → Bool → Option R) : impl_NoteRead.c 4194304 s K = K (implR s).1 (implR s).2.1 (implR s).2.2.1 (implR s).2.2.2.1 (implR s).2.2.2.2.1 (implR s).2.2.2.2.2 := by
  have hb : ∀ x ∈ splS s, x.size ≤ s.size := fun x hx => splitB_size _ _ _ x hx
  rw [impl_NoteRead.u, strings_SplitN.val s hs]
  unfold implR
  dsimp only
  generalize splS s = P at hb
  by_cases h5 : (P.length : Int) = 5
  · have h5' : P.length = 5 := by omega
    refine (cf (by rw [dt h5]; rfl)).trans ((ct (by simp; omega)).trans ?_)
    rw [dt h5]
    show impl_naturals.c 4194304 (P.take 4) _ = _
    rw [impl_naturals.val _ (by rw [List.length_take]; omega)]
    have hlen := natsA_length (P.take 4) []
    generalize natsA [] (P.take 4) = N at hlen ⊢
    cases hN : N.2 with
    | false => exact (ct rfl).trans rfl
    | true =>
      have hlen := hlen hN
      rw [List.length_take] at hlen
      have h4 : N.1.length = 4 := by simp at hlen; omega
      have ht : (P.getD 4 ByteArray.empty).size ≤ 2097152 := by
        rw [getD_at (by omega)]
        have := hb _ (List.getElem_mem (show 4 < P.length by omega))
        omega
      refine (cf rfl).trans ((ct (by rw [h4]; rfl)).trans ((ct (by rw [h4]; rfl)).trans ((ct (by rw [h4]; rfl)).trans ((ct (by rw [h4]; rfl)).trans ((ct (by rw [h5']; rfl)).trans ?_)))))
      generalize N.1.getD 0 0 = a
      generalize N.1.getD 1 0 = b
      generalize N.1.getD 2 0 = c
      generalize N.1.getD 3 0 = d
      generalize P.getD 4 ByteArray.empty = t at ht ⊢
      rw [impl_NoteOk.val _ _ _ _ _ ht]
      cases ho : ntOk a b c d t with
      | false => exact (ct rfl).trans rfl
      | true =>
        refine (cf rfl).trans ?_
        rw [impl_NoteWrite.val _ _ _ _ _ ht]
        by_cases h1 : nwB a b c d t = s
        · refine (cf (by rw [dt h1]; rfl)).trans ?_
          rw [dt h1]
          rfl
        · refine (ct (by rw [df h1]; rfl)).trans ?_
          rw [df h1]
          rfl
  · refine (ct (by rw [df h5]; rfl)).trans ?_
    rw [df h5]
    rfl
theorem spec_l6Open.val {l : List Int} (h : Byt l) : ∃ l', Byt l' ∧ l'.length ≤ 2000 ∧ ∀ {R : Type} (K : List Int → Int → Option R), spec_l6Open.c 4194304 l K = K l' ((0 : Nat) : Int) := by
  by_cases hl : 2000 < l.length
  · refine ⟨l.take 2000, byt_take h 2000, by rw [List.length_take]; omega, fun K => ?_⟩
    rw [spec_l6Open.u]
    exact (ct (dt (by omega))).trans (ct (by simp; omega))
  · refine ⟨l, h, by omega, fun K => ?_⟩
    rw [spec_l6Open.u]
    exact cf (df (by omega))
/-- A number is drawn: from 0 to n - 1. -/
theorem spec_l6Rd_pick.tot {l : List Int} (hl : Byt l) (hn : l.length ≤ 2000) (p : Nat) (hp : p < 1000000000000) (n : Int) (hn1 : n ≤ 1000000000) :
    ∃ r : Nat, (∀ {R : Type} (K : Int → Int → Option R), spec_l6Rd_pick.c 4194304 l (p : Int) n K = K (r : Int) ((p + 1 : Nat) : Int)) ∧ (1 ≤ n → (r : Int) < n) ∧ (n < 1 → r = 0) := by
  have e1 : w64 ((p : Int) + 1) = ((p + 1 : Nat) : Int) := w64_p1 p (by omega)
  have e2 : w64 (((p + 1 : Nat) : Int) - 1) = (p : Int) := by rw [w64_id (by omega) (by omega)]; omega
  by_cases h1 : n < 1
  · refine ⟨0, fun K => ?_, by omega, by omega⟩
    rw [spec_l6Rd_pick.u, e1]
    exact ct (dt h1)
  · by_cases h0 : l.length = 0
    · refine ⟨0, fun K => ?_, by omega, by omega⟩
      rw [spec_l6Rd_pick.u, e1]
      exact (cf (df h1)).trans (ct (dt (by omega)))
    · by_cases hlt : p < l.length
      · have hb := byt_get hl p
        obtain ⟨t1, t2⟩ := tmod_pos (x := l.getD p 0) (n := n) hb.1 (by omega)
        refine ⟨_, fun K => ?_, fun _ => t2, by omega⟩
        rw [spec_l6Rd_pick.u, e1]
        refine (cf (df h1)).trans ((cf (df (by omega))).trans ?_)
        simp only [e2]
        refine (ct (dt (by omega))).trans ((ct (gd hlt)).trans ?_)
        rw [Int.toNat_natCast, w64_id (x := l.getD p 0) (by omega) (by omega), t1]
        exact ct (by simp; omega)
      · have f2 : p % l.length < l.length := Nat.mod_lt _ (by omega)
        have f4 : (p * 7 + 3) % l.length < l.length := Nat.mod_lt _ (by omega)
        have m1 : Int.tmod (p : Int) (l.length : Int) = ((p % l.length : Nat) : Int) := tmodN _ _
        have m2 : w64 (w64 ((p : Int) * 7) + 3) = ((p * 7 + 3 : Nat) : Int) := by
          rw [w64_id (x := (p : Int) * 7) (by omega) (by omega), w64_id (by omega) (by omega)]; omega
        have m3 : Int.tmod ((p * 7 + 3 : Nat) : Int) (l.length : Int) = (((p * 7 + 3) % l.length : Nat) : Int) := tmodN _ _
        have b1 := byt_get hl (p % l.length)
        have b2 := byt_get hl ((p * 7 + 3) % l.length)
        obtain ⟨a, ha⟩ := Int.eq_ofNat_of_zero_le b1.1
        obtain ⟨b, hb⟩ := Int.eq_ofNat_of_zero_le b2.1
        rw [ha] at b1
        rw [hb] at b2
        have q1 : p / l.length ≤ p := Nat.div_le_self _ _
        have m4 : w64 (Int.tdiv (p : Int) (l.length : Int)) = ((p / l.length : Nat) : Int) := by rw [tdivN]; exact w64_nat _ (by omega)
        have u1 : w64 (a : Int) = (a : Int) := w64_nat a (by omega)
        have u2 : w64 (b : Int) = (b : Int) := w64_nat b (by omega)
        have u3 : w64 ((a : Int) * 131) = ((a * 131 : Nat) : Int) := by rw [w64_id (by omega) (by omega)]; omega
        have u4 : w64 ((b : Int) * 1117) = ((b * 1117 : Nat) : Int) := by rw [w64_id (by omega) (by omega)]; omega
        have u5 : w64 (((a * 131 : Nat) : Int) + ((b * 1117 : Nat) : Int)) = ((a * 131 + b * 1117 : Nat) : Int) := w64_pn _ _ (by omega)
        have u6 : w64 ((p : Int) * 29) = ((p * 29 : Nat) : Int) := by rw [w64_id (by omega) (by omega)]; omega
        have u7 : w64 (((a * 131 + b * 1117 : Nat) : Int) + ((p * 29 : Nat) : Int)) = ((a * 131 + b * 1117 + p * 29 : Nat) : Int) := w64_pn _ _ (by omega)
        generalize hq : p / l.length = q at q1 m4
        have u9 : w64 ((q : Int) * 53) = ((q * 53 : Nat) : Int) := by rw [w64_id (by omega) (by omega)]; omega
        have u10 : w64 (((a * 131 + b * 1117 + p * 29 : Nat) : Int) + ((q * 53 : Nat) : Int)) = ((a * 131 + b * 1117 + p * 29 + q * 53 : Nat) : Int) := w64_pn _ _ (by omega)
        have x1 : a * 131 + b * 1117 + p * 29 + q * 53 < 1000000000000000 := by omega
        generalize hx : a * 131 + b * 1117 + p * 29 + q * 53 = x at u10 x1
        have u11 : w64 (Int.tdiv (x : Int) 64) = ((x / 64 : Nat) : Int) := by
          have := tdivN x 64
          rw [show ((64 : Nat) : Int) = 64 from rfl] at this
          rw [this]; exact w64_nat _ (by omega)
        obtain ⟨y0, y1⟩ := w64_xor x (x / 64) (by omega) (by omega)
        obtain ⟨t1, t2⟩ := tmod_pos (x := ((x ^^^ (x / 64) : Nat) : Int)) (n := n) (by omega) (by omega)
        refine ⟨_, fun K => ?_, fun _ => t2, by omega⟩
        rw [spec_l6Rd_pick.u, e1]
        refine (cf (df h1)).trans ((cf (df (by omega))).trans ?_)
        simp only [e2]
        refine (cf (df (by omega))).trans ((ct (nz h0)).trans ?_)
        simp only [m1, Int.toNat_natCast, ha, m2, m3, hb, u1, u2, u3, u4, u5, u6, u7, m4, u9, u10, u11, y0, t1]
        refine (ct (gd f2)).trans ((ct (nz h0)).trans ((ct (gd f4)).trans ((ct (nz h0)).trans ((ct rfl).trans ?_))))
        exact ct (by simp; omega)
/-- One of a list is drawn. -/
theorem spec_l6Rd_of.tot {l : List Int} (hl : Byt l) (hn : l.length ≤ 2000) (p : Nat) (hp : p < 1000000000000) (x : List ByteArray) (h1 : 1 ≤ x.length) (h2 : x.length ≤ 1000000) :
    ∃ t, t ∈ x ∧ ∀ {R : Type} (K : ByteArray → Int → Option R), spec_l6Rd_of.c 4194304 l (p : Int) x K = K t ((p + 1 : Nat) : Int) := by
  obtain ⟨r, hr, h3, _⟩ := spec_l6Rd_pick.tot hl hn p hp (x.length : Int) (by omega)
  have h3 := h3 (by omega)
  have hlt : r < x.length := by omega
  refine ⟨x[r], List.getElem_mem hlt, fun K => ?_⟩
  rw [spec_l6Rd_of.u, hr, Int.toNat_natCast, getD_at hlt]
  exact ct (gd hlt)
theorem spec_l6Many.l3r_tot (n : Nat) : ∀ (x acc : ByteArray), n < 1000000 → 2 * (x.size * n) + acc.size ≤ 1099511627776 → ∃ r : ByteArray, r.size = acc.size + x.size * n ∧ ∀ {R : Type} (x0 : ByteArray → Option R) (m : Nat), n < m → spec_l6Many.l3r (spec_l6Many.g 4194304) 4194304 x0 m x (n : Int) acc = x0 r := by
  induction n using Nat.strongRecOn with
  | ind n ih =>
    intro x acc hn h
    by_cases h0 : n = 0
    · subst h0
      refine ⟨acc, by simp, fun x0 m hm => ?_⟩
      obtain ⟨m, rfl⟩ := Nat.exists_eq_succ_of_ne_zero (n := m) (by omega)
      rw [spec_l6Many.l3r_u]
      exact cf rfl
    · have e : w64 (Int.tdiv (n : Int) 2) = ((n / 2 : Nat) : Int) := by
        have := tdivN n 2
        rw [show ((2 : Nat) : Int) = 2 from rfl] at this
        rw [this]; exact w64_nat _ (by omega)
      have ht : Int.tmod (n : Int) 2 = ((n % 2 : Nat) : Int) := tmodN n 2
      have hxx : (x ++ x).size = x.size + x.size := sz_append _ _
      have hax : (acc ++ x).size = acc.size + x.size := sz_append _ _
      have hm : x.size ≤ x.size * n := Nat.le_mul_of_pos_right _ (by omega)
      by_cases h1 : n % 2 = 1
      · obtain ⟨m, hm2⟩ : ∃ m, n = 2 * m + 1 := ⟨n / 2, by omega⟩
        have e1 : x.size * n = 2 * (x.size * m) + x.size := by rw [hm2, Nat.mul_add, Nat.mul_left_comm, Nat.mul_one]
        have e2 : (x ++ x).size * m = 2 * (x.size * m) := by rw [hxx, ← Nat.two_mul, Nat.mul_assoc]
        obtain ⟨r, hr, hl⟩ := ih m (by omega) (x ++ x) (acc ++ x) (by omega) (by omega)
        refine ⟨r, by omega, fun x0 q hq => ?_⟩
        obtain ⟨q, rfl⟩ := Nat.exists_eq_succ_of_ne_zero (n := q) (by omega)
        rw [spec_l6Many.l3r_u, e, ht, h1, show n / 2 = m by omega, hl x0 q (by omega)]
        refine (ct (dt (by omega))).trans ((ct rfl).trans ((ct rfl).trans ?_))
        exact (ct (dt (by omega))).trans ((ct (dt (by omega))).trans (ct rfl))
      · obtain ⟨m, hm2⟩ : ∃ m, n = 2 * m := ⟨n / 2, by omega⟩
        have e1 : x.size * n = 2 * (x.size * m) := by rw [hm2, Nat.mul_left_comm]
        have e2 : (x ++ x).size * m = 2 * (x.size * m) := by rw [hxx, ← Nat.two_mul, Nat.mul_assoc]
        obtain ⟨r, hr, hl⟩ := ih m (by omega) (x ++ x) acc (by omega) (by omega)
        refine ⟨r, by omega, fun x0 q hq => ?_⟩
        obtain ⟨q, rfl⟩ := Nat.exists_eq_succ_of_ne_zero (n := q) (by omega)
        rw [spec_l6Many.l3r_u, e, ht, show n % 2 = 0 by omega, show n / 2 = m by omega, hl x0 q (by omega)]
        refine (ct (dt (by omega))).trans ((ct rfl).trans ((cf rfl).trans ?_))
        exact (ct (dt (by omega))).trans (ct rfl)
theorem spec_l6Many.tot (x : ByteArray) (n : Nat) (hn : n < 1000000) (hx : 2 * (x.size * n) ≤ 1099511627776) : ∃ r : ByteArray, r.size = x.size * n ∧ ∀ {R : Type} (K : ByteArray → Option R), spec_l6Many.c 4194304 x (n : Int) K = K r := by
  obtain ⟨r, h1, h2⟩ := spec_l6Many.l3r_tot n x (ByteArray.mk #[]) hn (by show _ + 0 ≤ _; omega)
  refine ⟨r, h1.trans (Nat.zero_add _), fun K => ?_⟩
  rw [spec_l6Many.u]
  exact h2 (fun v => K v) 4194304 (by omega)
theorem spec_l72Text.l9r_tot {l : List Int} (hl : Byt l) (hn : l.length ≤ 2000) (n : Nat) : ∀ (x : List Int) (p : Nat), n ≤ 100 → x.length + n ≤ 100 → p + n < 900000000000 →
    ∃ y : List Int, y.length = x.length + n ∧ ∀ {R : Type} (x1 : Int → List Int → Option R) (m : Nat), n < m → spec_l72Text.l9r (spec_l72Text.g 4194304) 4194304 l x1 m (n : Int) (p : Int) x = x1 ((p + n : Nat) : Int) y := by
  induction n with
  | zero =>
    intro x p h1 h2 h3
    refine ⟨x, rfl, fun x1 m hm => ?_⟩
    obtain ⟨m, rfl⟩ := Nat.exists_eq_succ_of_ne_zero (n := m) (by omega)
    rw [spec_l72Text.l9r_u]
    exact cf rfl
  | succ n ih =>
    intro x p h1 h2 h3
    obtain ⟨r, hr, h4, _⟩ := spec_l6Rd_pick.tot hl hn p (by omega) 256 (by omega)
    obtain ⟨y, hy, h5⟩ := ih (x ++ [w8 (r : Int)]) (p + 1) (by omega) (by simp; omega) (by omega)
    refine ⟨y, by simp at hy; omega, fun x1 m hm => ?_⟩
    obtain ⟨m, rfl⟩ := Nat.exists_eq_succ_of_ne_zero (n := m) (by omega)
    have e : w64 (((n + 1 : Nat) : Int) - 1) = (n : Int) := (w64_id (x := ((n + 1 : Nat) : Int) - 1) (by omega) (by omega)).trans (by omega)
    rw [spec_l72Text.l9r_u, hr]
    refine (ct (dt (by omega))).trans ((ct (lim_le (by simp; omega))).trans ?_)
    simp only [e]
    rw [h5 x1 m (by omega), show p + 1 + n = p + (n + 1) by omega]
theorem spec_l72Text.tot {l : List Int} (hl : Byt l) (hn : l.length ≤ 2000) (p : Nat) (hp : p < 800000000000) : ∃ (t : ByteArray) (q : Nat), t.size ≤ 25 ∧ p ≤ q ∧ q ≤ p + 30 ∧ ∀ {R : Type} (K : ByteArray → Int → Option R), spec_l72Text.c 4194304 l (p : Int) K = K t (q : Int) := by
  obtain ⟨a, ha, a1, _⟩ := spec_l6Rd_pick.tot hl hn p (by omega) 8 (by omega)
  have a1 := a1 (by omega)
  by_cases h0 : a = 0
  · subst h0
    obtain ⟨b, b1, hb⟩ := spec_l6Many.tot (ByteArray.mk #[120]) 24 (by omega) (by show 2 * (1 * 24) ≤ _; omega)
    obtain ⟨c, c1, hc⟩ := spec_l6Many.tot (ByteArray.mk #[121]) 25 (by omega) (by show 2 * (1 * 25) ≤ _; omega)
    have b1 : b.size = 24 := b1
    have c1 : c.size = 25 := c1
    obtain ⟨t, t1, ht⟩ := spec_l6Rd_of.tot hl hn (p + 1) (by omega) [ByteArray.mk #[], b, c, ByteArray.mk #[0, 1], ByteArray.mk #[97, 10]] (by simp) (by simp)
    refine ⟨t, p + 1 + 1, ?_, by omega, by omega, fun K => ?_⟩
    · simp only [List.mem_cons, List.not_mem_nil, or_false] at t1
      rcases t1 with h | h | h | h | h <;> rw [h] <;> first | omega | (show (_ : Nat) ≤ 25; decide)
    · rw [spec_l72Text.u, ha]
      refine (ct rfl).trans ?_
      refine (hb _).trans ((hc _).trans ?_)
      exact ht _
  · by_cases h1 : a = 1
    · subst h1
      obtain ⟨b, hb, b1, _⟩ := spec_l6Rd_pick.tot hl hn (p + 1) (by omega) 20 (by omega)
      have b1 := b1 (by omega)
      obtain ⟨y, y1, hy⟩ := spec_l72Text.l9r_tot hl hn (1 + b) [] (p + 1 + 1) (by omega) (by simp; omega) (by omega)
      have e : w64 ((1 : Int) + (b : Int)) = ((1 + b : Nat) : Int) := (w64_id (x := 1 + (b : Int)) (by omega) (by omega)).trans (by omega)
      refine ⟨ofBytes y, p + 1 + 1 + (1 + b), by rw [ofBytes_size, y1]; simp; omega, by omega, by omega, fun K => ?_⟩
      rw [spec_l72Text.u, ha]
      refine (cf rfl).trans ((ct rfl).trans ?_)
      rw [hb, e]
      exact hy _ 4194304 (by omega)
    · obtain ⟨t, t1, ht⟩ := spec_l6Rd_of.tot hl hn (p + 1) (by omega) [ByteArray.mk #[97], ByteArray.mk #[97, 98, 99, 100], ByteArray.mk #[104, 101, 108, 108, 111], ByteArray.mk #[49, 50, 51, 52, 53, 54, 55, 56], ByteArray.mk #[97, 32, 108, 111, 110, 103, 101, 114, 32, 109, 101, 115, 115, 97, 103, 101], ByteArray.mk #[106, 117, 115, 116, 32, 116, 119, 101, 110, 116, 121, 45, 102, 111, 117, 114, 32, 98, 121, 116, 101, 115, 32, 33], ByteArray.mk #[109, 105, 120, 101, 100, 32, 98, 108, 111, 99, 107, 115], ByteArray.mk #[102, 111, 117, 114, 32, 119, 111, 114, 100, 115, 32, 111, 102, 32, 97, 32, 116, 101, 120, 116]] (by simp) (by simp)
      refine ⟨t, p + 1 + 1, ?_, by omega, by omega, fun K => ?_⟩
      · simp only [List.mem_cons, List.not_mem_nil, or_false] at t1
        rcases t1 with h | h | h | h | h | h | h | h <;> rw [h] <;> (show (_ : Nat) ≤ 25; decide)
      · rw [spec_l72Text.u, ha]
        refine (cf (df (by omega))).trans ((cf (df (by omega))).trans ?_)
        exact ht _
theorem spec_l72Note.tot {l : List Int} (hl : Byt l) (hn : l.length ≤ 2000) (p : Nat) (hp : p < 700000000000) : ∃ (a b c d : Int) (t : ByteArray) (q : Nat), t.size ≤ 25 ∧ p ≤ q ∧ q ≤ p + 50 ∧ ∀ {R : Type} (K : Int → Int → Int → Int → ByteArray → Int → Option R), spec_l72Note.c 4194304 l (p : Int) K = K a b c d t (q : Int) := by
  obtain ⟨r1, e1, _, _⟩ := spec_l6Rd_pick.tot hl hn p (by omega) 4 (by omega)
  obtain ⟨r3, e3, _, _⟩ := spec_l6Rd_pick.tot hl hn (p + 1) (by omega) 5 (by omega)
  obtain ⟨r5, e5, _, _⟩ := spec_l6Rd_pick.tot hl hn (p + 1 + 1) (by omega) 4 (by omega)
  obtain ⟨r7, e7, _, _⟩ := spec_l6Rd_pick.tot hl hn (p + 1 + 1 + 1) (by omega) 30 (by omega)
  obtain ⟨t, t1, et⟩ := spec_l6Rd_of.tot hl hn (p + 1 + 1 + 1 + 1) (by omega) [(ByteArray.mk #[97]), (ByteArray.mk #[104, 101, 108, 108, 111]), (ByteArray.mk #[97, 32, 108, 111, 110, 103, 101, 114, 32, 109, 101, 115, 115, 97, 103, 101]), (ByteArray.mk #[32, 120, 32]), (ByteArray.mk #[106, 117, 115, 116, 32, 116, 119, 101, 110, 116, 121, 45, 102, 111, 117, 114, 32, 98, 121, 116, 101, 115, 32, 33])] (by simp) (by simp)
  have ht : t.size ≤ 25 := by
    simp only [List.mem_cons, List.not_mem_nil, or_false] at t1
    rcases t1 with h | h | h | h | h <;> rw [h] <;> (show (_ : Nat) ≤ 25; decide)
  clear t1
  obtain ⟨r12, e12, _, _⟩ := spec_l6Rd_pick.tot hl hn (p + 1 + 1 + 1 + 1 + 1) (by omega) 16 (by omega)
  by_cases h0 : r12 = 0
  · obtain ⟨x, ex, cx, _⟩ := spec_l6Rd_pick.tot hl hn (p + 1 + 1 + 1 + 1 + 1 + 1) (by omega) 2 (by omega)
    have cx := cx (by omega)
    refine ⟨([(-1), 4] : List Int).getD x 0, w64 ((1 : Int) + (r3 : Int)), (r5 : Int), w64 ((1 : Int) + (r7 : Int)), t, p + 1 + 1 + 1 + 1 + 1 + 1 + 1, ht, by omega, by omega, fun K => ?_⟩
    rw [spec_l72Note.u, e1, e3, e5, e7]
    simp only []
    rw [et, e12]
    refine (ct (dt (by omega))).trans ?_
    rw [ex]
    exact ct (by simp; omega)
  · by_cases h1 : r12 = 1
    · obtain ⟨x, ex, cx, _⟩ := spec_l6Rd_pick.tot hl hn (p + 1 + 1 + 1 + 1 + 1 + 1) (by omega) 3 (by omega)
      have cx := cx (by omega)
      refine ⟨(r1 : Int), ([0, 99, 100] : List Int).getD x 0, (r5 : Int), w64 ((1 : Int) + (r7 : Int)), t, p + 1 + 1 + 1 + 1 + 1 + 1 + 1, ht, by omega, by omega, fun K => ?_⟩
      rw [spec_l72Note.u, e1, e3, e5, e7]
      simp only []
      rw [et, e12]
      refine (cf (df (by omega))).trans ((ct (dt (by omega))).trans ?_)
      rw [ex]
      exact ct (by simp; omega)
    · by_cases h2 : r12 = 2
      · obtain ⟨x, ex, cx, _⟩ := spec_l6Rd_pick.tot hl hn (p + 1 + 1 + 1 + 1 + 1 + 1) (by omega) 3 (by omega)
        have cx := cx (by omega)
        refine ⟨(r1 : Int), w64 ((1 : Int) + (r3 : Int)), (r5 : Int), ([0, 999, 1000] : List Int).getD x 0, t, p + 1 + 1 + 1 + 1 + 1 + 1 + 1, ht, by omega, by omega, fun K => ?_⟩
        rw [spec_l72Note.u, e1, e3, e5, e7]
        simp only []
        rw [et, e12]
        refine (cf (df (by omega))).trans ((cf (df (by omega))).trans ((ct (dt (by omega))).trans ?_))
        rw [ex]
        exact ct (by simp; omega)
      · by_cases h3 : r12 = 3
        · obtain ⟨s, q, s1, q1, q2, hs⟩ := spec_l72Text.tot hl hn (p + 1 + 1 + 1 + 1 + 1 + 1) (by omega)
          refine ⟨(r1 : Int), w64 ((1 : Int) + (r3 : Int)), (r5 : Int), w64 ((1 : Int) + (r7 : Int)), s, q, s1, by omega, by omega, fun K => ?_⟩
          rw [spec_l72Note.u, e1, e3, e5, e7]
          simp only []
          rw [et, e12]
          refine (cf (df (by omega))).trans ((cf (df (by omega))).trans ((cf (df (by omega))).trans ((ct (dt (by omega))).trans ?_)))
          exact hs _
        · by_cases h4 : r12 = 4
          · obtain ⟨x, ex, cx, _⟩ := spec_l6Rd_pick.tot hl hn (p + 1 + 1 + 1 + 1 + 1 + 1) (by omega) 2 (by omega)
            have cx := cx (by omega)
            refine ⟨(r1 : Int), w64 ((1 : Int) + (r3 : Int)), ([(-1), 4] : List Int).getD x 0, w64 ((1 : Int) + (r7 : Int)), t, p + 1 + 1 + 1 + 1 + 1 + 1 + 1, ht, by omega, by omega, fun K => ?_⟩
            rw [spec_l72Note.u, e1, e3, e5, e7]
            simp only []
            rw [et, e12]
            refine (cf (df (by omega))).trans ((cf (df (by omega))).trans ((cf (df (by omega))).trans ((cf (df (by omega))).trans ((ct (dt (by omega))).trans ?_))))
            rw [ex]
            exact ct (by simp; omega)
          · refine ⟨(r1 : Int), w64 ((1 : Int) + (r3 : Int)), (r5 : Int), w64 ((1 : Int) + (r7 : Int)), t, p + 1 + 1 + 1 + 1 + 1 + 1, ht, by omega, by omega, fun K => ?_⟩
            rw [spec_l72Note.u, e1, e3, e5, e7]
            simp only []
            rw [et, e12]
            exact (cf (df (by omega))).trans ((cf (df (by omega))).trans ((cf (df (by omega))).trans ((cf (df (by omega))).trans (cf (df (by omega))))))
theorem spec_l72Bend.tot {l : List Int} (hl : Byt l) (hn : l.length ≤ 2000) (p : Nat) (hp : p < 600000000000) (t : ByteArray) (ht : t.size ≤ 5000) : ∃ (s : ByteArray) (q : Nat), s.size ≤ 2 * t.size + 1 ∧ p ≤ q ∧ q ≤ p + 10 ∧ ∀ {R : Type} (K : ByteArray → Int → Option R), spec_l72Bend.c 4194304 l (p : Int) t K = K s (q : Int) := by
  by_cases h0 : t.size = 0
  · refine ⟨t, p, by omega, by omega, by omega, fun K => ?_⟩
    rw [spec_l72Bend.u]
    exact ct (dt (by omega))
  · obtain ⟨r1, e1, _, _⟩ := spec_l6Rd_pick.tot hl hn p (by omega) 2 (by omega)
    by_cases h1 : r1 = 0
    · refine ⟨t, p + 1, by omega, by omega, by omega, fun K => ?_⟩
      rw [spec_l72Bend.u]
      refine (cf (df (by omega))).trans ?_
      rw [e1]
      exact ct (dt (by omega))
    · obtain ⟨i, e3, c3, _⟩ := spec_l6Rd_pick.tot hl hn (p + 1) (by omega) (t.size : Int) (by omega)
      have c3 := c3 (by omega)
      have hi : i < t.size := by omega
      obtain ⟨r5, e5, _, _⟩ := spec_l6Rd_pick.tot hl hn (p + 1 + 1) (by omega) 5 (by omega)
      have w1 : w64 ((i : Int) + 1) = ((i + 1 : Nat) : Int) := w64_p1 i (by omega)
      have x1 : (t.extract 0 i).size = i := by rw [← tx_length, tx_extract0, List.length_take, tx_length]; omega
      have x2 : (t.extract (i + 1) t.size).size = t.size - (i + 1) := by rw [← tx_length, tx_extractEnd, List.length_drop, tx_length]
      have x3 : (t.extract i t.size).size = t.size - i := by rw [← tx_length, tx_extractEnd, List.length_drop, tx_length]
      have start : ∀ {R : Type} (K : ByteArray → Int → Option R) (o : Option R) (X : Option R), (spec_l72Bend.c 4194304 l (p : Int) t K = X) → X = o → spec_l72Bend.c 4194304 l (p : Int) t K = o := fun K o X a b => a.trans b
      by_cases g0 : r5 = 0
      · refine ⟨t.extract 0 i ++ t.extract (i + 1) t.size, p + 1 + 1 + 1, by simp only [sz_append]; omega, by omega, by omega, fun K => ?_⟩
        rw [spec_l72Bend.u]
        refine (cf (df (by omega))).trans ?_
        rw [e1]
        refine (cf (df (by omega))).trans ?_
        rw [e3, e5]
        refine (ct (dt (by omega))).trans ?_
        simp only [w1, Int.toNat_natCast]
        refine (ct (by simp; omega)).trans ((ct (by simp; omega)).trans ?_)
        exact ct (dt (by omega))
      · by_cases g1 : r5 = 1
        · obtain ⟨s, s1, hs⟩ := spec_l6Rd_of.tot hl hn (p + 1 + 1 + 1) (by omega) [(ByteArray.mk #[32]), (ByteArray.mk #[48]), (ByteArray.mk #[45]), (ByteArray.mk #[49]), (ByteArray.mk #[120]), (ByteArray.mk #[58]), (ByteArray.mk #[59])] (by simp) (by simp)
          have hs1 : s.size = 1 := by
            simp only [List.mem_cons, List.not_mem_nil, or_false] at s1
            rcases s1 with h | h | h | h | h | h | h <;> rw [h] <;> rfl
          refine ⟨t.extract 0 i ++ s ++ t.extract i t.size, p + 1 + 1 + 1 + 1, by simp only [sz_append]; omega, by omega, by omega, fun K => ?_⟩
          rw [spec_l72Bend.u]
          refine (cf (df (by omega))).trans ?_
          rw [e1]
          refine (cf (df (by omega))).trans ?_
          rw [e3, e5]
          refine (cf (df (by omega))).trans ((ct (dt (by omega))).trans ?_)
          simp only [Int.toNat_natCast]
          refine (ct (by simp; omega)).trans ?_
          rw [hs]
          refine (ct (dt (by omega))).trans ((ct (by simp; omega)).trans ?_)
          exact ct (dt (by simp only [sz_append]; omega))
        · by_cases g2 : r5 = 2
          · obtain ⟨s, s1, hs⟩ := spec_l6Rd_of.tot hl hn (p + 1 + 1 + 1) (by omega) [(ByteArray.mk #[57]), (ByteArray.mk #[45]), (ByteArray.mk #[59]), (ByteArray.mk #[32]), (ByteArray.mk #[10])] (by simp) (by simp)
            have hs1 : s.size = 1 := by
              simp only [List.mem_cons, List.not_mem_nil, or_false] at s1
              rcases s1 with h | h | h | h | h <;> rw [h] <;> rfl
            refine ⟨t.extract 0 i ++ s ++ t.extract (i + 1) t.size, p + 1 + 1 + 1 + 1, by simp only [sz_append]; omega, by omega, by omega, fun K => ?_⟩
            rw [spec_l72Bend.u]
            refine (cf (df (by omega))).trans ?_
            rw [e1]
            refine (cf (df (by omega))).trans ?_
            rw [e3, e5]
            refine (cf (df (by omega))).trans ((cf (df (by omega))).trans ((ct (dt (by omega))).trans ?_))
            simp only [w1, Int.toNat_natCast]
            refine (ct (by simp; omega)).trans ?_
            rw [hs]
            refine (ct (dt (by omega))).trans ((ct (by simp; omega)).trans ?_)
            exact ct (dt (by simp only [sz_append]; omega))
          · by_cases g3 : r5 = 3
            · refine ⟨t ++ t, p + 1 + 1 + 1, by simp only [sz_append]; omega, by omega, by omega, fun K => ?_⟩
              rw [spec_l72Bend.u]
              refine (cf (df (by omega))).trans ?_
              rw [e1]
              refine (cf (df (by omega))).trans ?_
              rw [e3, e5]
              refine (cf (df (by omega))).trans ((cf (df (by omega))).trans ((cf (df (by omega))).trans ((ct (dt (by omega))).trans ?_)))
              exact ct (dt (by omega))
            · refine ⟨t.extract 0 i, p + 1 + 1 + 1, by omega, by omega, by omega, fun K => ?_⟩
              rw [spec_l72Bend.u]
              refine (cf (df (by omega))).trans ?_
              rw [e1]
              refine (cf (df (by omega))).trans ?_
              rw [e3, e5]
              refine (cf (df (by omega))).trans ((cf (df (by omega))).trans ((cf (df (by omega))).trans ((cf (df (by omega))).trans ?_)))
              simp only [Int.toNat_natCast]
              exact ct (by simp; omega)
theorem nwB_size (a b c d : Int) (t : ByteArray) : (nwB a b c d t).size ≤ 35 := by
  unfold nwB
  cases ho : ntOk a b c d t with
  | false => show (0 : Nat) ≤ 35; omega
  | true => rw [cond_true, ba_size]; exact ntL_length ho
theorem spec_DrawNoteRead.tot {l : List Int} (h : Byt l) : ∃ (s : ByteArray), s.size ≤ 100 ∧ ∀ {R : Type} (K : ByteArray → Option R), spec_DrawNoteRead.c 4194304 l K = K s := by
  obtain ⟨l', hl, hn, ho⟩ := spec_l6Open.val h
  obtain ⟨a, b, c, d, t, q, t1, q1, q2, ht⟩ := spec_l72Note.tot hl hn 0 (by omega)
  have hz := nwB_size a b c d t
  obtain ⟨s, q', s1, _, _, hs⟩ := spec_l72Bend.tot hl hn q (by omega) (nwB a b c d t) (by omega)
  refine ⟨s, by omega, fun K => ?_⟩
  rw [spec_DrawNoteRead.u, ho, ht, spec_NoteWrite.val, hs]
theorem laws_FnNoteStrict.law {R : Type} (l : List Int) (h : Byt l) (K : Bool → Option R) : laws_FnNoteStrict.c 4194304 l K = K true := by
  rw [laws_FnNoteStrict.u]
  by_cases h0 : 1048576 < l.length
  · exact ct (dt (by omega))
  · refine (cf (df (by omega))).trans ?_
    obtain ⟨s, s1, es⟩ := spec_DrawNoteRead.tot h
    rw [es, spec_NoteRead.val s (by omega), impl_NoteRead.val s (by omega), implR_eq]
    refine (cf (by simp)).trans ((cf (by simp)).trans ?_)
    rcases specR_cases s with g | ⟨a, b, c, d, t, g, ho, hs⟩
    · rw [g]
      exact (ct rfl).trans (ct (by simp [noN]))
    · rw [g]
      have ht := (ntOk_some ho).2.2.2.2.1
      refine (cf rfl).trans ((ct rfl).trans ?_)
      rw [impl_NoteOk.val _ _ _ _ _ (by dsimp only; omega), ho]
      refine (ct rfl).trans ?_
      rw [impl_NoteWrite.val _ _ _ _ _ (by dsimp only; omega)]
      refine congrArg K (dt ?_)
      unfold nwB
      rw [ho, cond_true, hs]
end Go.Ev.F
