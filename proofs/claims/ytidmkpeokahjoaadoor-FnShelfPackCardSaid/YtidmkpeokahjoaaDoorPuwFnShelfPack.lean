/- What the Go functions compute, told in plain words. No condition beyond those that stand in each. -/
import Derived.Test.YtidmkpeokahjoaaDoorEvuFnShelfPack
import Derived.Test.YtidmkpeokahjoaaDoorPur
import Derived.Test.YtidmkpeokahjoaaDoorPum
import Derived.Test.YtidmkpeokahjoaaDoorPus
namespace Go.Ev.F
set_option linter.unusedVariables false
set_option linter.unusedSimpArgs false
theorem spec_l6In.val {R : Type} (k : Nat) (a b c : Int) (K : Bool → Option R) : spec_l6In.c k a b c K = K (inB a b c) := by
  rw [spec_l6In.u]
  unfold inB
  by_cases h : b ≤ a <;> simp [h]
theorem spec_l6Dec.small {R : Type} (n k : Nat) (h : n < 10) (K : ByteArray → Option R) : spec_l6Dec.c (k + 1) (n : Int) K = K (ba (decL n)) := by
  rw [spec_l6Dec.u]
  refine (cf (df (by omega))).trans ((cf (df (by omega))).trans ((ct (dt (by omega))).trans ?_))
  have e : w64 ((48 : Int) + (n : Int)) = ((48 + n : Nat) : Int) := (w64_id (x := 48 + (n : Int)) (by omega) (by omega)).trans (by omega)
  simp only [e]
  rw [ofBytes_one _ (by omega), decL_lt h]
  rfl
theorem spec_l6Dec.deep (d : Nat) : ∀ (n k : Nat), n < 10 ^ (d + 1) → d < k → n < 9223372036854775808 → ∀ {R : Type} (K : ByteArray → Option R), spec_l6Dec.c k (n : Int) K = K (ba (decL n)) := by
  induction d with
  | zero =>
    intro n k h hk _ R K
    obtain ⟨k, rfl⟩ := Nat.exists_eq_succ_of_ne_zero (n := k) (by omega)
    exact spec_l6Dec.small n k (by omega) K
  | succ d ih =>
    intro n k h hk hn R K
    obtain ⟨k, rfl⟩ := Nat.exists_eq_succ_of_ne_zero (n := k) (by omega)
    by_cases h10 : n < 10
    · exact spec_l6Dec.small n k h10 K
    · have hq : n / 10 < 10 ^ (d + 1) := by
        rw [Nat.pow_succ] at h
        exact Nat.div_lt_of_lt_mul (by rw [Nat.mul_comm]; exact h)
      have e1 : w64 (Int.tdiv (n : Int) 10) = ((n / 10 : Nat) : Int) := by
        have := tdivN n 10
        rw [show ((10 : Nat) : Int) = 10 from rfl] at this
        rw [this]; exact w64_nat _ (by omega)
      have e2 : w64 ((48 : Int) + Int.tmod (n : Int) 10) = ((48 + n % 10 : Nat) : Int) := by
        have := tmodN n 10
        rw [show ((10 : Nat) : Int) = 10 from rfl] at this
        rw [this, w64_id (by omega) (by omega)]
        omega
      have hs : (decL (n / 10)).length ≤ 19 := decL_length (d := 18) (by omega)
      rw [spec_l6Dec.u]
      refine (cf (df (by omega))).trans ((cf (df (by omega))).trans ((cf (df (by omega))).trans ((ct rfl).trans ?_)))
      rw [e1, ih (n / 10) k hq (by omega) (by omega)]
      refine (ct rfl).trans ?_
      simp only [e2]
      refine (ct (dt (by rw [ba_size, ofBytes_size]; simp only [List.length_singleton]; omega))).trans ?_
      rw [ofBytes_one _ (by omega), ba_append, decL_ge h10]
      rfl
theorem spec_l6Dec.val {R : Type} (n : Nat) (hn : n < 9223372036854775808) (K : ByteArray → Option R) : spec_l6Dec.c 4194304 (n : Int) K = K (ba (decL n)) := spec_l6Dec.deep 18 n 4194304 (by omega) (by omega) hn K
theorem spec_l3Dec.l4r_val {R : Type} (t : ByteArray) (ht : t.size ≤ 4) (x0 q : Int → Option R) : ∀ (d i n : Nat), i + d = t.size → d < n → (∀ c ∈ (tx t).take i, isDig c = true) →
    spec_l3Dec.l4r (spec_l3Dec.g 4194304) 4194304 t x0 q n ((valL ((tx t).take i) : Nat) : Int) (i : Int) = cond ((tx t).all isDig) (x0 ((valL (tx t) : Nat) : Int)) (q (-1)) := by
  have hl := tx_length t
  intro d
  induction d with
  | zero =>
    intro i n h1 h2 hd
    obtain ⟨n, rfl⟩ := Nat.exists_eq_succ_of_ne_zero (n := n) (by omega)
    rw [List.take_of_length_le (by omega)] at hd ⊢
    rw [spec_l3Dec.l4r_u, List.all_eq_true.2 hd]
    exact cf (df (by omega))
  | succ d ih =>
    intro i n h1 h2 hd
    obtain ⟨n, rfl⟩ := Nat.exists_eq_succ_of_ne_zero (n := n) (by omega)
    have hi : i < t.size := by omega
    have hlt : i < (tx t).length := by omega
    have hno : isDig (tx t)[i] = false → (tx t).all isDig = false := fun hb => by
      rw [List.all_eq_false]
      exact ⟨_, List.getElem_mem hlt, by rw [hb]; simp⟩
    rw [spec_l3Dec.l4r_u, Int.toNat_natCast, byteAt_tx, getD_at hlt, w64_p1 i (by omega)]
    refine (ct (dt (by omega))).trans ((ct (gd hi)).trans ?_)
    by_cases c1 : (((tx t)[i].toNat : Nat) : Int) < 48
    · refine (ct (dt c1)).trans ?_
      rw [hno (by simp [isDig]; omega), cond_false]
    · refine (cf (df c1)).trans ((ct (gd hi)).trans ?_)
      by_cases c2 : (57 : Int) < (((tx t)[i].toNat : Nat) : Int)
      · refine (ct (dt c2)).trans ?_
        rw [hno (by simp [isDig]; omega), cond_false]
      · refine (cf (df c2)).trans ((ct (gd hi)).trans ?_)
        have ht1 : (tx t).take (i + 1) = (tx t).take i ++ [(tx t)[i]] := by rw [List.take_add_one, List.getElem?_eq_getElem hlt]; rfl
        have hv : valL ((tx t).take i) < 10000 := valL_small hd (by rw [List.length_take]; omega)
        have e1 : w64 (w64 (((valL ((tx t).take i) : Nat) : Int) * 10) + w64 (w8 ((((tx t)[i].toNat : Nat) : Int) - 48))) = ((valL ((tx t).take (i + 1)) : Nat) : Int) := by
          rw [ht1, valL_snoc]
          generalize valL ((tx t).take i) = v at hv
          generalize (tx t)[i].toNat = c at c1 c2
          rw [w8_id (x := (c : Int) - 48) (by omega) (by omega), w64_id (x := (c : Int) - 48) (by omega) (by omega), w64_id (x := (v : Int) * 10) (by omega) (by omega), w64_id (by omega) (by omega)]
          omega
        simp only [e1]
        refine ih (i + 1) n (by omega) (by omega) ?_
        rw [ht1]
        intro c hc
        rcases List.mem_append.1 hc with hc | hc
        · exact hd c hc
        · rw [List.mem_singleton] at hc
          subst hc
          simp [isDig]; omega
theorem spec_l3Dec.val {R : Type} (t : ByteArray) (K : Int → Option R) : spec_l3Dec.c 4194304 t K = K (resNum (numL 4 (tx t))) := by
  have hl := tx_length t
  rw [spec_l3Dec.u]
  by_cases h0 : (t.size : Int) < 1
  · refine (ct (dt h0)).trans ?_
    rw [List.eq_nil_of_length_eq_zero (show (tx t).length = 0 by omega), numL_nil]
    rfl
  · refine (cf (df h0)).trans ?_
    by_cases h4 : (4 : Int) < (t.size : Int)
    · refine (ct (dt h4)).trans ?_
      unfold numL
      rw [if_neg (by omega)]
      rfl
    · refine (cf (df h4)).trans ?_
      refine (spec_l3Dec.l4r_val t (by omega) _ _ t.size 0 4194304 (by omega) (by omega) (by simp)).trans ?_
      cases hd : (tx t).all isDig with
      | false =>
        refine (cf rfl).trans ?_
        unfold numL
        rw [if_neg (fun h => by rw [hd] at h; cases h.2.1)]
        rfl
      | true =>
        refine (ct rfl).trans ?_
        have hv : valL (tx t) < 10000 := valL_small (List.all_eq_true.1 hd) (by omega)
        rw [spec_l6Dec.val _ (by omega)]
        by_cases h : decL (valL (tx t)) = tx t
        · refine (cf (by rw [dt (show ba (decL (valL (tx t))) = t by rw [h, ba_tx])]; rfl)).trans ?_
          unfold numL
          rw [if_pos ⟨by omega, hd, h⟩]
          rfl
        · refine (ct (by rw [df (fun e => h (by rw [← tx_ba (decL (valL (tx t))), e]))]; rfl)).trans ?_
          unfold numL
          rw [if_neg (fun h' => h h'.2.2)]
          rfl
theorem spec_l11One.l4r_val {R : Type} (t : ByteArray) (ht : t.size < 4611686018427387904) (K : ByteArray → Int → Option R) : ∀ (d i n : Nat), 3 - i = d → i ≤ 3 → i ≤ col (tx t) → d < n →
    spec_l11One.l4r (spec_l11One.g 4194304) 4194304 t (K (ByteArray.mk #[]) 0) (fun v w => K v w) n (i : Int) = K (resOne (oneL (tx t))).1 (resOne (oneL (tx t))).2 := by
  have hl := tx_length t
  have fin : ∀ i, ¬ (i < t.size ∧ i < 3) → i ≤ col (tx t) → K (ByteArray.mk #[]) 0 = K (resOne (oneL (tx t))).1 (resOne (oneL (tx t))).2 := by
    intro i h hc
    unfold oneL
    rw [if_neg (by omega)]
    rfl
  intro d
  induction d with
  | zero =>
    intro i n hi h3 hc hn
    obtain ⟨n, rfl⟩ := Nat.exists_eq_succ_of_ne_zero (n := n) (by omega)
    rw [spec_l11One.l4r_u]
    by_cases h : (i : Int) < (t.size : Int)
    · exact (ct (dt h)).trans ((cf (df (by omega))).trans (fin i (by omega) hc))
    · exact (cf (df h)).trans (fin i (by omega) hc)
  | succ d ih =>
    intro i n hi h3 hc hn
    obtain ⟨n, rfl⟩ := Nat.exists_eq_succ_of_ne_zero (n := n) (by omega)
    rw [spec_l11One.l4r_u, Int.toNat_natCast, byteAt_tx]
    by_cases h : (i : Int) < (t.size : Int)
    · refine (ct (dt h)).trans ((ct (dt (by omega))).trans ((ct (gd (by omega))).trans ?_))
      by_cases h58 : (tx t).getD i 0 = 58
      · refine (cf (by rw [h58]; rfl)).trans ((ct (by simp; omega)).trans ?_)
        have hcol := col_eq hc (by omega) h58
        have ho : oneL (tx t) = oneAt (tx t) i := by unfold oneL; rw [hcol, if_pos (by omega)]
        rw [spec_l3Dec.val, tx_extract0, ho]
        unfold oneAt
        cases hm : numL 4 ((tx t).take i) with
        | none => exact ct rfl
        | some m =>
          have hnb : m < 10000 := by
            obtain ⟨e1, e2⟩ := numL_some.1 hm
            have h3 := valL_small (decL_dig m) (by rw [← e1]; exact e2)
            rw [valL_dec] at h3
            exact h3
          simp only [resNum]
          have w2 : w64 ((i : Int) + 1) = ((i + 1 : Nat) : Int) := w64_p1 i (by omega)
          have w1 : w64 ((i : Int) + 2) = ((i + 2 : Nat) : Int) := w64_p2 i (by omega)
          have w3 : w64 (((i + 2 : Nat) : Int) + (m : Int)) = ((i + 2 + m : Nat) : Int) := w64_pn _ _ (by omega)
          have w4 : w64 (((i + 1 : Nat) : Int) + (m : Int)) = ((i + 1 + m : Nat) : Int) := w64_pn _ _ (by omega)
          simp only [w1, w2, w3, w4, Int.toNat_natCast]
          by_cases c1 : (m : Int) < 1
          · refine (ct (dt c1)).trans ?_
            rw [if_neg (by omega)]; rfl
          · refine (cf (df c1)).trans ?_
            by_cases c2 : (60 : Int) < (m : Int)
            · refine (ct (dt c2)).trans ?_
              rw [if_neg (by omega)]; rfl
            · refine (cf (df c2)).trans ?_
              by_cases c3 : (t.size : Int) < ((i + 2 + m : Nat) : Int)
              · refine (ct (dt c3)).trans ?_
                rw [if_neg (by omega)]; rfl
              · refine (cf (df c3)).trans ((ct (gd (by omega))).trans ?_)
                rw [byteAt_tx]
                by_cases c4 : (tx t).getD (i + 1 + m) 0 = 59
                · refine (cf (by rw [c4]; rfl)).trans ((ct (by simp; omega)).trans ?_)
                  rw [if_pos ⟨by omega, by omega, by omega, c4⟩]
                  simp only [resOne]
                  congr 1
                  apply tx_inj
                  rw [tx_extract, tx_ba]
                  congr 1
                  omega
                · refine (ct ?_).trans ?_
                  · rw [df (fun h => c4 (UInt8.toNat_inj.1 (by have h0 : (59 : UInt8).toNat = 59 := rfl; omega)))]; rfl
                  · rw [if_neg (fun h => c4 h.2.2.2)]; rfl
      · refine (ct ?_).trans ?_
        · rw [df (fun h => h58 (UInt8.toNat_inj.1 (by have h0 : (58 : UInt8).toNat = 58 := rfl; omega)))]; rfl
        · rw [w64_p1 i (by omega)]
          exact ih (i + 1) n (by omega) (by omega) (col_lt hc (by omega) h58) (by omega)
    · exact (cf (df h)).trans (fin i (by omega) hc)
theorem spec_l11One.val {R : Type} (t : ByteArray) (ht : t.size < 4611686018427387904) (K : ByteArray → Int → Option R) : spec_l11One.c 4194304 t K = K (resOne (oneL (tx t))).1 (resOne (oneL (tx t))).2 := by
  rw [spec_l11One.u]
  exact spec_l11One.l4r_val t ht K 3 0 4194304 rfl (by omega) (by omega) (by omega)
theorem spec_ShelfRead.l3r_val {R : Type} (t : ByteArray) (ht : t.size ≤ 2097152) (x : Int → List ByteArray → Option R) (d : Nat) : ∀ i, t.size - i = d → i ≤ t.size → ∀ (n : Nat) (acc : List ByteArray), 4 * acc.length ≤ i → d < n →
    spec_ShelfRead.l3r (spec_ShelfRead.g 4194304) 4194304 t x x n (i : Int) acc = x ((i + (readL ((tx t).drop i)).2 : Nat) : Int) (acc ++ (readL ((tx t).drop i)).1.map ba) := by
  have hl := tx_length t
  induction d using Nat.strongRecOn with
  | ind d ih =>
    intro i hi hi2 n acc ha hn
    obtain ⟨n, rfl⟩ := Nat.exists_eq_succ_of_ne_zero (n := n) (by omega)
    rw [spec_ShelfRead.l3r_u, Int.toNat_natCast]
    by_cases h : (i : Int) < (t.size : Int)
    · refine (ct (dt h)).trans ((ct (by simp; omega)).trans ?_)
      rw [spec_l11One.val _ (by rw [← tx_length, tx_extractEnd, List.length_drop]; omega), tx_extractEnd]
      cases ho : oneL ((tx t).drop i) with
      | none =>
        refine (ct rfl).trans ?_
        rw [readL_none ho]
        simp
      | some p =>
        obtain ⟨r, m⟩ := p
        obtain ⟨k1, k2⟩ := oneL_len ho
        rw [List.length_drop] at k2
        refine (cf (df (by simp [resOne]; omega))).trans ((ct (lim_le (by simp; omega))).trans ?_)
        have e1 : w64 ((i : Int) + (resOne (some (r, m))).2) = ((i + m : Nat) : Int) := w64_pn i m (by omega)
        rw [e1, ih (t.size - (i + m)) (by omega) (i + m) rfl (by omega) n _ (by simp; omega) (by omega), readL_some ho, List.drop_drop]
        simp only [resOne, List.map_cons, List.append_assoc, List.singleton_append]
        congr 2
        omega
    · refine (cf (df h)).trans ?_
      rw [List.drop_eq_nil_of_le (by omega), readL_none (l := []) (by decide)]
      simp
theorem spec_ShelfRead.val {R : Type} (t : ByteArray) (ht : t.size ≤ 2097152) (K : List ByteArray → Int → Option R) : spec_ShelfRead.c 4194304 t K = K (resLog (readL (tx t))).1 (resLog (readL (tx t))).2 := by
  rw [spec_ShelfRead.u]
  refine (spec_ShelfRead.l3r_val t ht (fun v w => K w v) t.size 0 (by omega) (by omega) 4194304 [] (by simp) (by omega)).trans ?_
  simp [resLog]
theorem spec_ShelfOk.val {R : Type} (t : ByteArray) (f : Int) (K : Bool → Option R) : spec_ShelfOk.c 4194304 t f K = K (okL t f) := by
  rw [spec_ShelfOk.u]
  by_cases h : (2400 : Int) < (t.size : Int)
  · refine (ct (dt h)).trans ?_
    unfold okL
    rw [df (show ¬ t.size ≤ 2400 by omega)]
    rfl
  · refine (cf (df h)).trans ?_
    rw [spec_l6In.val]
    by_cases h2 : 0 ≤ f ∧ f ≤ (t.size : Int)
    · obtain ⟨i, rfl⟩ := Int.eq_ofNat_of_zero_le h2.1
      have hi := inB_yes h2.1 h2.2
      rw [hi]
      refine (cf rfl).trans ?_
      rw [spec_ShelfRead.val t (by omega)]
      refine (ct (by simp; omega)).trans ?_
      rw [Int.toNat_natCast, spec_ShelfRead.val _ (by rw [← tx_length, tx_extract0, List.length_take, tx_length]; omega), tx_extract0]
      unfold okL
      rw [hi, dt (show t.size ≤ 2400 by omega), Int.toNat_natCast]
      show cond (decide (((readL (tx t)).2 : Int) = (t.size : Int))) (K (decide (((readL ((tx t).take i)).2 : Int) = (i : Int)))) (K false) = K (true && true && (decide ((readL (tx t)).2 = t.size) && decide (((readL ((tx t).take i)).2 : Int) = (i : Int))))
      by_cases h3 : (readL (tx t)).2 = t.size
      · refine (ct (dt (by omega))).trans ?_
        rw [dt h3, Bool.true_and, Bool.true_and, Bool.true_and]
      · refine (cf (df (by omega))).trans ?_
        rw [df h3, Bool.false_and, Bool.and_false]
    · rw [inB_no h2]
      refine (ct rfl).trans ?_
      unfold okL
      rw [inB_no h2, Bool.and_false, Bool.false_and]
theorem spec_l11RecOk.val {R : Type} (t : ByteArray) (K : Bool → Option R) : spec_l11RecOk.c 4194304 t K = K (inB (t.size : Int) 1 60) := by
  rw [spec_l11RecOk.u, spec_l6In.val]
theorem spec_l11Rec.val {R : Type} (t : ByteArray) (ht : t.size ≤ 1099511627776) (K : ByteArray → Option R) : spec_l11Rec.c 4194304 t K = K (ba (recL (tx t))) := by
  have hs : (ByteArray.mk #[58]).size = 1 := rfl
  have hs' : (ByteArray.mk #[59]).size = 1 := rfl
  have hd := decL_length (n := t.size) (d := 18) (by omega)
  have hb := ba_size (decL t.size)
  rw [spec_l11Rec.u, spec_l6Dec.val _ (by omega)]
  refine (ct (dt (by omega))).trans ((ct (dt (by simp only [sz_append]; omega))).trans ((ct (dt (by simp only [sz_append]; omega))).trans ?_))
  refine congrArg K ?_
  apply tx_inj
  rw [tx_append, tx_append, tx_append, tx_ba, tx_ba, recL, tx_length]
  rfl
theorem spec_ShelfPack.l4r_val {R : Type} (rs : List ByteArray) (hl : rs.length ≤ 2097152) (t : ByteArray) (f : Int) (u : ByteArray) (v : Int) (x0 : ByteArray → Option R) (q : Bool → Option R) : ∀ (d i n : Nat) (acc : ByteArray), i + d = rs.length → d < n → acc.size + 100 * d ≤ 1099511627776 →
    spec_ShelfPack.l4r (spec_ShelfPack.g 4194304) 4194304 rs t f u v x0 q n acc (i : Int) = cond ((rs.drop i).all recOk60) (x0 (acc ++ logB (rs.drop i))) (q false) := by
  intro d
  induction d with
  | zero =>
    intro i n acc h1 h2 h3
    obtain ⟨n, rfl⟩ := Nat.exists_eq_succ_of_ne_zero (n := n) (by omega)
    rw [spec_ShelfPack.l4r_u, List.drop_eq_nil_of_le (by omega), logB_nil, ap_nil]
    exact cf (df (by omega))
  | succ d ih =>
    intro i n acc h1 h2 h3
    obtain ⟨n, rfl⟩ := Nat.exists_eq_succ_of_ne_zero (n := n) (by omega)
    have hi : i < rs.length := by omega
    rw [spec_ShelfPack.l4r_u, Int.toNat_natCast, getD_at hi, w64_p1 i (by omega)]
    refine (ct (dt (by omega))).trans ((ct (gd hi)).trans ?_)
    rw [spec_l11RecOk.val, List.drop_eq_getElem_cons hi, List.all_cons, logB_cons]
    show cond (!recOk60 rs[i]) _ _ = _
    cases ho : recOk60 rs[i] with
    | false => exact ct rfl
    | true =>
      have hz := recL_small ho
      refine (cf rfl).trans ((ct (gd hi)).trans ?_)
      rw [spec_l11Rec.val _ (by have := inB_iff.1 ho; omega)]
      refine (ct (dt (by omega))).trans ?_
      rw [ih (i + 1) n _ (by omega) (by omega) (by rw [sz_append]; omega), Bool.true_and, ap_assoc]
theorem spec_ShelfPack.val {R : Type} (t : ByteArray) (f : Int) (rs : List ByteArray) (hl : rs.length ≤ 2097152) (K : ByteArray → Int → Bool → Option R) : spec_ShelfPack.c 4194304 t f rs K = K (packL t f rs).1 (packL t f rs).2.1 (packL t f rs).2.2 := by
  rw [spec_ShelfPack.u, spec_ShelfOk.val]
  unfold packL
  cases ho : okL t f with
  | false => exact ct rfl
  | true =>
    refine (cf rfl).trans ?_
    refine (spec_ShelfPack.l4r_val rs hl t f _ _ _ _ rs.length 0 4194304 (ByteArray.mk #[]) (by omega) (by omega) (by have : (ByteArray.mk #[]).size = 0 := rfl; omega)).trans ?_
    rw [List.drop_zero, show ByteArray.mk #[] ++ logB rs = logB rs from by apply tx_inj; rw [tx_append]; rfl]
    cases rs.all recOk60 with
    | false => rfl
    | true =>
      refine (ct rfl).trans ?_
      by_cases h : 2400 < (logB rs).size
      · refine (ct (dt (by omega))).trans ?_
        rw [dt h]
        rfl
      · refine (cf (df (by omega))).trans ?_
        rw [df h]
        rfl
theorem impl_in.val {R : Type} (k : Nat) (a b c : Int) (K : Bool → Option R) : impl_in.c k a b c K = K (inB a b c) := by
  rw [impl_in.u]
  unfold inB
  by_cases h : b ≤ a <;> simp [h]
theorem impl_natural.l5r_val {R : Type} (t : ByteArray) (ht : t.size ≤ 5) (x0 : Int → Option R) (q : Int → Bool → Option R) : ∀ (d i n : Nat), i + d = t.size → d < n → (∀ c ∈ (tx t).take i, isDig c = true) →
    impl_natural.l5r (impl_natural.g 4194304) 4194304 t x0 q n ((valL ((tx t).take i) : Nat) : Int) (i : Int) = cond ((tx t).all isDig) (x0 ((valL (tx t) : Nat) : Int)) (q 0 false) := by
  have hl := tx_length t
  intro d
  induction d with
  | zero =>
    intro i n h1 h2 hd
    obtain ⟨n, rfl⟩ := Nat.exists_eq_succ_of_ne_zero (n := n) (by omega)
    rw [List.take_of_length_le (by omega)] at hd ⊢
    rw [impl_natural.l5r_u, List.all_eq_true.2 hd]
    exact cf (df (by omega))
  | succ d ih =>
    intro i n h1 h2 hd
    obtain ⟨n, rfl⟩ := Nat.exists_eq_succ_of_ne_zero (n := n) (by omega)
    have hi : i < t.size := by omega
    have hlt : i < (tx t).length := by omega
    have hno : isDig (tx t)[i] = false → (tx t).all isDig = false := fun hb => by
      rw [List.all_eq_false]
      exact ⟨_, List.getElem_mem hlt, by rw [hb]; simp⟩
    have hby := (tx t)[i].toNat_lt
    rw [impl_natural.l5r_u, Int.toNat_natCast, byteAt_tx, getD_at hlt, w64_p1 i (by omega), w64_nat _ (by omega)]
    refine (ct (dt (by omega))).trans ((ct (gd hi)).trans ?_)
    rw [impl_in.val]
    by_cases c1 : (48 : Int) ≤ (((tx t)[i].toNat : Nat) : Int) ∧ (((tx t)[i].toNat : Nat) : Int) ≤ 57
    · rw [inB_yes c1.1 c1.2]
      refine (cf rfl).trans ((ct (gd hi)).trans ?_)
      have ht1 : (tx t).take (i + 1) = (tx t).take i ++ [(tx t)[i]] := by rw [List.take_add_one, List.getElem?_eq_getElem hlt]; rfl
      have hv : valL ((tx t).take i) < 100000 := by
        have := valL_lt hd
        have h5 : ((tx t).take i).length ≤ 5 := by rw [List.length_take]; omega
        exact Nat.lt_of_lt_of_le this (Nat.pow_le_pow_right (by omega) h5)
      have e1 : w64 (w64 ((10 : Int) * ((valL ((tx t).take i) : Nat) : Int)) + w64 (w8 ((((tx t)[i].toNat : Nat) : Int) - 48))) = ((valL ((tx t).take (i + 1)) : Nat) : Int) := by
        rw [ht1, valL_snoc]
        generalize valL ((tx t).take i) = v at hv
        generalize (tx t)[i].toNat = c at c1
        rw [w8_id (x := (c : Int) - 48) (by omega) (by omega), w64_id (x := (c : Int) - 48) (by omega) (by omega), w64_id (x := 10 * (v : Int)) (by omega) (by omega), w64_id (by omega) (by omega)]
        omega
      simp only [e1]
      refine ih (i + 1) n (by omega) (by omega) ?_
      rw [ht1]
      intro c hc
      rcases List.mem_append.1 hc with hc | hc
      · exact hd c hc
      · rw [List.mem_singleton] at hc
        subst hc
        simp [isDig]; omega
    · rw [inB_no c1]
      refine (ct rfl).trans ?_
      rw [hno (by simp [isDig]; omega), cond_false]
theorem impl_natural.val {R : Type} (t : ByteArray) (K : Int → Bool → Option R) : impl_natural.c 4194304 t K = K (resNat (numL 5 (tx t))).1 (resNat (numL 5 (tx t))).2 := by
  have hl := tx_length t
  have run : (1 ≤ t.size ∧ t.size ≤ 5) → (t.size = 1 ∨ (tx t).headD 0 ≠ 48) → impl_natural.c10 (impl_natural.g 4194304) 4194304 t (fun v w => K v w) = K (resNat (numL 5 (tx t))).1 (resNat (numL 5 (tx t))).2 := by
    intro hs hh
    rw [impl_natural.c10_u]
    refine (impl_natural.l5r_val t hs.2 (fun v => K v true) (fun v w => K v w) t.size 0 4194304 (by omega) (by omega) (by simp)).trans ?_
    cases hd : (tx t).all isDig with
    | false =>
      rw [numL_nodig hd]
      rfl
    | true =>
      have hne : tx t ≠ [] := fun e => by rw [e] at hl; simp at hl; omega
      have : numL 5 (tx t) = some (valL (tx t)) := by
        unfold numL
        rw [if_pos ⟨by omega, hd, (canon_iff (List.all_eq_true.1 hd)).2 ⟨hne, hh.imp (fun h => by omega) id⟩⟩]
      rw [this]
      rfl
  rw [impl_natural.u, impl_in.val]
  by_cases h : 1 ≤ (t.size : Int) ∧ (t.size : Int) ≤ 5
  · rw [inB_yes h.1 h.2]
    refine (cf rfl).trans ((ct (by simp; omega)).trans ?_)
    have hh : (tx t).getD 0 0 = (tx t).headD 0 := by cases tx t <;> rfl
    rw [byteAt_tx, hh]
    by_cases h48 : (tx t).headD 0 = 48
    · refine (ct (by rw [h48]; rfl)).trans ?_
      by_cases h1 : t.size = 1
      · exact (cf (df (by omega))).trans (run (by omega) (.inl h1))
      · refine (ct (dt (by omega))).trans ?_
        rw [show numL 5 (tx t) = none from ?_]
        · rfl
        · unfold numL
          rw [if_neg]
          rintro ⟨_, h2, h3⟩
          rw [List.all_eq_true] at h2
          rcases ((canon_iff h2).1 h3).2 with h4 | h4
          · omega
          · exact h4 h48
    · refine (cf (df (fun hx => h48 (UInt8.toNat_inj.1 (by have h0 : (48 : UInt8).toNat = 48 := rfl; omega))))).trans (run (by omega) (.inr h48))
  · rw [inB_no h]
    refine (ct rfl).trans ?_
    rw [show numL 5 (tx t) = none from ?_]
    · rfl
    · by_cases h0 : tx t = []
      · rw [h0]; exact numL_nil 5
      · have := List.length_pos_iff.2 h0
        exact numL_long (by omega)
theorem impl_copied_string.val {R : Type} (k : Nat) (a : List ByteArray) (h : a.length ≤ 1099511627776) (K : List ByteArray → Option R) : impl_copied_string.c k a K = K a := by
  rw [impl_copied_string.u]
  by_cases h0 : a.length = 0
  · have := List.eq_nil_of_length_eq_zero h0
    subst this
    exact ct rfl
  · refine (cf (df (by omega))).trans ((ct ?_).trans ?_)
    · rw [Int.toNat_natCast, lim_le h]
      simp
    · simp
theorem impl_copied_string.nat {R : Type} (k : Nat) (a : List ByteArray) (K : List ByteArray → Option R) : impl_copied_string.c k a K = (impl_copied_string.c k a some).bind K := by
  rw [impl_copied_string.u, impl_copied_string.u]
  simp only [cond_bind, Option.bind_some, Option.bind_none]
set_option maxRecDepth 100000 in
theorem impl_ShelfRead.l5r_val {R : Type} (t : ByteArray) (ht : t.size ≤ 2097152) (at_ : Nat) (ha : at_ < t.size) (acc : List ByteArray) (x0 : Int → List ByteArray → Option R) (n0 : Nat) (res : Option R)
    (hstop : oneL ((tx t).drop at_) = none → x0 (at_ : Int) acc = res)
    (hgo : ∀ r n, oneL ((tx t).drop at_) = some (r, n) → impl_ShelfRead.l12r (impl_ShelfRead.g 4194304) 4194304 t x0 n0 ((at_ + n : Nat) : Int) (acc ++ [ba r]) = res) (hacc : acc.length ≤ 1000000)
    (x2 : Int → Option R) (hx2 : x2 = fun v6_120 => cond (decide ((t.size : Int) ≤ v6_120)) (x0 (at_ : Int) acc) (cond (decide (0 ≤ v6_120) && decide (v6_120 < (t.size : Int))) (cond (!decide ((byteAt t v6_120.toNat) = 58)) (x0 (at_ : Int) acc) (cond (decide (0 ≤ v6_120) && decide (v6_120 ≤ (t.size : Int)) && decide (0 ≤ (at_ : Int)) && decide ((at_ : Int) ≤ v6_120)) (impl_natural.c 4194304 (t.extract (at_ : Int).toNat v6_120.toNat) (fun r1_121 r2_122 => let y3_123 := w64 ((w64 (v6_120 + 1)) + r1_121); cond (!r2_122) (x0 (at_ : Int) acc) (impl_in.c 4194304 r1_121 1 60 (fun r4_124 => cond (!r4_124) (x0 (at_ : Int) acc) (cond (decide ((t.size : Int) ≤ y3_123)) (x0 (at_ : Int) acc) (cond (decide (0 ≤ y3_123) && decide (y3_123 < (t.size : Int))) (cond (!decide ((byteAt t y3_123.toNat) = 59)) (x0 (at_ : Int) acc) (cond (decide (0 ≤ y3_123) && decide (y3_123 ≤ (t.size : Int)) && decide (0 ≤ (w64 (v6_120 + 1))) && decide ((w64 (v6_120 + 1)) ≤ y3_123)) (let y5_125 := t.extract ((w64 (v6_120 + 1)).toNat) y3_123.toNat; cond (Nat.ble (acc.length + ([y5_125] : List ByteArray).length) lim) (impl_ShelfRead.l12r (impl_ShelfRead.g 4194304) 4194304 t x0 n0 (w64 (y3_123 + 1)) (acc ++ ([y5_125] : List ByteArray))) none) none)) none)))))) none)) none)) :
    ∀ (d i n : Nat), 3 - i = d → i ≤ 3 → i ≤ col ((tx t).drop at_) → at_ + i ≤ t.size → d < n →
    impl_ShelfRead.l5r (impl_ShelfRead.g 4194304) 4194304 t (at_ : Int) acc x2 n ((at_ + i : Nat) : Int) = res := by
  have hl := tx_length t
  have hl2 : ((tx t).drop at_).length = t.size - at_ := by rw [List.length_drop, hl]
  have hgd : ∀ j, ((tx t).drop at_).getD j 0 = (tx t).getD (at_ + j) 0 := fun j => by rw [List.getD_eq_getElem?_getD, List.getD_eq_getElem?_getD, List.getElem?_drop]
  obtain ⟨m, hm⟩ : ∃ m, t.size = at_ + m := ⟨t.size - at_, by omega⟩
  have hl2 : ((tx t).drop at_).length = m := by omega
  -- the loop's end: at the colon or behind what may be one
  have fin : ∀ i, i ≤ 3 → i ≤ col ((tx t).drop at_) → at_ + i ≤ t.size → (at_ + i < t.size → i < 3 → (tx t).getD (at_ + i) 0 = 58) → x2 ((at_ + i : Nat) : Int) = res := by
    intro i h3 hc hle h58
    subst hx2
    by_cases c1 : (t.size : Int) ≤ ((at_ + i : Nat) : Int)
    · refine (ct (dt c1)).trans (hstop ?_)
      unfold oneL
      rw [if_neg (by omega)]
    · refine (cf (df c1)).trans ((ct (gd (by omega))).trans ?_)
      simp only [Int.toNat_natCast]
      by_cases c2 : (tx t).getD (at_ + i) 0 = 58
      · have hcol : col ((tx t).drop at_) = i := col_eq hc (by omega) (by rw [hgd]; exact c2)
        have b58 : byteAt t (at_ + i) = 58 := by rw [byteAt_tx, c2]; rfl
        refine (cf (congrArg not (decide_eq_true b58))).trans ((ct (by simp; omega)).trans ?_)
        rw [impl_natural.val, tx_extract, show at_ + i - at_ = i by omega]
        have noOne : (¬ ∃ n, numL 4 (((tx t).drop at_).take i) = some n ∧ 1 ≤ n ∧ n ≤ 60 ∧ i < 3 ∧ i + 2 + n ≤ m ∧ (tx t).getD (at_ + (i + 1 + n)) 0 = 59) → oneL ((tx t).drop at_) = none := by
          intro h
          unfold oneL oneAt
          rw [hcol]
          split
          · next hk =>
            split
            · rfl
            · next n hn =>
              rw [if_neg]
              rintro ⟨q1, q2, q3, q4⟩
              exact h ⟨n, hn, q1, q2, hk.1, by omega, by rw [← hgd]; exact q4⟩
          · rfl
        have h45 : numL 5 (((tx t).drop at_).take i) = numL 4 (((tx t).drop at_).take i) := by
          unfold numL
          have : (((tx t).drop at_).take i).length ≤ 4 := by rw [List.length_take]; omega
          simp only [this, show (((tx t).drop at_).take i).length ≤ 5 by omega]
        rw [h45]
        cases hnm : numL 4 (((tx t).drop at_).take i) with
        | none =>
          refine (ct rfl).trans (hstop (noOne ?_))
          rintro ⟨n, hn, _⟩
          rw [hnm] at hn; cases hn
        | some n =>
          have hun : ∀ n', numL 4 (((tx t).drop at_).take i) = some n' → n' = n := fun n' h => by rw [hnm] at h; exact (Option.some.inj h).symm
          obtain ⟨e1, e2⟩ := numL_some.1 hnm
          have hnb : n < 10000 := by
            have h3 := valL_small (decL_dig n) (by rw [← e1]; exact e2)
            rw [valL_dec] at h3
            exact h3
          have hil : (((tx t).drop at_).take i).length = i := by rw [List.length_take]; omega
          refine (cf rfl).trans ?_
          rw [impl_in.val]
          simp only [resNat]
          by_cases c3 : 1 ≤ (n : Int) ∧ (n : Int) ≤ 60
          · rw [inB_yes c3.1 c3.2]
            refine (cf rfl).trans ?_
            have hi3 : i < 3 := by
              have := decL_length (n := n) (d := 1) (by omega)
              rw [← e1, hil] at this
              omega
            have w1 : w64 (((at_ + i : Nat) : Int) + 1) = ((at_ + i + 1 : Nat) : Int) := w64_p1 _ (by omega)
            have w2 : w64 (((at_ + i + 1 : Nat) : Int) + (n : Int)) = ((at_ + i + 1 + n : Nat) : Int) := w64_pn _ _ (by omega)
            have e3 : at_ + i + 1 + n = at_ + (i + 1 + n) := by omega
            simp only [w1, w2, Int.toNat_natCast]
            by_cases c4 : (t.size : Int) ≤ ((at_ + i + 1 + n : Nat) : Int)
            · refine (ct (dt c4)).trans (hstop (noOne ?_))
              rintro ⟨n', hn, _, _, _, q, _⟩
              rw [hun n' hn] at q
              omega
            · refine (cf (df c4)).trans ((ct (gd (by omega))).trans ?_)
              by_cases c5 : (tx t).getD (at_ + i + 1 + n) 0 = 59
              · have b59 : byteAt t (at_ + i + 1 + n) = 59 := by rw [byteAt_tx, c5]; rfl
                refine (cf (congrArg not (decide_eq_true b59))).trans ((ct (by simp; omega)).trans ((ct (lim_le (by simp; omega))).trans ?_))
                have ho : oneL ((tx t).drop at_) = some ((((tx t).drop at_).drop (i + 1)).take n, i + 2 + n) := by
                  unfold oneL oneAt
                  rw [hcol, if_pos (by omega), hnm]
                  simp only []
                  rw [if_pos ⟨by omega, by omega, by omega, by rw [hgd, ← e3]; exact c5⟩]
                have hx : t.extract (at_ + i + 1) (at_ + i + 1 + n) = ba ((((tx t).drop at_).drop (i + 1)).take n) := by
                  apply tx_inj
                  rw [tx_extract, tx_ba, List.drop_drop]
                  congr 1
                  omega
                have w5 : w64 (((at_ + i + 1 + n : Nat) : Int) + 1) = ((at_ + i + 1 + n + 1 : Nat) : Int) := w64_p1 _ (by omega)
                rw [hx, w5, show at_ + i + 1 + n + 1 = at_ + (i + 2 + n) by omega]
                exact hgo _ _ ho
              · have b59 : ¬ byteAt t (at_ + i + 1 + n) = 59 := by
                  rw [byteAt_tx]
                  exact fun h => c5 (UInt8.toNat_inj.1 (by have h0 : (59 : UInt8).toNat = 59 := rfl; omega))
                refine (ct (congrArg not (decide_eq_false b59))).trans (hstop (noOne ?_))
                rintro ⟨n', hn, _, _, _, _, q⟩
                rw [hun n' hn, ← e3] at q
                exact c5 q
          · rw [inB_no c3]
            refine (ct rfl).trans (hstop (noOne ?_))
            rintro ⟨n', hn, q1, q2, _⟩
            rw [hun n' hn] at q1 q2
            omega
      · have h3' : i = 3 := by
          rcases Nat.lt_or_ge i 3 with h | h
          · exact absurd (h58 (by omega) h) c2
          · omega
        have b58 : ¬ byteAt t (at_ + i) = 58 := by
          rw [byteAt_tx]
          exact fun h => c2 (UInt8.toNat_inj.1 (by have h0 : (58 : UInt8).toNat = 58 := rfl; omega))
        refine (ct (congrArg not (decide_eq_false b58))).trans (hstop ?_)
        unfold oneL
        rw [if_neg (by omega)]
  have w3 : w64 ((at_ : Int) + 3) = ((at_ + 3 : Nat) : Int) := w64_p3 at_ (by omega)
  intro d
  induction d with
  | zero =>
    intro i n hi h3 hc hle hn
    obtain ⟨n, rfl⟩ := Nat.exists_eq_succ_of_ne_zero (n := n) (by omega)
    rw [impl_ShelfRead.l5r_u, w3]
    by_cases h : at_ + i < t.size
    · exact (ct (dt (by omega))).trans ((cf (df (by omega))).trans (fin i h3 hc hle (fun _ h => by omega)))
    · exact (cf (df (by omega))).trans (fin i h3 hc hle (fun h' _ => absurd h' h))
  | succ d ih =>
    intro i n hi h3 hc hle hn
    obtain ⟨n, rfl⟩ := Nat.exists_eq_succ_of_ne_zero (n := n) (by omega)
    rw [impl_ShelfRead.l5r_u, w3]
    by_cases h : at_ + i < t.size
    · refine (ct (dt (by omega))).trans ((ct (dt (by omega))).trans ((ct (gd h)).trans ?_))
      rw [Int.toNat_natCast, byteAt_tx]
      by_cases h58 : (tx t).getD (at_ + i) 0 = 58
      · exact (cf (by rw [h58]; rfl)).trans (fin i h3 hc hle (fun _ _ => h58))
      · refine (ct ?_).trans ?_
        · rw [df (fun hx => h58 (UInt8.toNat_inj.1 (by have h0 : (58 : UInt8).toNat = 58 := rfl; omega)))]; rfl
        · rw [w64_p1 (at_ + i) (by omega), Nat.add_assoc]
          exact ih (i + 1) n (by omega) (by omega) (col_lt hc (by omega) (by rw [hgd]; exact h58)) (by omega) (by omega)
    · exact (cf (df (by omega))).trans (fin i h3 hc hle (fun h' _ => absurd h' h))
theorem impl_ShelfRead.l12r_val {R : Type} (t : ByteArray) (ht : t.size ≤ 2097152) (x0 : Int → List ByteArray → Option R) (d : Nat) : ∀ i, t.size - i = d → i ≤ t.size → ∀ (n : Nat) (acc : List ByteArray), 4 * acc.length ≤ i → d < n →
    impl_ShelfRead.l12r (impl_ShelfRead.g 4194304) 4194304 t x0 n (i : Int) acc = x0 ((i + (readL ((tx t).drop i)).2 : Nat) : Int) (acc ++ (readL ((tx t).drop i)).1.map ba) := by
  have hl := tx_length t
  induction d using Nat.strongRecOn with
  | ind d ih =>
    intro i hi hi2 n acc ha hn
    obtain ⟨n, rfl⟩ := Nat.exists_eq_succ_of_ne_zero (n := n) (by omega)
    rw [impl_ShelfRead.l12r_u]
    by_cases h : (i : Int) < (t.size : Int)
    · refine (ct (dt h)).trans ?_
      refine impl_ShelfRead.l5r_val t ht i (by omega) acc x0 n _ (fun ho => by rw [readL_none ho]; simp) (fun r m ho => ?_) (by omega) _ rfl 3 0 4194304 rfl (by omega) (by omega) (by omega) (by omega)
      obtain ⟨k1, k2⟩ := oneL_len ho
      rw [List.length_drop] at k2
      rw [ih (t.size - (i + m)) (by omega) (i + m) rfl (by omega) n _ (by simp; omega) (by omega), readL_some ho, List.drop_drop]
      simp only [List.map_cons, List.append_assoc, List.singleton_append]
      congr 2
      omega
    · refine (cf (df h)).trans ?_
      rw [List.drop_eq_nil_of_le (by omega), readL_none (l := []) (by decide)]
      simp
theorem impl_ShelfRead.val {R : Type} (t : ByteArray) (ht : t.size ≤ 2097152) (K : List ByteArray → Int → Option R) : impl_ShelfRead.c 4194304 t K = K (resLog (readL (tx t))).1 (resLog (readL (tx t))).2 := by
  rw [impl_ShelfRead.u]
  refine (impl_ShelfRead.l12r_val t ht _ t.size 0 (by omega) (by omega) 4194304 [] (by simp) (by omega)).trans ?_
  have hc := readL_count (tx t)
  have hle := readL_le (tx t)
  have hl := tx_length t
  rw [List.drop_zero]
  refine (impl_copied_string.val _ _ (by simp; omega) _).trans ?_
  simp [resLog]
theorem impl_ShelfOk.val {R : Type} (t : ByteArray) (f : Int) (K : Bool → Option R) : impl_ShelfOk.c 4194304 t f K = K (okL t f) := by
  rw [impl_ShelfOk.u]
  by_cases h : (2400 : Int) < (t.size : Int)
  · refine (ct (dt h)).trans ?_
    unfold okL
    rw [df (show ¬ t.size ≤ 2400 by omega)]
    rfl
  · refine (cf (df h)).trans ?_
    rw [impl_in.val]
    by_cases h2 : 0 ≤ f ∧ f ≤ (t.size : Int)
    · obtain ⟨i, rfl⟩ := Int.eq_ofNat_of_zero_le h2.1
      have hi := inB_yes h2.1 h2.2
      rw [hi]
      refine (cf rfl).trans ?_
      rw [impl_ShelfRead.val t (by omega)]
      refine (ct (by simp; omega)).trans ?_
      rw [Int.toNat_natCast, impl_ShelfRead.val _ (by rw [← tx_length, tx_extract0, List.length_take, tx_length]; omega), tx_extract0]
      unfold okL
      rw [hi, dt (show t.size ≤ 2400 by omega), Int.toNat_natCast]
      show cond (decide (((readL (tx t)).2 : Int) = (t.size : Int))) (K (decide (((readL ((tx t).take i)).2 : Int) = (i : Int)))) (K false) = K (true && true && (decide ((readL (tx t)).2 = t.size) && decide (((readL ((tx t).take i)).2 : Int) = (i : Int))))
      by_cases h3 : (readL (tx t)).2 = t.size
      · refine (ct (dt (by omega))).trans ?_
        rw [dt h3, Bool.true_and, Bool.true_and, Bool.true_and]
      · refine (cf (df (by omega))).trans ?_
        rw [df h3, Bool.false_and, Bool.and_false]
    · rw [inB_no h2]
      refine (ct rfl).trans ?_
      unfold okL
      rw [inB_no h2, Bool.and_false, Bool.false_and]
theorem impl_recOk.val {R : Type} (t : ByteArray) (K : Bool → Option R) : impl_recOk.c 4194304 t K = K (inB (t.size : Int) 1 60) := by
  rw [impl_recOk.u, impl_in.val]
theorem libDec (n : Nat) : Go.Lib.decDigits n = decL n := by
  induction n using Nat.strongRecOn with
  | ind n ih =>
    rw [Go.Lib.decDigits, decL]
    by_cases h : n < 10
    · rw [dif_pos h, if_pos h]
      rfl
    · rw [dif_neg h, if_neg h, ih (n / 10) (by omega)]
      rfl
theorem strconv_Itoa.val {R : Type} (n : Nat) (hn : n < 9223372036854775808) (K : ByteArray → Option R) : strconv_Itoa.c 4194304 (n : Int) K = K (ba (decL n)) := by
  rw [strconv_Itoa.u]
  refine (ct (by simp; omega)).trans ?_
  unfold Go.Lib.itoa
  rw [if_neg (by omega), Int.toNat_natCast, libDec]
  rfl
theorem impl_stored.val {R : Type} (t : ByteArray) (ht : t.size ≤ 1099511627776) (K : ByteArray → Option R) : impl_stored.c 4194304 t K = K (ba (recL (tx t))) := by
  have hs : (ByteArray.mk #[58]).size = 1 := rfl
  have hs' : (ByteArray.mk #[59]).size = 1 := rfl
  have hd := decL_length (n := t.size) (d := 18) (by omega)
  have hb := ba_size (decL t.size)
  rw [impl_stored.u, strconv_Itoa.val _ (by omega)]
  refine (ct (dt (by omega))).trans ((ct (dt (by simp only [sz_append]; omega))).trans ((ct (dt (by simp only [sz_append]; omega))).trans ?_))
  refine congrArg K ?_
  apply tx_inj
  rw [tx_append, tx_append, tx_append, tx_ba, tx_ba, recL, tx_length]
  rfl
theorem impl_ShelfPack.l4r_val {R : Type} (rs : List ByteArray) (hl : rs.length ≤ 2097152) (t : ByteArray) (f : Int) (u : ByteArray) (v : Int) (x0 : ByteArray → Option R) (q : Bool → Option R) (hx : ∀ s : ByteArray, 2400 < s.size → x0 s = q false) : ∀ (d i n : Nat) (acc : ByteArray), i + d = rs.length → d < n → acc.size + 100 * d ≤ 1099511627776 →
    impl_ShelfPack.l4r (impl_ShelfPack.g 4194304) 4194304 (rs.length : Int) t f u v rs x0 q n acc (i : Int) = cond ((rs.drop i).all recOk60) (x0 (acc ++ logB (rs.drop i))) (q false) := by
  intro d
  induction d with
  | zero =>
    intro i n acc h1 h2 h3
    obtain ⟨n, rfl⟩ := Nat.exists_eq_succ_of_ne_zero (n := n) (by omega)
    rw [impl_ShelfPack.l4r_u, List.drop_eq_nil_of_le (by omega), logB_nil, ap_nil]
    exact cf (df (by omega))
  | succ d ih =>
    intro i n acc h1 h2 h3
    obtain ⟨n, rfl⟩ := Nat.exists_eq_succ_of_ne_zero (n := n) (by omega)
    have hi : i < rs.length := by omega
    rw [impl_ShelfPack.l4r_u, Int.toNat_natCast, getD_at hi, w64_p1 i (by omega)]
    refine (ct (dt (by omega))).trans ((ct (gd hi)).trans ?_)
    rw [impl_recOk.val, List.drop_eq_getElem_cons hi, List.all_cons, logB_cons]
    show cond (!recOk60 rs[i]) _ _ = _
    cases ho : recOk60 rs[i] with
    | false => exact ct rfl
    | true =>
      have hz := recL_small ho
      refine (cf rfl).trans ?_
      by_cases h24 : 2400 < acc.size
      · refine (ct (dt (by omega))).trans ?_
        rw [hx _ (by rw [sz_append]; omega)]
        cases (true && (rs.drop (i + 1)).all recOk60) <;> rfl
      · refine (cf (df (by omega))).trans ?_
        rw [impl_stored.val _ (by have := inB_iff.1 ho; omega)]
        refine (ct (dt (by omega))).trans ?_
        rw [ih (i + 1) n _ (by omega) (by omega) (by rw [sz_append]; omega), Bool.true_and, ap_assoc]
theorem impl_ShelfPack.val {R : Type} (t : ByteArray) (f : Int) (rs : List ByteArray) (hl : rs.length ≤ 2097152) (K : ByteArray → Int → Bool → Option R) : impl_ShelfPack.c 4194304 t f rs K = K (packL t f rs).1 (packL t f rs).2.1 (packL t f rs).2.2 := by
  rw [impl_ShelfPack.u, impl_ShelfOk.val]
  unfold packL
  cases ho : okL t f with
  | false => exact ct rfl
  | true =>
    refine (cf rfl).trans ?_
    refine (impl_ShelfPack.l4r_val rs hl t f _ _ _ _ (fun s hs => ct (dt (by omega))) rs.length 0 4194304 (ByteArray.mk #[]) (by omega) (by omega) (by have : (ByteArray.mk #[]).size = 0 := rfl; omega)).trans ?_
    rw [List.drop_zero, show ByteArray.mk #[] ++ logB rs = logB rs from by apply tx_inj; rw [tx_append]; rfl]
    cases rs.all recOk60 with
    | false => rfl
    | true =>
      refine (ct rfl).trans ?_
      by_cases h : 2400 < (logB rs).size
      · refine (ct (dt (by omega))).trans ?_
        rw [dt h]
        rfl
      · refine (cf (df (by omega))).trans ?_
        rw [df h]
        rfl
theorem laws_lbTexts.val {R : Type} (a b : List (ByteArray)) (h : a.length ≤ 2097152) (K : Bool → Option R) : laws_lbTexts.c 4194304 a b K = K (decide (a = b)) := by
  rw [laws_lbTexts.u]
  by_cases hl : a.length = b.length
  · refine (cf (by simp [hl])).trans ?_
    have key := eq_loop a b ByteArray.empty (K true) (K false) (fun n i => laws_lbTexts.l4r (laws_lbTexts.g 4194304) 4194304 a b (K true) (fun v => K v) n i) hl (fun n i hi => by
      rw [laws_lbTexts.l4r_u]
      refine (ct (dt (by omega))).trans ((ct (gd hi)).trans ((ct (gd (by omega))).trans ?_))
      cases hd : decide (a.getD i ByteArray.empty = b.getD i ByteArray.empty) <;> simp only [Int.toNat_natCast, hd, Bool.not_true, Bool.not_false, cond_true, cond_false, w64_p1 i (show i < 4611686018427387904 by omega)]) (fun n => by
      rw [laws_lbTexts.l4r_u]
      exact cf (df (by omega))) 4194304 (by omega)
    exact key.trans (by cases decide (a = b) <;> rfl)
  · refine (ct (by simp; omega)).trans ?_
    rw [df (fun e => hl (by rw [e]))]
theorem spec_ShelfAdd.val {R : Type} (t : ByteArray) (f : Int) (rec : ByteArray) (K : ByteArray → Int → Bool → Option R) : spec_ShelfAdd.c 4194304 t f rec K = K (addL t f rec).1 (addL t f rec).2.1 (addL t f rec).2.2 := by
  rw [spec_ShelfAdd.u, spec_ShelfOk.val]
  unfold addL
  cases ho : okL t f with
  | false => exact (ct rfl).trans rfl
  | true =>
    have h24 := (okL_some ho).1
    refine (cf rfl).trans ?_
    rw [spec_l11RecOk.val]
    cases hr : inB (rec.size : Int) 1 60 with
    | false => exact (ct rfl).trans rfl
    | true =>
      obtain ⟨r1, r2⟩ := inB_iff.1 hr
      refine (cf rfl).trans ?_
      have hz : (ba (recL (tx rec))).size ≤ 100 := by
        rw [ba_size, recL_length, tx_length]
        have := decL_length (n := rec.size) (d := 1) (by omega)
        omega
      rw [spec_l11Rec.val _ (by omega)]
      have e : w64 ((t.size : Int) + ((ba (recL (tx rec))).size : Int)) = ((t.size + (ba (recL (tx rec))).size : Nat) : Int) := w64_pn _ _ (by omega)
      simp only [e]
      by_cases h : 2400 < t.size + (ba (recL (tx rec))).size
      · refine (ct (dt (by omega))).trans ?_
        rw [dt h]
        rfl
      · refine (cf (df (by omega))).trans ?_
        rw [spec_l11Rec.val _ (by omega), df h]
        refine (ct (dt (by omega))).trans ?_
        rfl
theorem spec_l3Keeper.val {R : Type} (k : Nat) (a : Int) (K : Bool → Option R) : spec_l3Keeper.c k a K = K (inB a 0 3) := by
  rw [spec_l3Keeper.u, spec_l6In.val]
theorem spec_NoteOk.l4r_val {R : Type} (a b c d : Int) (t : ByteArray) (ht : t.size ≤ 24) (x0 : Option R) (q : Bool → Option R) : ∀ (e i n : Nat), i + e = t.size → e < n →
    spec_NoteOk.l4r (spec_NoteOk.g 4194304) 4194304 a b c d t x0 q n (i : Int) = cond (((tx t).drop i).all chOk) x0 (q false) := by
  have hl := tx_length t
  intro e
  induction e with
  | zero =>
    intro i n h1 h2
    obtain ⟨n, rfl⟩ := Nat.exists_eq_succ_of_ne_zero (n := n) (by omega)
    rw [spec_NoteOk.l4r_u, List.drop_eq_nil_of_le (by omega)]
    exact cf (df (by omega))
  | succ e ih =>
    intro i n h1 h2
    obtain ⟨n, rfl⟩ := Nat.exists_eq_succ_of_ne_zero (n := n) (by omega)
    have hi : i < t.size := by omega
    have hlt : i < (tx t).length := by omega
    rw [spec_NoteOk.l4r_u, Int.toNat_natCast, byteAt_tx, getD_at hlt, w64_p1 i (by omega), List.drop_eq_getElem_cons hlt, List.all_cons]
    refine (ct (dt (by omega))).trans ((ct (gd hi)).trans ?_)
    by_cases c1 : (((tx t)[i].toNat : Nat) : Int) < 32
    · rw [show chOk (tx t)[i] = false from by simp [chOk]; omega, Bool.false_and]
      exact ct (dt c1)
    · refine (cf (df c1)).trans ((ct (gd hi)).trans ?_)
      by_cases c2 : (126 : Int) < (((tx t)[i].toNat : Nat) : Int)
      · rw [show chOk (tx t)[i] = false from by simp [chOk]; omega, Bool.false_and]
        exact ct (dt c2)
      · rw [show chOk (tx t)[i] = true from by simp [chOk]; omega, Bool.true_and, ← ih (i + 1) n (by omega) (by omega)]
        exact cf (df c2)
theorem spec_NoteOk.val {R : Type} (a b c d : Int) (t : ByteArray) (K : Bool → Option R) : spec_NoteOk.c 4194304 a b c d t K = K (ntOk a b c d t) := by
  rw [spec_NoteOk.u, spec_l3Keeper.val]
  cases h1 : inB a 0 3 with
  | false => exact (ct rfl).trans (by simp [ntOk, h1])
  | true =>
    refine (cf rfl).trans ?_
    rw [spec_l3Keeper.val]
    cases h2 : inB c 0 3 with
    | false => exact (ct rfl).trans (by simp [ntOk, h2])
    | true =>
      refine (cf rfl).trans ?_
      rw [spec_l6In.val]
      cases h3 : inB b 1 99 with
      | false => exact (ct rfl).trans (by simp [ntOk, h3])
      | true =>
        refine (cf rfl).trans ?_
        rw [spec_l6In.val]
        cases h4 : inB d 1 999 with
        | false => exact (ct rfl).trans (by simp [ntOk, h4])
        | true =>
          refine (cf rfl).trans ?_
          by_cases h5 : (t.size : Int) < 1
          · exact (ct (dt h5)).trans (by simp [ntOk, txOk, inB_no (x := (t.size : Int)) (a := 1) (b := 24) (by omega)])
          · refine (cf (df h5)).trans ?_
            by_cases h6 : (24 : Int) < (t.size : Int)
            · exact (ct (dt h6)).trans (by simp [ntOk, txOk, inB_no (x := (t.size : Int)) (a := 1) (b := 24) (by omega)])
            · refine (cf (df h6)).trans ?_
              refine (spec_NoteOk.l4r_val a b c d t (by omega) _ _ t.size 0 4194304 (by omega) (by omega)).trans ?_
              have e : ntOk a b c d t = (tx t).all chOk := by
                simp [ntOk, txOk, h1, h2, h3, h4, inB_yes (x := (t.size : Int)) (a := 1) (b := 24) (by omega) (by omega), tx]
              rw [List.drop_zero, e]
              cases (tx t).all chOk <;> rfl
theorem spec_NoteWrite.val {R : Type} (a b c d : Int) (t : ByteArray) (K : ByteArray → Option R) : spec_NoteWrite.c 4194304 a b c d t K = K (nwB a b c d t) := by
  rw [spec_NoteWrite.u, spec_NoteOk.val]
  unfold nwB
  cases ho : ntOk a b c d t with
  | false => exact ct rfl
  | true =>
    obtain ⟨h1, h2, h3, h4, h5, _⟩ := ntOk_some ho
    obtain ⟨a', rfl⟩ := Int.eq_ofNat_of_zero_le h1.1
    obtain ⟨b', rfl⟩ := Int.eq_ofNat_of_zero_le (show 0 ≤ b by omega)
    obtain ⟨c', rfl⟩ := Int.eq_ofNat_of_zero_le h3.1
    obtain ⟨d', rfl⟩ := Int.eq_ofNat_of_zero_le (show 0 ≤ d by omega)
    have hs : (ByteArray.mk #[32]).size = 1 := rfl
    have e1 := decL_length (n := a') (d := 0) (by omega)
    have e2 := decL_length (n := b') (d := 1) (by omega)
    have e3 := decL_length (n := c') (d := 0) (by omega)
    have e4 := decL_length (n := d') (d := 2) (by omega)
    have b1 := ba_size (decL a')
    have b2 := ba_size (decL b')
    have b3 := ba_size (decL c')
    have b4 := ba_size (decL d')
    refine (cf rfl).trans ?_
    rw [spec_l6Dec.val _ (by omega)]
    refine (ct (dt (by omega))).trans ?_
    rw [spec_l6Dec.val _ (by omega)]
    refine (ct (dt (by simp only [sz_append]; omega))).trans ((ct (dt (by simp only [sz_append]; omega))).trans ?_)
    simp only []
    rw [spec_l6Dec.val _ (by omega)]
    refine (ct (dt (by simp only [sz_append]; omega))).trans ((ct (dt (by simp only [sz_append]; omega))).trans ?_)
    rw [spec_l6Dec.val _ (by omega)]
    refine (ct (dt (by simp only [sz_append]; omega))).trans ((ct (dt (by simp only [sz_append]; omega))).trans ?_)
    refine (ct (dt (by simp only [sz_append]; omega))).trans ?_
    refine congrArg K ?_
    apply tx_inj
    rw [cond_true, tx_ba]
    simp only [tx_append, tx_ba, ntL, Int.toNat_natCast]
    rfl
/-- A number is drawn: from 0 to n - 1. -/
theorem spec_l6Rd_pick.tot {l : List Int} (hl : Byt l) (hn : l.length ≤ 2000) (p : Nat) (hp : p < 1000000000000) (n : Int) (hn1 : n ≤ 1000000000) :
    ∃ r : Nat, (∀ {R : Type} (K : Int → Int → Option R), spec_l6Rd_pick.c 4194304 l (p : Int) n K = K (r : Int) ((p + 1 : Nat) : Int)) ∧ (1 ≤ n → (r : Int) < n) ∧ (n < 1 → r = 0) := by
  have e1 : w64 ((p : Int) + 1) = ((p + 1 : Nat) : Int) := w64_p1 p (by omega)
  have e2 : w64 (((p + 1 : Nat) : Int) - 1) = (p : Int) := by rw [w64_id (by omega) (by omega)]; omega
  by_cases h1 : n < 1
  · refine ⟨0, fun K => ?_, by omega, by omega⟩
    rw [spec_l6Rd_pick.u, e1]
    exact ct (dt h1)
  · by_cases h0 : l.length = 0
    · refine ⟨0, fun K => ?_, by omega, by omega⟩
      rw [spec_l6Rd_pick.u, e1]
      exact (cf (df h1)).trans (ct (dt (by omega)))
    · by_cases hlt : p < l.length
      · have hb := byt_get hl p
        obtain ⟨t1, t2⟩ := tmod_pos (x := l.getD p 0) (n := n) hb.1 (by omega)
        refine ⟨_, fun K => ?_, fun _ => t2, by omega⟩
        rw [spec_l6Rd_pick.u, e1]
        refine (cf (df h1)).trans ((cf (df (by omega))).trans ?_)
        simp only [e2]
        refine (ct (dt (by omega))).trans ((ct (gd hlt)).trans ?_)
        rw [Int.toNat_natCast, w64_id (x := l.getD p 0) (by omega) (by omega), t1]
        exact ct (by simp; omega)
      · have f2 : p % l.length < l.length := Nat.mod_lt _ (by omega)
        have f4 : (p * 7 + 3) % l.length < l.length := Nat.mod_lt _ (by omega)
        have m1 : Int.tmod (p : Int) (l.length : Int) = ((p % l.length : Nat) : Int) := tmodN _ _
        have m2 : w64 (w64 ((p : Int) * 7) + 3) = ((p * 7 + 3 : Nat) : Int) := by
          rw [w64_id (x := (p : Int) * 7) (by omega) (by omega), w64_id (by omega) (by omega)]; omega
        have m3 : Int.tmod ((p * 7 + 3 : Nat) : Int) (l.length : Int) = (((p * 7 + 3) % l.length : Nat) : Int) := tmodN _ _
        have b1 := byt_get hl (p % l.length)
        have b2 := byt_get hl ((p * 7 + 3) % l.length)
        obtain ⟨a, ha⟩ := Int.eq_ofNat_of_zero_le b1.1
        obtain ⟨b, hb⟩ := Int.eq_ofNat_of_zero_le b2.1
        rw [ha] at b1
        rw [hb] at b2
        have q1 : p / l.length ≤ p := Nat.div_le_self _ _
        have m4 : w64 (Int.tdiv (p : Int) (l.length : Int)) = ((p / l.length : Nat) : Int) := by rw [tdivN]; exact w64_nat _ (by omega)
        have u1 : w64 (a : Int) = (a : Int) := w64_nat a (by omega)
        have u2 : w64 (b : Int) = (b : Int) := w64_nat b (by omega)
        have u3 : w64 ((a : Int) * 131) = ((a * 131 : Nat) : Int) := by rw [w64_id (by omega) (by omega)]; omega
        have u4 : w64 ((b : Int) * 1117) = ((b * 1117 : Nat) : Int) := by rw [w64_id (by omega) (by omega)]; omega
        have u5 : w64 (((a * 131 : Nat) : Int) + ((b * 1117 : Nat) : Int)) = ((a * 131 + b * 1117 : Nat) : Int) := w64_pn _ _ (by omega)
        have u6 : w64 ((p : Int) * 29) = ((p * 29 : Nat) : Int) := by rw [w64_id (by omega) (by omega)]; omega
        have u7 : w64 (((a * 131 + b * 1117 : Nat) : Int) + ((p * 29 : Nat) : Int)) = ((a * 131 + b * 1117 + p * 29 : Nat) : Int) := w64_pn _ _ (by omega)
        generalize hq : p / l.length = q at q1 m4
        have u9 : w64 ((q : Int) * 53) = ((q * 53 : Nat) : Int) := by rw [w64_id (by omega) (by omega)]; omega
        have u10 : w64 (((a * 131 + b * 1117 + p * 29 : Nat) : Int) + ((q * 53 : Nat) : Int)) = ((a * 131 + b * 1117 + p * 29 + q * 53 : Nat) : Int) := w64_pn _ _ (by omega)
        have x1 : a * 131 + b * 1117 + p * 29 + q * 53 < 1000000000000000 := by omega
        generalize hx : a * 131 + b * 1117 + p * 29 + q * 53 = x at u10 x1
        have u11 : w64 (Int.tdiv (x : Int) 64) = ((x / 64 : Nat) : Int) := by
          have := tdivN x 64
          rw [show ((64 : Nat) : Int) = 64 from rfl] at this
          rw [this]; exact w64_nat _ (by omega)
        obtain ⟨y0, y1⟩ := w64_xor x (x / 64) (by omega) (by omega)
        obtain ⟨t1, t2⟩ := tmod_pos (x := ((x ^^^ (x / 64) : Nat) : Int)) (n := n) (by omega) (by omega)
        refine ⟨_, fun K => ?_, fun _ => t2, by omega⟩
        rw [spec_l6Rd_pick.u, e1]
        refine (cf (df h1)).trans ((cf (df (by omega))).trans ?_)
        simp only [e2]
        refine (cf (df (by omega))).trans ((ct (nz h0)).trans ?_)
        simp only [m1, Int.toNat_natCast, ha, m2, m3, hb, u1, u2, u3, u4, u5, u6, u7, m4, u9, u10, u11, y0, t1]
        refine (ct (gd f2)).trans ((ct (nz h0)).trans ((ct (gd f4)).trans ((ct (nz h0)).trans ((ct rfl).trans ?_))))
        exact ct (by simp; omega)
theorem spec_l6Many.l3r_tot (n : Nat) : ∀ (x acc : ByteArray), n < 1000000 → 2 * (x.size * n) + acc.size ≤ 1099511627776 → ∃ r : ByteArray, r.size = acc.size + x.size * n ∧ ∀ {R : Type} (x0 : ByteArray → Option R) (m : Nat), n < m → spec_l6Many.l3r (spec_l6Many.g 4194304) 4194304 x0 m x (n : Int) acc = x0 r := by
  induction n using Nat.strongRecOn with
  | ind n ih =>
    intro x acc hn h
    by_cases h0 : n = 0
    · subst h0
      refine ⟨acc, by simp, fun x0 m hm => ?_⟩
      obtain ⟨m, rfl⟩ := Nat.exists_eq_succ_of_ne_zero (n := m) (by omega)
      rw [spec_l6Many.l3r_u]
      exact cf rfl
    · have e : w64 (Int.tdiv (n : Int) 2) = ((n / 2 : Nat) : Int) := by
        have := tdivN n 2
        rw [show ((2 : Nat) : Int) = 2 from rfl] at this
        rw [this]; exact w64_nat _ (by omega)
      have ht : Int.tmod (n : Int) 2 = ((n % 2 : Nat) : Int) := tmodN n 2
      have hxx : (x ++ x).size = x.size + x.size := sz_append _ _
      have hax : (acc ++ x).size = acc.size + x.size := sz_append _ _
      have hm : x.size ≤ x.size * n := Nat.le_mul_of_pos_right _ (by omega)
      by_cases h1 : n % 2 = 1
      · obtain ⟨m, hm2⟩ : ∃ m, n = 2 * m + 1 := ⟨n / 2, by omega⟩
        have e1 : x.size * n = 2 * (x.size * m) + x.size := by rw [hm2, Nat.mul_add, Nat.mul_left_comm, Nat.mul_one]
        have e2 : (x ++ x).size * m = 2 * (x.size * m) := by rw [hxx, ← Nat.two_mul, Nat.mul_assoc]
        obtain ⟨r, hr, hl⟩ := ih m (by omega) (x ++ x) (acc ++ x) (by omega) (by omega)
        refine ⟨r, by omega, fun x0 q hq => ?_⟩
        obtain ⟨q, rfl⟩ := Nat.exists_eq_succ_of_ne_zero (n := q) (by omega)
        rw [spec_l6Many.l3r_u, e, ht, h1, show n / 2 = m by omega, hl x0 q (by omega)]
        refine (ct (dt (by omega))).trans ((ct rfl).trans ((ct rfl).trans ?_))
        exact (ct (dt (by omega))).trans ((ct (dt (by omega))).trans (ct rfl))
      · obtain ⟨m, hm2⟩ : ∃ m, n = 2 * m := ⟨n / 2, by omega⟩
        have e1 : x.size * n = 2 * (x.size * m) := by rw [hm2, Nat.mul_left_comm]
        have e2 : (x ++ x).size * m = 2 * (x.size * m) := by rw [hxx, ← Nat.two_mul, Nat.mul_assoc]
        obtain ⟨r, hr, hl⟩ := ih m (by omega) (x ++ x) acc (by omega) (by omega)
        refine ⟨r, by omega, fun x0 q hq => ?_⟩
        obtain ⟨q, rfl⟩ := Nat.exists_eq_succ_of_ne_zero (n := q) (by omega)
        rw [spec_l6Many.l3r_u, e, ht, show n % 2 = 0 by omega, show n / 2 = m by omega, hl x0 q (by omega)]
        refine (ct (dt (by omega))).trans ((ct rfl).trans ((cf rfl).trans ?_))
        exact (ct (dt (by omega))).trans (ct rfl)
theorem spec_l6Many.tot (x : ByteArray) (n : Nat) (hn : n < 1000000) (hx : 2 * (x.size * n) ≤ 1099511627776) : ∃ r : ByteArray, r.size = x.size * n ∧ ∀ {R : Type} (K : ByteArray → Option R), spec_l6Many.c 4194304 x (n : Int) K = K r := by
  obtain ⟨r, h1, h2⟩ := spec_l6Many.l3r_tot n x (ByteArray.mk #[]) hn (by show _ + 0 ≤ _; omega)
  refine ⟨r, h1.trans (Nat.zero_add _), fun K => ?_⟩
  rw [spec_l6Many.u]
  exact h2 (fun v => K v) 4194304 (by omega)
/-- One of a list is drawn. -/
theorem spec_l6Rd_of.tot {l : List Int} (hl : Byt l) (hn : l.length ≤ 2000) (p : Nat) (hp : p < 1000000000000) (x : List ByteArray) (h1 : 1 ≤ x.length) (h2 : x.length ≤ 1000000) :
    ∃ t, t ∈ x ∧ ∀ {R : Type} (K : ByteArray → Int → Option R), spec_l6Rd_of.c 4194304 l (p : Int) x K = K t ((p + 1 : Nat) : Int) := by
  obtain ⟨r, hr, h3, _⟩ := spec_l6Rd_pick.tot hl hn p hp (x.length : Int) (by omega)
  have h3 := h3 (by omega)
  have hlt : r < x.length := by omega
  refine ⟨x[r], List.getElem_mem hlt, fun K => ?_⟩
  rw [spec_l6Rd_of.u, hr, Int.toNat_natCast, getD_at hlt]
  exact ct (gd hlt)
theorem spec_l72Text.l9r_tot {l : List Int} (hl : Byt l) (hn : l.length ≤ 2000) (n : Nat) : ∀ (x : List Int) (p : Nat), n ≤ 100 → x.length + n ≤ 100 → p + n < 900000000000 →
    ∃ y : List Int, y.length = x.length + n ∧ ∀ {R : Type} (x1 : Int → List Int → Option R) (m : Nat), n < m → spec_l72Text.l9r (spec_l72Text.g 4194304) 4194304 l x1 m (n : Int) (p : Int) x = x1 ((p + n : Nat) : Int) y := by
  induction n with
  | zero =>
    intro x p h1 h2 h3
    refine ⟨x, rfl, fun x1 m hm => ?_⟩
    obtain ⟨m, rfl⟩ := Nat.exists_eq_succ_of_ne_zero (n := m) (by omega)
    rw [spec_l72Text.l9r_u]
    exact cf rfl
  | succ n ih =>
    intro x p h1 h2 h3
    obtain ⟨r, hr, h4, _⟩ := spec_l6Rd_pick.tot hl hn p (by omega) 256 (by omega)
    obtain ⟨y, hy, h5⟩ := ih (x ++ [w8 (r : Int)]) (p + 1) (by omega) (by simp; omega) (by omega)
    refine ⟨y, by simp at hy; omega, fun x1 m hm => ?_⟩
    obtain ⟨m, rfl⟩ := Nat.exists_eq_succ_of_ne_zero (n := m) (by omega)
    have e : w64 (((n + 1 : Nat) : Int) - 1) = (n : Int) := (w64_id (x := ((n + 1 : Nat) : Int) - 1) (by omega) (by omega)).trans (by omega)
    rw [spec_l72Text.l9r_u, hr]
    refine (ct (dt (by omega))).trans ((ct (lim_le (by simp; omega))).trans ?_)
    simp only [e]
    rw [h5 x1 m (by omega), show p + 1 + n = p + (n + 1) by omega]
theorem spec_l72Text.tot {l : List Int} (hl : Byt l) (hn : l.length ≤ 2000) (p : Nat) (hp : p < 800000000000) : ∃ (t : ByteArray) (q : Nat), t.size ≤ 25 ∧ p ≤ q ∧ q ≤ p + 30 ∧ ∀ {R : Type} (K : ByteArray → Int → Option R), spec_l72Text.c 4194304 l (p : Int) K = K t (q : Int) := by
  obtain ⟨a, ha, a1, _⟩ := spec_l6Rd_pick.tot hl hn p (by omega) 8 (by omega)
  have a1 := a1 (by omega)
  by_cases h0 : a = 0
  · subst h0
    obtain ⟨b, b1, hb⟩ := spec_l6Many.tot (ByteArray.mk #[120]) 24 (by omega) (by show 2 * (1 * 24) ≤ _; omega)
    obtain ⟨c, c1, hc⟩ := spec_l6Many.tot (ByteArray.mk #[121]) 25 (by omega) (by show 2 * (1 * 25) ≤ _; omega)
    have b1 : b.size = 24 := b1
    have c1 : c.size = 25 := c1
    obtain ⟨t, t1, ht⟩ := spec_l6Rd_of.tot hl hn (p + 1) (by omega) [ByteArray.mk #[], b, c, ByteArray.mk #[0, 1], ByteArray.mk #[97, 10]] (by simp) (by simp)
    refine ⟨t, p + 1 + 1, ?_, by omega, by omega, fun K => ?_⟩
    · simp only [List.mem_cons, List.not_mem_nil, or_false] at t1
      rcases t1 with h | h | h | h | h <;> rw [h] <;> first | omega | (show (_ : Nat) ≤ 25; decide)
    · rw [spec_l72Text.u, ha]
      refine (ct rfl).trans ?_
      refine (hb _).trans ((hc _).trans ?_)
      exact ht _
  · by_cases h1 : a = 1
    · subst h1
      obtain ⟨b, hb, b1, _⟩ := spec_l6Rd_pick.tot hl hn (p + 1) (by omega) 20 (by omega)
      have b1 := b1 (by omega)
      obtain ⟨y, y1, hy⟩ := spec_l72Text.l9r_tot hl hn (1 + b) [] (p + 1 + 1) (by omega) (by simp; omega) (by omega)
      have e : w64 ((1 : Int) + (b : Int)) = ((1 + b : Nat) : Int) := (w64_id (x := 1 + (b : Int)) (by omega) (by omega)).trans (by omega)
      refine ⟨ofBytes y, p + 1 + 1 + (1 + b), by rw [ofBytes_size, y1]; simp; omega, by omega, by omega, fun K => ?_⟩
      rw [spec_l72Text.u, ha]
      refine (cf rfl).trans ((ct rfl).trans ?_)
      rw [hb, e]
      exact hy _ 4194304 (by omega)
    · obtain ⟨t, t1, ht⟩ := spec_l6Rd_of.tot hl hn (p + 1) (by omega) [ByteArray.mk #[97], ByteArray.mk #[97, 98, 99, 100], ByteArray.mk #[104, 101, 108, 108, 111], ByteArray.mk #[49, 50, 51, 52, 53, 54, 55, 56], ByteArray.mk #[97, 32, 108, 111, 110, 103, 101, 114, 32, 109, 101, 115, 115, 97, 103, 101], ByteArray.mk #[106, 117, 115, 116, 32, 116, 119, 101, 110, 116, 121, 45, 102, 111, 117, 114, 32, 98, 121, 116, 101, 115, 32, 33], ByteArray.mk #[109, 105, 120, 101, 100, 32, 98, 108, 111, 99, 107, 115], ByteArray.mk #[102, 111, 117, 114, 32, 119, 111, 114, 100, 115, 32, 111, 102, 32, 97, 32, 116, 101, 120, 116]] (by simp) (by simp)
      refine ⟨t, p + 1 + 1, ?_, by omega, by omega, fun K => ?_⟩
      · simp only [List.mem_cons, List.not_mem_nil, or_false] at t1
        rcases t1 with h | h | h | h | h | h | h | h <;> rw [h] <;> (show (_ : Nat) ≤ 25; decide)
      · rw [spec_l72Text.u, ha]
        refine (cf (df (by omega))).trans ((cf (df (by omega))).trans ?_)
        exact ht _
theorem spec_l72Note.tot {l : List Int} (hl : Byt l) (hn : l.length ≤ 2000) (p : Nat) (hp : p < 700000000000) : ∃ (a b c d : Int) (t : ByteArray) (q : Nat), t.size ≤ 25 ∧ p ≤ q ∧ q ≤ p + 50 ∧ ∀ {R : Type} (K : Int → Int → Int → Int → ByteArray → Int → Option R), spec_l72Note.c 4194304 l (p : Int) K = K a b c d t (q : Int) := by
  obtain ⟨r1, e1, _, _⟩ := spec_l6Rd_pick.tot hl hn p (by omega) 4 (by omega)
  obtain ⟨r3, e3, _, _⟩ := spec_l6Rd_pick.tot hl hn (p + 1) (by omega) 5 (by omega)
  obtain ⟨r5, e5, _, _⟩ := spec_l6Rd_pick.tot hl hn (p + 1 + 1) (by omega) 4 (by omega)
  obtain ⟨r7, e7, _, _⟩ := spec_l6Rd_pick.tot hl hn (p + 1 + 1 + 1) (by omega) 30 (by omega)
  obtain ⟨t, t1, et⟩ := spec_l6Rd_of.tot hl hn (p + 1 + 1 + 1 + 1) (by omega) [(ByteArray.mk #[97]), (ByteArray.mk #[104, 101, 108, 108, 111]), (ByteArray.mk #[97, 32, 108, 111, 110, 103, 101, 114, 32, 109, 101, 115, 115, 97, 103, 101]), (ByteArray.mk #[32, 120, 32]), (ByteArray.mk #[106, 117, 115, 116, 32, 116, 119, 101, 110, 116, 121, 45, 102, 111, 117, 114, 32, 98, 121, 116, 101, 115, 32, 33])] (by simp) (by simp)
  have ht : t.size ≤ 25 := by
    simp only [List.mem_cons, List.not_mem_nil, or_false] at t1
    rcases t1 with h | h | h | h | h <;> rw [h] <;> (show (_ : Nat) ≤ 25; decide)
  clear t1
  obtain ⟨r12, e12, _, _⟩ := spec_l6Rd_pick.tot hl hn (p + 1 + 1 + 1 + 1 + 1) (by omega) 16 (by omega)
  by_cases h0 : r12 = 0
  · obtain ⟨x, ex, cx, _⟩ := spec_l6Rd_pick.tot hl hn (p + 1 + 1 + 1 + 1 + 1 + 1) (by omega) 2 (by omega)
    have cx := cx (by omega)
    refine ⟨([(-1), 4] : List Int).getD x 0, w64 ((1 : Int) + (r3 : Int)), (r5 : Int), w64 ((1 : Int) + (r7 : Int)), t, p + 1 + 1 + 1 + 1 + 1 + 1 + 1, ht, by omega, by omega, fun K => ?_⟩
    rw [spec_l72Note.u, e1, e3, e5, e7]
    simp only []
    rw [et, e12]
    refine (ct (dt (by omega))).trans ?_
    rw [ex]
    exact ct (by simp; omega)
  · by_cases h1 : r12 = 1
    · obtain ⟨x, ex, cx, _⟩ := spec_l6Rd_pick.tot hl hn (p + 1 + 1 + 1 + 1 + 1 + 1) (by omega) 3 (by omega)
      have cx := cx (by omega)
      refine ⟨(r1 : Int), ([0, 99, 100] : List Int).getD x 0, (r5 : Int), w64 ((1 : Int) + (r7 : Int)), t, p + 1 + 1 + 1 + 1 + 1 + 1 + 1, ht, by omega, by omega, fun K => ?_⟩
      rw [spec_l72Note.u, e1, e3, e5, e7]
      simp only []
      rw [et, e12]
      refine (cf (df (by omega))).trans ((ct (dt (by omega))).trans ?_)
      rw [ex]
      exact ct (by simp; omega)
    · by_cases h2 : r12 = 2
      · obtain ⟨x, ex, cx, _⟩ := spec_l6Rd_pick.tot hl hn (p + 1 + 1 + 1 + 1 + 1 + 1) (by omega) 3 (by omega)
        have cx := cx (by omega)
        refine ⟨(r1 : Int), w64 ((1 : Int) + (r3 : Int)), (r5 : Int), ([0, 999, 1000] : List Int).getD x 0, t, p + 1 + 1 + 1 + 1 + 1 + 1 + 1, ht, by omega, by omega, fun K => ?_⟩
        rw [spec_l72Note.u, e1, e3, e5, e7]
        simp only []
        rw [et, e12]
        refine (cf (df (by omega))).trans ((cf (df (by omega))).trans ((ct (dt (by omega))).trans ?_))
        rw [ex]
        exact ct (by simp; omega)
      · by_cases h3 : r12 = 3
        · obtain ⟨s, q, s1, q1, q2, hs⟩ := spec_l72Text.tot hl hn (p + 1 + 1 + 1 + 1 + 1 + 1) (by omega)
          refine ⟨(r1 : Int), w64 ((1 : Int) + (r3 : Int)), (r5 : Int), w64 ((1 : Int) + (r7 : Int)), s, q, s1, by omega, by omega, fun K => ?_⟩
          rw [spec_l72Note.u, e1, e3, e5, e7]
          simp only []
          rw [et, e12]
          refine (cf (df (by omega))).trans ((cf (df (by omega))).trans ((cf (df (by omega))).trans ((ct (dt (by omega))).trans ?_)))
          exact hs _
        · by_cases h4 : r12 = 4
          · obtain ⟨x, ex, cx, _⟩ := spec_l6Rd_pick.tot hl hn (p + 1 + 1 + 1 + 1 + 1 + 1) (by omega) 2 (by omega)
            have cx := cx (by omega)
            refine ⟨(r1 : Int), w64 ((1 : Int) + (r3 : Int)), ([(-1), 4] : List Int).getD x 0, w64 ((1 : Int) + (r7 : Int)), t, p + 1 + 1 + 1 + 1 + 1 + 1 + 1, ht, by omega, by omega, fun K => ?_⟩
            rw [spec_l72Note.u, e1, e3, e5, e7]
            simp only []
            rw [et, e12]
            refine (cf (df (by omega))).trans ((cf (df (by omega))).trans ((cf (df (by omega))).trans ((cf (df (by omega))).trans ((ct (dt (by omega))).trans ?_))))
            rw [ex]
            exact ct (by simp; omega)
          · refine ⟨(r1 : Int), w64 ((1 : Int) + (r3 : Int)), (r5 : Int), w64 ((1 : Int) + (r7 : Int)), t, p + 1 + 1 + 1 + 1 + 1 + 1, ht, by omega, by omega, fun K => ?_⟩
            rw [spec_l72Note.u, e1, e3, e5, e7]
            simp only []
            rw [et, e12]
            exact (cf (df (by omega))).trans ((cf (df (by omega))).trans ((cf (df (by omega))).trans ((cf (df (by omega))).trans (cf (df (by omega))))))
theorem spec_l22Three.tot (a b c : Nat) (ha : a < 1000) (hb : b < 1000) (hc : c < 1000) : ∃ s : ByteArray, s.size ≤ 11 ∧ ∀ {R : Type} (K : ByteArray → Option R), spec_l22Three.c 4194304 (a : Int) (b : Int) (c : Int) K = K s := by
  have hs : (ByteArray.mk #[32]).size = 1 := rfl
  have e1 := decL_length (n := a) (d := 2) (by omega)
  have e2 := decL_length (n := b) (d := 2) (by omega)
  have e3 := decL_length (n := c) (d := 2) (by omega)
  have b1 := ba_size (decL a)
  have b2 := ba_size (decL b)
  have b3 := ba_size (decL c)
  refine ⟨ba (decL a) ++ ByteArray.mk #[32] ++ ba (decL b) ++ ByteArray.mk #[32] ++ ba (decL c), by simp only [sz_append]; omega, fun K => ?_⟩
  rw [spec_l22Three.u, spec_l6Dec.val _ (by omega)]
  refine (ct (dt (by omega))).trans ?_
  rw [spec_l6Dec.val _ (by omega)]
  refine (ct (dt (by simp only [sz_append]; omega))).trans ((ct (dt (by simp only [sz_append]; omega))).trans ?_)
  simp only []
  rw [spec_l6Dec.val _ (by omega)]
  exact ct (dt (by simp only [sz_append]; omega))
theorem spec_l72Rec.tot {l : List Int} (hl : Byt l) (hn : l.length ≤ 2000) (p : Nat) (hp : p < 600000000000) : ∃ (t : ByteArray) (q : Nat), t.size ≤ 100 ∧ p ≤ q ∧ q ≤ p + 70 ∧ ∀ {R : Type} (K : ByteArray → Int → Option R), spec_l72Rec.c 4194304 l (p : Int) K = K t (q : Int) := by
  have s5 : (ByteArray.mk #[116, 105, 109, 101, 32]).size = 5 := rfl
  have s4 : (ByteArray.mk #[108, 101, 116, 32]).size = 4 := rfl
  have s4' : (ByteArray.mk #[101, 97, 116, 32]).size = 4 := rfl
  have w : ∀ x : Nat, x < 100 → w64 ((1 : Int) + (x : Int)) = ((1 + x : Nat) : Int) := fun x h => (w64_id (x := 1 + (x : Int)) (by omega) (by omega)).trans (by omega)
  obtain ⟨r1, e1, _, _⟩ := spec_l6Rd_pick.tot hl hn p (by omega) 8 (by omega)
  by_cases h0 : r1 = 0
  · obtain ⟨r3, e3, c3, _⟩ := spec_l6Rd_pick.tot hl hn (p + 1) (by omega) 30 (by omega)
    have c3 := c3 (by omega)
    have hd := decL_length (n := r3) (d := 2) (by omega)
    have hb := ba_size (decL r3)
    refine ⟨ByteArray.mk #[116, 105, 109, 101, 32] ++ ba (decL r3), p + 1 + 1, by simp only [sz_append]; omega, by omega, by omega, fun K => ?_⟩
    rw [spec_l72Rec.u, e1]
    refine (ct (dt (by omega))).trans ?_
    rw [e3, spec_l6Dec.val _ (by omega)]
    exact ct (dt (by omega))
  · by_cases h1 : r1 = 1
    · obtain ⟨x, ex, cx, _⟩ := spec_l6Rd_pick.tot hl hn (p + 1) (by omega) 4 (by omega)
      obtain ⟨y, ey, cy, _⟩ := spec_l6Rd_pick.tot hl hn (p + 1 + 1) (by omega) 3 (by omega)
      obtain ⟨z, ez, cz, _⟩ := spec_l6Rd_pick.tot hl hn (p + 1 + 1 + 1) (by omega) 30 (by omega)
      have cx := cx (by omega)
      have cy := cy (by omega)
      have cz := cz (by omega)
      obtain ⟨s, s1, hs⟩ := spec_l22Three.tot x (1 + y) (1 + z) (by omega) (by omega) (by omega)
      refine ⟨ByteArray.mk #[108, 101, 116, 32] ++ s, p + 1 + 1 + 1 + 1, by simp only [sz_append]; omega, by omega, by omega, fun K => ?_⟩
      rw [spec_l72Rec.u, e1]
      refine (cf (df (by omega))).trans ((ct (dt (by omega))).trans ?_)
      rw [ex, ey, ez, w y (by omega), w z (by omega), hs]
      exact ct (dt (by omega))
    · by_cases h2 : r1 = 2
      · obtain ⟨x, ex, cx, _⟩ := spec_l6Rd_pick.tot hl hn (p + 1) (by omega) 4 (by omega)
        obtain ⟨y, ey, cy, _⟩ := spec_l6Rd_pick.tot hl hn (p + 1 + 1) (by omega) 3 (by omega)
        obtain ⟨z, ez, cz, _⟩ := spec_l6Rd_pick.tot hl hn (p + 1 + 1 + 1) (by omega) 30 (by omega)
        have cx := cx (by omega)
        have cy := cy (by omega)
        have cz := cz (by omega)
        obtain ⟨s, s1, hs⟩ := spec_l22Three.tot x (1 + y) (1 + z) (by omega) (by omega) (by omega)
        refine ⟨ByteArray.mk #[101, 97, 116, 32] ++ s, p + 1 + 1 + 1 + 1, by simp only [sz_append]; omega, by omega, by omega, fun K => ?_⟩
        rw [spec_l72Rec.u, e1]
        refine (cf (df (by omega))).trans ((cf (df (by omega))).trans ((ct (dt (by omega))).trans ?_))
        rw [ex, ey, ez, w y (by omega), w z (by omega), hs]
        exact ct (dt (by omega))
      · by_cases h3 : r1 = 3
        · obtain ⟨b, b1, hb⟩ := spec_l6Many.tot (ByteArray.mk #[122]) 60 (by omega) (by show 2 * (1 * 60) ≤ _; omega)
          obtain ⟨c, c1, hc⟩ := spec_l6Many.tot (ByteArray.mk #[122]) 61 (by omega) (by show 2 * (1 * 61) ≤ _; omega)
          have b1 : b.size = 60 := b1
          have c1 : c.size = 61 := c1
          obtain ⟨t, t1, ht⟩ := spec_l6Rd_of.tot hl hn (p + 1) (by omega) [(ByteArray.mk #[]), (ByteArray.mk #[119, 104, 97, 116]), (ByteArray.mk #[116, 105, 109, 101]), (ByteArray.mk #[116, 105, 109, 101, 32, 48]), (ByteArray.mk #[116, 105, 109, 101, 32, 48, 49]), (ByteArray.mk #[110, 101, 120, 116, 32, 51]), (ByteArray.mk #[110, 101, 120, 116, 32, 49]), (ByteArray.mk #[109, 97, 114, 107, 32, 48, 32, 49, 32, 53]), (ByteArray.mk #[109, 97, 114, 107, 32, 48, 32, 49]), (ByteArray.mk #[109, 97, 114, 107, 32, 48, 32, 49, 32, 53, 32]), (ByteArray.mk #[104, 101, 108, 100, 32, 48, 32, 49, 32, 50, 32, 57, 32, 120]), (ByteArray.mk #[105, 110, 98, 111, 120, 32, 48, 32, 49, 32, 50, 32, 57, 32, 120]), b, c] (by simp) (by simp)
          refine ⟨t, p + 1 + 1, ?_, by omega, by omega, fun K => ?_⟩
          · simp only [List.mem_cons, List.not_mem_nil, or_false] at t1
            rcases t1 with h | h | h | h | h | h | h | h | h | h | h | h | h | h <;> rw [h] <;> first | omega | (show (_ : Nat) ≤ 100; decide)
          · rw [spec_l72Rec.u, e1]
            refine (cf (df (by omega))).trans ((cf (df (by omega))).trans ((cf (df (by omega))).trans ((ct (dt (by omega))).trans ?_)))
            refine (hb _).trans ((hc _).trans ?_)
            exact ht _
        · obtain ⟨t, t1, ht⟩ := spec_l6Rd_of.tot hl hn (p + 1) (by omega) [(ByteArray.mk #[111, 119, 110, 32]), (ByteArray.mk #[116, 97, 107, 101, 32]), (ByteArray.mk #[116, 97, 107, 101, 32]), (ByteArray.mk #[104, 101, 108, 100, 32]), (ByteArray.mk #[105, 110, 98, 111, 120, 32])] (by simp) (by simp)
          have ht6 : t.size ≤ 6 := by
            simp only [List.mem_cons, List.not_mem_nil, or_false] at t1
            rcases t1 with h | h | h | h | h <;> rw [h] <;> (show (_ : Nat) ≤ 6; decide)
          obtain ⟨a, b, c, d, s, q, s1, q1, q2, hs⟩ := spec_l72Note.tot hl hn (p + 1 + 1) (by omega)
          have hw : (nwB a b c d s).size ≤ 35 := by
            unfold nwB
            cases ho : ntOk a b c d s with
            | false => show (0 : Nat) ≤ 35; omega
            | true => rw [cond_true, ba_size]; exact ntL_length ho
          refine ⟨t ++ nwB a b c d s, q, by simp only [sz_append]; omega, by omega, by omega, fun K => ?_⟩
          rw [spec_l72Rec.u, e1]
          refine (cf (df (by omega))).trans ((cf (df (by omega))).trans ((cf (df (by omega))).trans ((cf (df (by omega))).trans ?_)))
          refine (ht _).trans ?_
          rw [hs, spec_NoteWrite.val]
          exact ct (dt (by omega))
theorem spec_l72Bend.tot {l : List Int} (hl : Byt l) (hn : l.length ≤ 2000) (p : Nat) (hp : p < 600000000000) (t : ByteArray) (ht : t.size ≤ 5000) : ∃ (s : ByteArray) (q : Nat), s.size ≤ 2 * t.size + 1 ∧ p ≤ q ∧ q ≤ p + 10 ∧ ∀ {R : Type} (K : ByteArray → Int → Option R), spec_l72Bend.c 4194304 l (p : Int) t K = K s (q : Int) := by
  by_cases h0 : t.size = 0
  · refine ⟨t, p, by omega, by omega, by omega, fun K => ?_⟩
    rw [spec_l72Bend.u]
    exact ct (dt (by omega))
  · obtain ⟨r1, e1, _, _⟩ := spec_l6Rd_pick.tot hl hn p (by omega) 2 (by omega)
    by_cases h1 : r1 = 0
    · refine ⟨t, p + 1, by omega, by omega, by omega, fun K => ?_⟩
      rw [spec_l72Bend.u]
      refine (cf (df (by omega))).trans ?_
      rw [e1]
      exact ct (dt (by omega))
    · obtain ⟨i, e3, c3, _⟩ := spec_l6Rd_pick.tot hl hn (p + 1) (by omega) (t.size : Int) (by omega)
      have c3 := c3 (by omega)
      have hi : i < t.size := by omega
      obtain ⟨r5, e5, _, _⟩ := spec_l6Rd_pick.tot hl hn (p + 1 + 1) (by omega) 5 (by omega)
      have w1 : w64 ((i : Int) + 1) = ((i + 1 : Nat) : Int) := w64_p1 i (by omega)
      have x1 : (t.extract 0 i).size = i := by rw [← tx_length, tx_extract0, List.length_take, tx_length]; omega
      have x2 : (t.extract (i + 1) t.size).size = t.size - (i + 1) := by rw [← tx_length, tx_extractEnd, List.length_drop, tx_length]
      have x3 : (t.extract i t.size).size = t.size - i := by rw [← tx_length, tx_extractEnd, List.length_drop, tx_length]
      have start : ∀ {R : Type} (K : ByteArray → Int → Option R) (o : Option R) (X : Option R), (spec_l72Bend.c 4194304 l (p : Int) t K = X) → X = o → spec_l72Bend.c 4194304 l (p : Int) t K = o := fun K o X a b => a.trans b
      by_cases g0 : r5 = 0
      · refine ⟨t.extract 0 i ++ t.extract (i + 1) t.size, p + 1 + 1 + 1, by simp only [sz_append]; omega, by omega, by omega, fun K => ?_⟩
        rw [spec_l72Bend.u]
        refine (cf (df (by omega))).trans ?_
        rw [e1]
        refine (cf (df (by omega))).trans ?_
        rw [e3, e5]
        refine (ct (dt (by omega))).trans ?_
        simp only [w1, Int.toNat_natCast]
        refine (ct (by simp; omega)).trans ((ct (by simp; omega)).trans ?_)
        exact ct (dt (by omega))
      · by_cases g1 : r5 = 1
        · obtain ⟨s, s1, hs⟩ := spec_l6Rd_of.tot hl hn (p + 1 + 1 + 1) (by omega) [(ByteArray.mk #[32]), (ByteArray.mk #[48]), (ByteArray.mk #[45]), (ByteArray.mk #[49]), (ByteArray.mk #[120]), (ByteArray.mk #[58]), (ByteArray.mk #[59])] (by simp) (by simp)
          have hs1 : s.size = 1 := by
            simp only [List.mem_cons, List.not_mem_nil, or_false] at s1
            rcases s1 with h | h | h | h | h | h | h <;> rw [h] <;> rfl
          refine ⟨t.extract 0 i ++ s ++ t.extract i t.size, p + 1 + 1 + 1 + 1, by simp only [sz_append]; omega, by omega, by omega, fun K => ?_⟩
          rw [spec_l72Bend.u]
          refine (cf (df (by omega))).trans ?_
          rw [e1]
          refine (cf (df (by omega))).trans ?_
          rw [e3, e5]
          refine (cf (df (by omega))).trans ((ct (dt (by omega))).trans ?_)
          simp only [Int.toNat_natCast]
          refine (ct (by simp; omega)).trans ?_
          rw [hs]
          refine (ct (dt (by omega))).trans ((ct (by simp; omega)).trans ?_)
          exact ct (dt (by simp only [sz_append]; omega))
        · by_cases g2 : r5 = 2
          · obtain ⟨s, s1, hs⟩ := spec_l6Rd_of.tot hl hn (p + 1 + 1 + 1) (by omega) [(ByteArray.mk #[57]), (ByteArray.mk #[45]), (ByteArray.mk #[59]), (ByteArray.mk #[32]), (ByteArray.mk #[10])] (by simp) (by simp)
            have hs1 : s.size = 1 := by
              simp only [List.mem_cons, List.not_mem_nil, or_false] at s1
              rcases s1 with h | h | h | h | h <;> rw [h] <;> rfl
            refine ⟨t.extract 0 i ++ s ++ t.extract (i + 1) t.size, p + 1 + 1 + 1 + 1, by simp only [sz_append]; omega, by omega, by omega, fun K => ?_⟩
            rw [spec_l72Bend.u]
            refine (cf (df (by omega))).trans ?_
            rw [e1]
            refine (cf (df (by omega))).trans ?_
            rw [e3, e5]
            refine (cf (df (by omega))).trans ((cf (df (by omega))).trans ((ct (dt (by omega))).trans ?_))
            simp only [w1, Int.toNat_natCast]
            refine (ct (by simp; omega)).trans ?_
            rw [hs]
            refine (ct (dt (by omega))).trans ((ct (by simp; omega)).trans ?_)
            exact ct (dt (by simp only [sz_append]; omega))
          · by_cases g3 : r5 = 3
            · refine ⟨t ++ t, p + 1 + 1 + 1, by simp only [sz_append]; omega, by omega, by omega, fun K => ?_⟩
              rw [spec_l72Bend.u]
              refine (cf (df (by omega))).trans ?_
              rw [e1]
              refine (cf (df (by omega))).trans ?_
              rw [e3, e5]
              refine (cf (df (by omega))).trans ((cf (df (by omega))).trans ((cf (df (by omega))).trans ((ct (dt (by omega))).trans ?_)))
              exact ct (dt (by omega))
            · refine ⟨t.extract 0 i, p + 1 + 1 + 1, by omega, by omega, by omega, fun K => ?_⟩
              rw [spec_l72Bend.u]
              refine (cf (df (by omega))).trans ?_
              rw [e1]
              refine (cf (df (by omega))).trans ?_
              rw [e3, e5]
              refine (cf (df (by omega))).trans ((cf (df (by omega))).trans ((cf (df (by omega))).trans ((cf (df (by omega))).trans ?_)))
              simp only [Int.toNat_natCast]
              exact ct (by simp; omega)
theorem spec_ShelfForce.val {R : Type} (t : ByteArray) (f : Int) (K : ByteArray → Int → Option R) : spec_ShelfForce.c 4194304 t f K = K (forceL t f).1 (forceL t f).2 := by
  rw [spec_ShelfForce.u, spec_ShelfOk.val]
  cases h : okL t f with
  | false =>
    refine (ct rfl).trans ?_
    rw [forceL, if_neg (by rw [h]; simp)]
  | true =>
    refine (cf rfl).trans ?_
    rw [forceL, if_pos h]
theorem addL_size {t : ByteArray} {f : Int} {r : ByteArray} (ht : t.size ≤ 2400) : (addL t f r).1.size ≤ 2400 := by
  unfold addL
  cases okL t f with
  | false => show (0 : Nat) ≤ 2400; omega
  | true =>
    cases inB (r.size : Int) 1 60 with
    | false => exact ht
    | true =>
      by_cases h : 2400 < t.size + (ba (recL (tx r))).size
      · rw [dt h]; exact ht
      · rw [df h]
        show (t ++ ba (recL (tx r))).size ≤ 2400
        rw [sz_append]
        omega
theorem spec_l72Shelf.l15r_tot {l : List Int} (hl : Byt l) (hn : l.length ≤ 2000) (m : Nat) : ∀ (i p : Nat) (t : ByteArray), 40 - i = m → i ≤ 40 → p + 10 * m < 600000000000 → t.size ≤ 2400 + 200 * i →
    ∃ (s : ByteArray) (q : Nat), s.size ≤ 10400 ∧ p ≤ q ∧ q ≤ p + 10 * m + 10 ∧ ∀ {R : Type} (u : ByteArray) (v f : Int) (x : Int → ByteArray → Option R) (n : Nat), m < n → spec_l72Shelf.l15r (spec_l72Shelf.g 4194304) 4194304 u v f l x n (i : Int) (p : Int) t = x (q : Int) s := by
  induction m with
  | zero =>
    intro i p t h1 h2 h4 h5
    obtain ⟨r1, e1, c1, _⟩ := spec_l6Rd_pick.tot hl hn p (by omega) 3 (by omega)
    have c1 := c1 (by omega)
    have w : w64 ((38 : Int) + (r1 : Int)) = ((38 + r1 : Nat) : Int) := (w64_id (x := 38 + (r1 : Int)) (by omega) (by omega)).trans (by omega)
    refine ⟨t, p + 1, by omega, by omega, by omega, fun u v f x n hm => ?_⟩
    obtain ⟨n, rfl⟩ := Nat.exists_eq_succ_of_ne_zero (n := n) (by omega)
    rw [spec_l72Shelf.l15r_u, e1]
    simp only [w]
    exact cf (df (by omega))
  | succ m ih =>
    intro i p t h1 h2 h4 h5
    obtain ⟨r1, e1, c1, _⟩ := spec_l6Rd_pick.tot hl hn p (by omega) 3 (by omega)
    have c1 := c1 (by omega)
    have w : w64 ((38 : Int) + (r1 : Int)) = ((38 + r1 : Nat) : Int) := (w64_id (x := 38 + (r1 : Int)) (by omega) (by omega)).trans (by omega)
    by_cases h : i < 38 + r1
    · obtain ⟨r4, e4, c4, _⟩ := spec_l6Rd_pick.tot hl hn (p + 1) (by omega) 3 (by omega)
      have c4 := c4 (by omega)
      have w2 : w64 ((58 : Int) + (r4 : Int)) = ((58 + r4 : Nat) : Int) := (w64_id (x := 58 + (r4 : Int)) (by omega) (by omega)).trans (by omega)
      obtain ⟨c, cs, hc⟩ := spec_l6Many.tot (ByteArray.mk #[102]) (58 + r4) (by omega) (by show 2 * (1 * (58 + r4)) ≤ _; omega)
      have cs : c.size = 1 * (58 + r4) := cs
      have hz : (ba (recL (tx c))).size ≤ 200 := by
        have := decL_length (n := c.size) (d := 18) (by omega)
        rw [ba_size, recL_length, tx_length]
        omega
      obtain ⟨s, q, s1, q1, q2, hs⟩ := ih (i + 1) (p + 1 + 1) (t ++ ba (recL (tx c))) (by omega) (by omega) (by omega) (by rw [sz_append]; omega)
      refine ⟨s, q, s1, by omega, by omega, fun u v f x n hm => ?_⟩
      obtain ⟨n, rfl⟩ := Nat.exists_eq_succ_of_ne_zero (n := n) (by omega)
      rw [spec_l72Shelf.l15r_u, e1]
      simp only [w]
      refine (ct (dt (by omega))).trans ?_
      rw [e4, w2]
      refine (hc _).trans ?_
      rw [spec_l11Rec.val _ (by omega), w64_p1 i (by omega)]
      refine (ct (dt (by omega))).trans ?_
      exact hs u v f x n (by omega)
    · refine ⟨t, p + 1, by omega, by omega, by omega, fun u v f x n hm => ?_⟩
      obtain ⟨n, rfl⟩ := Nat.exists_eq_succ_of_ne_zero (n := n) (by omega)
      rw [spec_l72Shelf.l15r_u, e1]
      simp only [w]
      exact cf (df (by omega))
theorem spec_l72Shelf.l4r_tot {l : List Int} (hl : Byt l) (hn : l.length ≤ 2000) (m : Nat) : ∀ (p : Nat) (t : ByteArray) (f : Int), m ≤ 100 → p + 100 * m < 500000000000 → t.size ≤ 2400 →
    ∃ (s : ByteArray) (g : Int) (q : Nat), s.size ≤ 2400 ∧ p ≤ q ∧ q ≤ p + 100 * m ∧ ∀ {R : Type} (u : ByteArray) (v : Int) (x : Int → ByteArray → Int → Option R) (n : Nat), m < n → spec_l72Shelf.l4r (spec_l72Shelf.g 4194304) 4194304 u v l x n (m : Int) (p : Int) t f = x (q : Int) s g := by
  induction m with
  | zero =>
    intro p t f h1 h3 h4
    refine ⟨t, f, p, h4, by omega, by omega, fun u v x n hm => ?_⟩
    obtain ⟨n, rfl⟩ := Nat.exists_eq_succ_of_ne_zero (n := n) (by omega)
    rw [spec_l72Shelf.l4r_u]
    exact cf rfl
  | succ m ih =>
    intro p t f h1 h3 h4
    obtain ⟨r, q, r1, q1, q2, hr⟩ := spec_l72Rec.tot hl hn p (by omega)
    obtain ⟨r6, e6, _, _⟩ := spec_l6Rd_pick.tot hl hn q (by omega) 3 (by omega)
    have w : w64 (((m + 1 : Nat) : Int) - 1) = (m : Int) := (w64_id (x := ((m + 1 : Nat) : Int) - 1) (by omega) (by omega)).trans (by omega)
    have ha := addL_size (f := f) (r := r) h4
    by_cases h0 : r6 = 0
    · have hf : (forceL (addL t f r).1 (addL t f r).2.1).1.size ≤ 2400 := by
        unfold forceL
        split
        · exact ha
        · show (0 : Nat) ≤ 2400; omega
      obtain ⟨s, g, q', s1, q3, q4, hs⟩ := ih (q + 1) (forceL (addL t f r).1 (addL t f r).2.1).1 (forceL (addL t f r).1 (addL t f r).2.1).2 (by omega) (by omega) hf
      refine ⟨s, g, q', s1, by omega, by omega, fun u v x n hm => ?_⟩
      obtain ⟨n, rfl⟩ := Nat.exists_eq_succ_of_ne_zero (n := n) (by omega)
      rw [spec_l72Shelf.l4r_u, w]
      refine (ct (dt (by omega))).trans ?_
      rw [hr, spec_ShelfAdd.val, e6]
      refine (ct (dt (by omega))).trans ?_
      rw [spec_ShelfForce.val]
      exact hs u v x n (by omega)
    · obtain ⟨s, g, q', s1, q3, q4, hs⟩ := ih (q + 1) (addL t f r).1 (addL t f r).2.1 (by omega) (by omega) ha
      refine ⟨s, g, q', s1, by omega, by omega, fun u v x n hm => ?_⟩
      obtain ⟨n, rfl⟩ := Nat.exists_eq_succ_of_ne_zero (n := n) (by omega)
      rw [spec_l72Shelf.l4r_u, w]
      refine (ct (dt (by omega))).trans ?_
      rw [hr, spec_ShelfAdd.val, e6]
      refine (cf (df (by omega))).trans ?_
      exact hs u v x n (by omega)
theorem spec_l72Shelf.tot {l : List Int} (hl : Byt l) (hn : l.length ≤ 2000) (p : Nat) (hp : p < 400000000000) : ∃ (t : ByteArray) (f : Int) (q : Nat), t.size ≤ 10400 ∧ p ≤ q ∧ q ≤ p + 3000 ∧ ∀ {R : Type} (K : ByteArray → Int → Int → Option R), spec_l72Shelf.c 4194304 l (p : Int) K = K t f (q : Int) := by
  obtain ⟨r1, e1, c1, _⟩ := spec_l6Rd_pick.tot hl hn p (by omega) 9 (by omega)
  have c1 := c1 (by omega)
  have z0 : (ByteArray.mk #[]).size = 0 := rfl
  obtain ⟨s, g, q, s1, q1, q2, hs⟩ := spec_l72Shelf.l4r_tot hl hn r1 (p + 1) (ByteArray.mk #[]) 0 (by omega) (by omega) (by omega)
  obtain ⟨r2, e2, _, _⟩ := spec_l6Rd_pick.tot hl hn q (by omega) 14 (by omega)
  by_cases h0 : r2 = 0
  · obtain ⟨b, q', b1, q3, q4, hb⟩ := spec_l72Bend.tot hl hn (q + 1) (by omega) s (by omega)
    refine ⟨b, g, q', by omega, by omega, by omega, fun K => ?_⟩
    rw [spec_l72Shelf.u, e1]
    refine (hs _ _ _ 4194304 (by omega)).trans ?_
    rw [e2]
    refine (ct (dt (by omega))).trans ?_
    rw [hb, spec_l72Shelf.s27_u]
  · by_cases h1 : r2 = 1
    · have w : w64 ((s.size : Int) + 1) = ((s.size + 1 : Nat) : Int) := w64_p1 _ (by omega)
      obtain ⟨r3, e3, _, _⟩ := spec_l6Rd_pick.tot hl hn (q + 1) (by omega) ((s.size + 1 : Nat) : Int) (by omega)
      obtain ⟨r5, e5, c5, _⟩ := spec_l6Rd_pick.tot hl hn (q + 1 + 1) (by omega) 3 (by omega)
      have c5 := c5 (by omega)
      refine ⟨s, ([(-1), ((s.size + 1 : Nat) : Int), (r3 : Int)] : List Int).getD r5 0, q + 1 + 1 + 1, by omega, by omega, by omega, fun K => ?_⟩
      rw [spec_l72Shelf.u, e1]
      refine (hs _ _ _ 4194304 (by omega)).trans ?_
      rw [e2]
      refine (cf (df (by omega))).trans ((ct (dt (by omega))).trans ?_)
      simp only [w]
      rw [e3, e5]
      refine (ct (by simp; omega)).trans ?_
      simp only [Int.toNat_natCast]
      rw [spec_l72Shelf.s27_u]
    · by_cases h2 : r2 = 2
      · obtain ⟨b, q', b1, q3, q4, hb⟩ := spec_l72Shelf.l15r_tot hl hn 40 0 (q + 1) s rfl (by omega) (by omega) (by omega)
        refine ⟨b, g, q', by omega, by omega, by omega, fun K => ?_⟩
        rw [spec_l72Shelf.u, e1]
        refine (hs _ _ _ 4194304 (by omega)).trans ?_
        rw [e2]
        refine (cf (df (by omega))).trans ((cf (df (by omega))).trans ((ct (dt (by omega))).trans ?_))
        refine (hb _ _ _ _ 4194304 (by omega)).trans ?_
        rw [spec_l72Shelf.s27_u]
      · refine ⟨s, g, q + 1, by omega, by omega, by omega, fun K => ?_⟩
        rw [spec_l72Shelf.u, e1]
        refine (hs _ _ _ 4194304 (by omega)).trans ?_
        rw [e2]
        refine (cf (df (by omega))).trans ((cf (df (by omega))).trans ((cf (df (by omega))).trans ?_))
        rw [spec_l72Shelf.s27_u]
theorem spec_l6Open.val {l : List Int} (h : Byt l) : ∃ l', Byt l' ∧ l'.length ≤ 2000 ∧ ∀ {R : Type} (K : List Int → Int → Option R), spec_l6Open.c 4194304 l K = K l' ((0 : Nat) : Int) := by
  by_cases hl : 2000 < l.length
  · refine ⟨l.take 2000, byt_take h 2000, by rw [List.length_take]; omega, fun K => ?_⟩
    rw [spec_l6Open.u]
    exact (ct (dt (by omega))).trans (ct (by simp; omega))
  · refine ⟨l, h, by omega, fun K => ?_⟩
    rw [spec_l6Open.u]
    exact cf (df (by omega))
theorem spec_DrawShelfPack.l4r_tot {l : List Int} (hl : Byt l) (hn : l.length ≤ 2000) (m : Nat) : ∀ (p : Nat) (w : List ByteArray), m ≤ 100 → p + 100 * m < 500000000000 → w.length + m ≤ 1000 →
    ∃ (y : List ByteArray) (q : Nat), y.length = w.length + m ∧ p ≤ q ∧ q ≤ p + 100 * m ∧ ∀ {R : Type} (u : ByteArray) (v : Int) (x : Int → List ByteArray → Option R) (n : Nat), m < n → spec_DrawShelfPack.l4r (spec_DrawShelfPack.g 4194304) 4194304 u v l x n (m : Int) (p : Int) w = x (q : Int) y := by
  induction m with
  | zero =>
    intro p w h1 h3 h4
    refine ⟨w, p, by omega, by omega, by omega, fun u v x n hm => ?_⟩
    obtain ⟨n, rfl⟩ := Nat.exists_eq_succ_of_ne_zero (n := n) (by omega)
    rw [spec_DrawShelfPack.l4r_u]
    exact cf rfl
  | succ m ih =>
    intro p w h1 h3 h4
    obtain ⟨r, q, r1, q1, q2, hr⟩ := spec_l72Rec.tot hl hn p (by omega)
    have e : w64 (((m + 1 : Nat) : Int) - 1) = (m : Int) := (w64_id (x := ((m + 1 : Nat) : Int) - 1) (by omega) (by omega)).trans (by omega)
    obtain ⟨y, q', y1, q3, q4, hy⟩ := ih q (w ++ [r]) (by omega) (by omega) (by simp; omega)
    refine ⟨y, q', by simp at y1; omega, by omega, by omega, fun u v x n hm => ?_⟩
    obtain ⟨n, rfl⟩ := Nat.exists_eq_succ_of_ne_zero (n := n) (by omega)
    rw [spec_DrawShelfPack.l4r_u, e]
    refine (ct (dt (by omega))).trans ?_
    rw [hr]
    refine (ct (lim_le (by simp; omega))).trans ?_
    exact hy u v x n (by omega)
theorem spec_DrawShelfPack.l10r_tot {l : List Int} (hl : Byt l) (hn : l.length ≤ 2000) (m : Nat) : ∀ (i p : Nat) (w : List ByteArray), 40 - i = m → i ≤ 40 → p + 10 * m < 500000000000 → w.length + m ≤ 1000 →
    ∃ (y : List ByteArray) (q : Nat), y.length ≤ w.length + m ∧ p ≤ q ∧ q ≤ p + 10 * m + 10 ∧ ∀ {R : Type} (u : ByteArray) (v : Int) (x : Int → List ByteArray → Option R) (n : Nat), m < n → spec_DrawShelfPack.l10r (spec_DrawShelfPack.g 4194304) 4194304 u v l x n (i : Int) (p : Int) w = x (q : Int) y := by
  induction m with
  | zero =>
    intro i p w h1 h2 h3 h4
    obtain ⟨r1, e1, c1, _⟩ := spec_l6Rd_pick.tot hl hn p (by omega) 4 (by omega)
    have c1 := c1 (by omega)
    have e : w64 ((37 : Int) + (r1 : Int)) = ((37 + r1 : Nat) : Int) := (w64_id (x := 37 + (r1 : Int)) (by omega) (by omega)).trans (by omega)
    refine ⟨w, p + 1, by omega, by omega, by omega, fun u v x n hm => ?_⟩
    obtain ⟨n, rfl⟩ := Nat.exists_eq_succ_of_ne_zero (n := n) (by omega)
    rw [spec_DrawShelfPack.l10r_u, e1]
    simp only [e]
    exact cf (df (by omega))
  | succ m ih =>
    intro i p w h1 h2 h3 h4
    obtain ⟨r1, e1, c1, _⟩ := spec_l6Rd_pick.tot hl hn p (by omega) 4 (by omega)
    have c1 := c1 (by omega)
    have e : w64 ((37 : Int) + (r1 : Int)) = ((37 + r1 : Nat) : Int) := (w64_id (x := 37 + (r1 : Int)) (by omega) (by omega)).trans (by omega)
    by_cases h : i < 37 + r1
    · obtain ⟨c, cs, hc⟩ := spec_l6Many.tot (ByteArray.mk #[102]) 60 (by omega) (by show 2 * (1 * 60) ≤ _; omega)
      obtain ⟨y, q, y1, q1, q2, hy⟩ := ih (i + 1) (p + 1) (w ++ [c]) (by omega) (by omega) (by omega) (by simp; omega)
      refine ⟨y, q, by simp at y1; omega, by omega, by omega, fun u v x n hm => ?_⟩
      obtain ⟨n, rfl⟩ := Nat.exists_eq_succ_of_ne_zero (n := n) (by omega)
      rw [spec_DrawShelfPack.l10r_u, e1]
      simp only [e]
      refine (ct (dt (by omega))).trans ?_
      refine (hc _).trans ?_
      rw [w64_p1 i (by omega)]
      refine (ct (lim_le (by simp; omega))).trans ?_
      exact hy u v x n (by omega)
    · refine ⟨w, p + 1, by omega, by omega, by omega, fun u v x n hm => ?_⟩
      obtain ⟨n, rfl⟩ := Nat.exists_eq_succ_of_ne_zero (n := n) (by omega)
      rw [spec_DrawShelfPack.l10r_u, e1]
      simp only [e]
      exact cf (df (by omega))
theorem spec_DrawShelfPack.tot {l : List Int} (h : Byt l) : ∃ (t : ByteArray) (f : Int) (rs : List ByteArray), t.size ≤ 10400 ∧ rs.length ≤ 100 ∧ ∀ {R : Type} (K : ByteArray → Int → List ByteArray → Option R), spec_DrawShelfPack.c 4194304 l K = K t f rs := by
  obtain ⟨l', hl, hn, ho⟩ := spec_l6Open.val h
  obtain ⟨r1, e1, c1, _⟩ := spec_l6Rd_pick.tot hl hn 0 (by omega) 8 (by omega)
  have c1 := c1 (by omega)
  obtain ⟨y, q, y1, q1, q2, hy⟩ := spec_DrawShelfPack.l4r_tot hl hn r1 (0 + 1) [] (by omega) (by omega) (by simp; omega)
  simp at y1
  obtain ⟨r2, e2, _, _⟩ := spec_l6Rd_pick.tot hl hn q (by omega) 12 (by omega)
  by_cases h0 : r2 = 0
  · obtain ⟨z, q', z1, q3, q4, hz⟩ := spec_DrawShelfPack.l10r_tot hl hn 40 0 (q + 1) y rfl (by omega) (by omega) (by omega)
    obtain ⟨t, f, q'', t1, _, _, ht⟩ := spec_l72Shelf.tot hl hn q' (by omega)
    refine ⟨t, f, z, t1, by omega, fun K => ?_⟩
    rw [spec_DrawShelfPack.u, ho, e1]
    refine (hy _ _ _ 4194304 (by omega)).trans ?_
    rw [e2]
    refine (ct (dt (by omega))).trans ?_
    refine (hz _ _ _ 4194304 (by omega)).trans ?_
    rw [spec_DrawShelfPack.s16_u, ht]
  · obtain ⟨t, f, q'', t1, _, _, ht⟩ := spec_l72Shelf.tot hl hn (q + 1) (by omega)
    refine ⟨t, f, y, t1, by omega, fun K => ?_⟩
    rw [spec_DrawShelfPack.u, ho, e1]
    refine (hy _ _ _ 4194304 (by omega)).trans ?_
    rw [e2]
    refine (cf (df (by omega))).trans ?_
    rw [spec_DrawShelfPack.s16_u, ht]
theorem laws_FnShelfPack.law {R : Type} (l : List Int) (h : Byt l) (K : Bool → Option R) : laws_FnShelfPack.c 4194304 l K = K true := by
  rw [laws_FnShelfPack.u]
  by_cases h0 : 1048576 < l.length
  · exact ct (dt (by omega))
  · refine (cf (df (by omega))).trans ?_
    obtain ⟨t, f, rs, t1, n1, et⟩ := spec_DrawShelfPack.tot h
    rw [et, spec_ShelfPack.val _ _ _ (by omega), impl_ShelfPack.val _ _ _ (by omega)]
    refine (cf (by simp)).trans ((cf (by simp)).trans ?_)
    rcases packL_cases (t := t) (f := f) (rs := rs) with ha | ⟨hr, hz, hp⟩
    · rw [ha]
      exact (ct rfl).trans ((ct rfl).trans (congrArg K (by simp)))
    · rw [hp]
      refine (cf rfl).trans ?_
      dsimp only
      rw [impl_ShelfRead.val _ (by omega), readL_logB hr]
      simp only [resLog]
      rw [map_ba_tx, laws_lbTexts.val _ _ (by omega)]
      refine (ct (by simp)).trans ((ct (by simp)).trans ?_)
      rw [impl_ShelfOk.val, okL_whole hz (by rw [readL_logB hr])]
end Go.Ev.F
