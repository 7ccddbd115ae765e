/- What the Go functions compute, told in plain words. No condition beyond those that stand in each. -/
import Derived.Test.YtidmkpeokahjoaaDoorEvuFnExactShelfPack
import Derived.Test.YtidmkpeokahjoaaDoorPur
import Derived.Test.YtidmkpeokahjoaaDoorPum
import Derived.Test.YtidmkpeokahjoaaDoorPus
namespace Go.Ev.F
set_option linter.unusedVariables false
set_option linter.unusedSimpArgs false
theorem laws_szShelf.tot (t : ByteArray) (ht : (t.size : Int) ≤ 9223372036854775807) (f : Int) : ∃ r : Int, r ≤ 1048576 ∧ ∀ {R : Type} (K : Int → Option R), laws_szShelf.c 4194304 t f 1048576 K = K r := by
  have e : w64 (1048576 - (t.size : Int)) = 1048576 - (t.size : Int) := w64_id (by omega) (by omega)
  by_cases h : w64 (1048576 - (t.size : Int)) < 0
  · exact ⟨-1, by omega, fun K => by rw [laws_szShelf.u]; exact ct (dt h)⟩
  · exact ⟨w64 (1048576 - (t.size : Int)), by rw [e]; omega, fun K => by rw [laws_szShelf.u]; exact cf (df h)⟩
theorem laws_toShelf.val {R : Type} (t : ByteArray) (f : Int) (K : ByteArray → Int → Option R) : laws_toShelf.c 4194304 t f K = K t f := by rw [laws_toShelf.u]
theorem laws_eqShelf.val {R : Type} (t : ByteArray) (f : Int) (s : ByteArray) (g : Int) (K : Bool → Option R) : laws_eqShelf.c 4194304 t f s g K = K (decide (t = s ∧ f = g)) := by
  rw [laws_eqShelf.u]
  by_cases h1 : t = s
  · refine (cf (by rw [dt h1]; rfl)).trans ?_
    by_cases h2 : f = g
    · refine (cf (by rw [dt h2]; rfl)).trans ?_
      rw [dt ⟨h1, h2⟩]
    · refine (ct (by rw [df h2]; rfl)).trans ?_
      rw [df fun h => h2 h.2]
  · refine (ct (by rw [df h1]; rfl)).trans ?_
    rw [df fun h => h1 h.1]
theorem laws_szStringS.l4r_tot (l : List ByteArray) (hl : l.length ≤ 1048576) (hs : ∀ m ∈ l, (m.size : Int) ≤ 9223372036854775807) : ∀ (d i : Nat) (v : Int), i + d = l.length → 0 ≤ v → v ≤ 1048576 →
    ∃ r : Int, r ≤ 1048576 ∧ ∀ {R : Type} (K : Int → Option R) (n : Nat), d < n → laws_szStringS.l4r (laws_szStringS.g 4194304) 4194304 l K K n v (i : Int) = K r := by
  intro d
  induction d with
  | zero =>
    intro i v h1 h2 h3
    refine ⟨v, h3, fun K n hn => ?_⟩
    obtain ⟨n, rfl⟩ := Nat.exists_eq_succ_of_ne_zero (n := n) (by omega)
    rw [laws_szStringS.l4r_u]
    exact cf (df (by omega))
  | succ d ih =>
    intro i v h1 h2 h3
    have hi : i < l.length := by omega
    have hz := hs l[i] (List.getElem_mem hi)
    have hw : w64 (v - (l[i].size : Int)) = v - (l[i].size : Int) := w64_id (by omega) (by omega)
    by_cases hneg : v - (l[i].size : Int) < 0
    · refine ⟨-1, by omega, fun K n hn => ?_⟩
      obtain ⟨n, rfl⟩ := Nat.exists_eq_succ_of_ne_zero (n := n) (by omega)
      rw [laws_szStringS.l4r_u, Int.toNat_natCast, getD_at hi]
      refine (ct (dt (by omega))).trans ((ct (gd hi)).trans ?_)
      simp only [hw]
      exact ct (dt hneg)
    · obtain ⟨r, r1, hr⟩ := ih (i + 1) (v - (l[i].size : Int)) (by omega) (by omega) (by omega)
      refine ⟨r, r1, fun K n hn => ?_⟩
      obtain ⟨n, rfl⟩ := Nat.exists_eq_succ_of_ne_zero (n := n) (by omega)
      rw [laws_szStringS.l4r_u, Int.toNat_natCast, getD_at hi, w64_p1 i (by omega)]
      refine (ct (dt (by omega))).trans ((ct (gd hi)).trans ?_)
      simp only [hw]
      refine (cf (df hneg)).trans ?_
      exact hr K n (by omega)
theorem laws_szStringS.tot (l : List ByteArray) (hl : (l.length : Int) ≤ 9223372036854775807) (hs : ∀ m ∈ l, (m.size : Int) ≤ 9223372036854775807) (a : Int) (h0 : 0 ≤ a) (ha : a ≤ 1048576) : ∃ r : Int, r ≤ 1048576 ∧ (0 ≤ r → l.length ≤ 1048576) ∧ ∀ {R : Type} (K : Int → Option R), laws_szStringS.c 4194304 l a K = K r := by
  have hw : w64 (a - (l.length : Int)) = a - (l.length : Int) := w64_id (by omega) (by omega)
  by_cases h : 0 ≤ a - (l.length : Int)
  · obtain ⟨r, r1, hr⟩ := laws_szStringS.l4r_tot l (by omega) hs l.length 0 (a - (l.length : Int)) (by omega) (by omega) (by omega)
    refine ⟨r, r1, fun _ => by omega, fun K => ?_⟩
    rw [laws_szStringS.u]
    refine (cf (by rw [hw]; exact df (by omega))).trans ?_
    rw [hw]
    exact hr K 4194304 (by omega)
  · refine ⟨-1, by omega, fun h => by omega, fun K => ?_⟩
    rw [laws_szStringS.u]
    exact ct (by rw [hw]; exact dt (by omega))
theorem spec_l6In.val {R : Type} (k : Nat) (a b c : Int) (K : Bool → Option R) : spec_l6In.c k a b c K = K (inB a b c) := by
  rw [spec_l6In.u]
  unfold inB
  by_cases h : b ≤ a <;> simp [h]
theorem spec_l6Dec.small {R : Type} (n k : Nat) (h : n < 10) (K : ByteArray → Option R) : spec_l6Dec.c (k + 1) (n : Int) K = K (ba (decL n)) := by
  rw [spec_l6Dec.u]
  refine (cf (df (by omega))).trans ((cf (df (by omega))).trans ((ct (dt (by omega))).trans ?_))
  have e : w64 ((48 : Int) + (n : Int)) = ((48 + n : Nat) : Int) := (w64_id (x := 48 + (n : Int)) (by omega) (by omega)).trans (by omega)
  simp only [e]
  rw [ofBytes_one _ (by omega), decL_lt h]
  rfl
theorem spec_l6Dec.deep (d : Nat) : ∀ (n k : Nat), n < 10 ^ (d + 1) → d < k → n < 9223372036854775808 → ∀ {R : Type} (K : ByteArray → Option R), spec_l6Dec.c k (n : Int) K = K (ba (decL n)) := by
  induction d with
  | zero =>
    intro n k h hk _ R K
    obtain ⟨k, rfl⟩ := Nat.exists_eq_succ_of_ne_zero (n := k) (by omega)
    exact spec_l6Dec.small n k (by omega) K
  | succ d ih =>
    intro n k h hk hn R K
    obtain ⟨k, rfl⟩ := Nat.exists_eq_succ_of_ne_zero (n := k) (by omega)
    by_cases h10 : n < 10
    · exact spec_l6Dec.small n k h10 K
    · have hq : n / 10 < 10 ^ (d + 1) := by
        rw [Nat.pow_succ] at h
        exact Nat.div_lt_of_lt_mul (by rw [Nat.mul_comm]; exact h)
      have e1 : w64 (Int.tdiv (n : Int) 10) = ((n / 10 : Nat) : Int) := by
        have := tdivN n 10
        rw [show ((10 : Nat) : Int) = 10 from rfl] at this
        rw [this]; exact w64_nat _ (by omega)
      have e2 : w64 ((48 : Int) + Int.tmod (n : Int) 10) = ((48 + n % 10 : Nat) : Int) := by
        have := tmodN n 10
        rw [show ((10 : Nat) : Int) = 10 from rfl] at this
        rw [this, w64_id (by omega) (by omega)]
        omega
      have hs : (decL (n / 10)).length ≤ 19 := decL_length (d := 18) (by omega)
      rw [spec_l6Dec.u]
      refine (cf (df (by omega))).trans ((cf (df (by omega))).trans ((cf (df (by omega))).trans ((ct rfl).trans ?_)))
      rw [e1, ih (n / 10) k hq (by omega) (by omega)]
      refine (ct rfl).trans ?_
      simp only [e2]
      refine (ct (dt (by rw [ba_size, ofBytes_size]; simp only [List.length_singleton]; omega))).trans ?_
      rw [ofBytes_one _ (by omega), ba_append, decL_ge h10]
      rfl
theorem spec_l6Dec.val {R : Type} (n : Nat) (hn : n < 9223372036854775808) (K : ByteArray → Option R) : spec_l6Dec.c 4194304 (n : Int) K = K (ba (decL n)) := spec_l6Dec.deep 18 n 4194304 (by omega) (by omega) hn K
theorem spec_l3Dec.l4r_val {R : Type} (t : ByteArray) (ht : t.size ≤ 4) (x0 q : Int → Option R) : ∀ (d i n : Nat), i + d = t.size → d < n → (∀ c ∈ (tx t).take i, isDig c = true) →
    spec_l3Dec.l4r (spec_l3Dec.g 4194304) 4194304 t x0 q n ((valL ((tx t).take i) : Nat) : Int) (i : Int) = cond ((tx t).all isDig) (x0 ((valL (tx t) : Nat) : Int)) (q (-1)) := by
  have hl := tx_length t
  intro d
  induction d with
  | zero =>
    intro i n h1 h2 hd
    obtain ⟨n, rfl⟩ := Nat.exists_eq_succ_of_ne_zero (n := n) (by omega)
    rw [List.take_of_length_le (by omega)] at hd ⊢
    rw [spec_l3Dec.l4r_u, List.all_eq_true.2 hd]
    exact cf (df (by omega))
  | succ d ih =>
    intro i n h1 h2 hd
    obtain ⟨n, rfl⟩ := Nat.exists_eq_succ_of_ne_zero (n := n) (by omega)
    have hi : i < t.size := by omega
    have hlt : i < (tx t).length := by omega
    have hno : isDig (tx t)[i] = false → (tx t).all isDig = false := fun hb => by
      rw [List.all_eq_false]
      exact ⟨_, List.getElem_mem hlt, by rw [hb]; simp⟩
    rw [spec_l3Dec.l4r_u, Int.toNat_natCast, byteAt_tx, getD_at hlt, w64_p1 i (by omega)]
    refine (ct (dt (by omega))).trans ((ct (gd hi)).trans ?_)
    by_cases c1 : (((tx t)[i].toNat : Nat) : Int) < 48
    · refine (ct (dt c1)).trans ?_
      rw [hno (by simp [isDig]; omega), cond_false]
    · refine (cf (df c1)).trans ((ct (gd hi)).trans ?_)
      by_cases c2 : (57 : Int) < (((tx t)[i].toNat : Nat) : Int)
      · refine (ct (dt c2)).trans ?_
        rw [hno (by simp [isDig]; omega), cond_false]
      · refine (cf (df c2)).trans ((ct (gd hi)).trans ?_)
        have ht1 : (tx t).take (i + 1) = (tx t).take i ++ [(tx t)[i]] := by rw [List.take_add_one, List.getElem?_eq_getElem hlt]; rfl
        have hv : valL ((tx t).take i) < 10000 := valL_small hd (by rw [List.length_take]; omega)
        have e1 : w64 (w64 (((valL ((tx t).take i) : Nat) : Int) * 10) + w64 (w8 ((((tx t)[i].toNat : Nat) : Int) - 48))) = ((valL ((tx t).take (i + 1)) : Nat) : Int) := by
          rw [ht1, valL_snoc]
          generalize valL ((tx t).take i) = v at hv
          generalize (tx t)[i].toNat = c at c1 c2
          rw [w8_id (x := (c : Int) - 48) (by omega) (by omega), w64_id (x := (c : Int) - 48) (by omega) (by omega), w64_id (x := (v : Int) * 10) (by omega) (by omega), w64_id (by omega) (by omega)]
          omega
        simp only [e1]
        refine ih (i + 1) n (by omega) (by omega) ?_
        rw [ht1]
        intro c hc
        rcases List.mem_append.1 hc with hc | hc
        · exact hd c hc
        · rw [List.mem_singleton] at hc
          subst hc
          simp [isDig]; omega
theorem spec_l3Dec.val {R : Type} (t : ByteArray) (K : Int → Option R) : spec_l3Dec.c 4194304 t K = K (resNum (numL 4 (tx t))) := by
  have hl := tx_length t
  rw [spec_l3Dec.u]
  by_cases h0 : (t.size : Int) < 1
  · refine (ct (dt h0)).trans ?_
    rw [List.eq_nil_of_length_eq_zero (show (tx t).length = 0 by omega), numL_nil]
    rfl
  · refine (cf (df h0)).trans ?_
    by_cases h4 : (4 : Int) < (t.size : Int)
    · refine (ct (dt h4)).trans ?_
      unfold numL
      rw [if_neg (by omega)]
      rfl
    · refine (cf (df h4)).trans ?_
      refine (spec_l3Dec.l4r_val t (by omega) _ _ t.size 0 4194304 (by omega) (by omega) (by simp)).trans ?_
      cases hd : (tx t).all isDig with
      | false =>
        refine (cf rfl).trans ?_
        unfold numL
        rw [if_neg (fun h => by rw [hd] at h; cases h.2.1)]
        rfl
      | true =>
        refine (ct rfl).trans ?_
        have hv : valL (tx t) < 10000 := valL_small (List.all_eq_true.1 hd) (by omega)
        rw [spec_l6Dec.val _ (by omega)]
        by_cases h : decL (valL (tx t)) = tx t
        · refine (cf (by rw [dt (show ba (decL (valL (tx t))) = t by rw [h, ba_tx])]; rfl)).trans ?_
          unfold numL
          rw [if_pos ⟨by omega, hd, h⟩]
          rfl
        · refine (ct (by rw [df (fun e => h (by rw [← tx_ba (decL (valL (tx t))), e]))]; rfl)).trans ?_
          unfold numL
          rw [if_neg (fun h' => h h'.2.2)]
          rfl
theorem spec_l11One.l4r_val {R : Type} (t : ByteArray) (ht : t.size < 4611686018427387904) (K : ByteArray → Int → Option R) : ∀ (d i n : Nat), 3 - i = d → i ≤ 3 → i ≤ col (tx t) → d < n →
    spec_l11One.l4r (spec_l11One.g 4194304) 4194304 t (K (ByteArray.mk #[]) 0) (fun v w => K v w) n (i : Int) = K (resOne (oneL (tx t))).1 (resOne (oneL (tx t))).2 := by
  have hl := tx_length t
  have fin : ∀ i, ¬ (i < t.size ∧ i < 3) → i ≤ col (tx t) → K (ByteArray.mk #[]) 0 = K (resOne (oneL (tx t))).1 (resOne (oneL (tx t))).2 := by
    intro i h hc
    unfold oneL
    rw [if_neg (by omega)]
    rfl
  intro d
  induction d with
  | zero =>
    intro i n hi h3 hc hn
    obtain ⟨n, rfl⟩ := Nat.exists_eq_succ_of_ne_zero (n := n) (by omega)
    rw [spec_l11One.l4r_u]
    by_cases h : (i : Int) < (t.size : Int)
    · exact (ct (dt h)).trans ((cf (df (by omega))).trans (fin i (by omega) hc))
    · exact (cf (df h)).trans (fin i (by omega) hc)
  | succ d ih =>
    intro i n hi h3 hc hn
    obtain ⟨n, rfl⟩ := Nat.exists_eq_succ_of_ne_zero (n := n) (by omega)
    rw [spec_l11One.l4r_u, Int.toNat_natCast, byteAt_tx]
    by_cases h : (i : Int) < (t.size : Int)
    · refine (ct (dt h)).trans ((ct (dt (by omega))).trans ((ct (gd (by omega))).trans ?_))
      by_cases h58 : (tx t).getD i 0 = 58
      · refine (cf (by rw [h58]; rfl)).trans ((ct (by simp; omega)).trans ?_)
        have hcol := col_eq hc (by omega) h58
        have ho : oneL (tx t) = oneAt (tx t) i := by unfold oneL; rw [hcol, if_pos (by omega)]
        rw [spec_l3Dec.val, tx_extract0, ho]
        unfold oneAt
        cases hm : numL 4 ((tx t).take i) with
        | none => exact ct rfl
        | some m =>
          have hnb : m < 10000 := by
            obtain ⟨e1, e2⟩ := numL_some.1 hm
            have h3 := valL_small (decL_dig m) (by rw [← e1]; exact e2)
            rw [valL_dec] at h3
            exact h3
          simp only [resNum]
          have w2 : w64 ((i : Int) + 1) = ((i + 1 : Nat) : Int) := w64_p1 i (by omega)
          have w1 : w64 ((i : Int) + 2) = ((i + 2 : Nat) : Int) := w64_p2 i (by omega)
          have w3 : w64 (((i + 2 : Nat) : Int) + (m : Int)) = ((i + 2 + m : Nat) : Int) := w64_pn _ _ (by omega)
          have w4 : w64 (((i + 1 : Nat) : Int) + (m : Int)) = ((i + 1 + m : Nat) : Int) := w64_pn _ _ (by omega)
          simp only [w1, w2, w3, w4, Int.toNat_natCast]
          by_cases c1 : (m : Int) < 1
          · refine (ct (dt c1)).trans ?_
            rw [if_neg (by omega)]; rfl
          · refine (cf (df c1)).trans ?_
            by_cases c2 : (60 : Int) < (m : Int)
            · refine (ct (dt c2)).trans ?_
              rw [if_neg (by omega)]; rfl
            · refine (cf (df c2)).trans ?_
              by_cases c3 : (t.size : Int) < ((i + 2 + m : Nat) : Int)
              · refine (ct (dt c3)).trans ?_
                rw [if_neg (by omega)]; rfl
              · refine (cf (df c3)).trans ((ct (gd (by omega))).trans ?_)
                rw [byteAt_tx]
                by_cases c4 : (tx t).getD (i + 1 + m) 0 = 59
                · refine (cf (by rw [c4]; rfl)).trans ((ct (by simp; omega)).trans ?_)
                  rw [if_pos ⟨by omega, by omega, by omega, c4⟩]
                  simp only [resOne]
                  congr 1
                  apply tx_inj
                  rw [tx_extract, tx_ba]
                  congr 1
                  omega
                · refine (ct ?_).trans ?_
                  · rw [df (fun h => c4 (UInt8.toNat_inj.1 (by have h0 : (59 : UInt8).toNat = 59 := rfl; omega)))]; rfl
                  · rw [if_neg (fun h => c4 h.2.2.2)]; rfl
      · refine (ct ?_).trans ?_
        · rw [df (fun h => h58 (UInt8.toNat_inj.1 (by have h0 : (58 : UInt8).toNat = 58 := rfl; omega)))]; rfl
        · rw [w64_p1 i (by omega)]
          exact ih (i + 1) n (by omega) (by omega) (col_lt hc (by omega) h58) (by omega)
    · exact (cf (df h)).trans (fin i (by omega) hc)
theorem spec_l11One.val {R : Type} (t : ByteArray) (ht : t.size < 4611686018427387904) (K : ByteArray → Int → Option R) : spec_l11One.c 4194304 t K = K (resOne (oneL (tx t))).1 (resOne (oneL (tx t))).2 := by
  rw [spec_l11One.u]
  exact spec_l11One.l4r_val t ht K 3 0 4194304 rfl (by omega) (by omega) (by omega)
theorem spec_ShelfRead.l3r_val {R : Type} (t : ByteArray) (ht : t.size ≤ 2097152) (x : Int → List ByteArray → Option R) (d : Nat) : ∀ i, t.size - i = d → i ≤ t.size → ∀ (n : Nat) (acc : List ByteArray), 4 * acc.length ≤ i → d < n →
    spec_ShelfRead.l3r (spec_ShelfRead.g 4194304) 4194304 t x x n (i : Int) acc = x ((i + (readL ((tx t).drop i)).2 : Nat) : Int) (acc ++ (readL ((tx t).drop i)).1.map ba) := by
  have hl := tx_length t
  induction d using Nat.strongRecOn with
  | ind d ih =>
    intro i hi hi2 n acc ha hn
    obtain ⟨n, rfl⟩ := Nat.exists_eq_succ_of_ne_zero (n := n) (by omega)
    rw [spec_ShelfRead.l3r_u, Int.toNat_natCast]
    by_cases h : (i : Int) < (t.size : Int)
    · refine (ct (dt h)).trans ((ct (by simp; omega)).trans ?_)
      rw [spec_l11One.val _ (by rw [← tx_length, tx_extractEnd, List.length_drop]; omega), tx_extractEnd]
      cases ho : oneL ((tx t).drop i) with
      | none =>
        refine (ct rfl).trans ?_
        rw [readL_none ho]
        simp
      | some p =>
        obtain ⟨r, m⟩ := p
        obtain ⟨k1, k2⟩ := oneL_len ho
        rw [List.length_drop] at k2
        refine (cf (df (by simp [resOne]; omega))).trans ((ct (lim_le (by simp; omega))).trans ?_)
        have e1 : w64 ((i : Int) + (resOne (some (r, m))).2) = ((i + m : Nat) : Int) := w64_pn i m (by omega)
        rw [e1, ih (t.size - (i + m)) (by omega) (i + m) rfl (by omega) n _ (by simp; omega) (by omega), readL_some ho, List.drop_drop]
        simp only [resOne, List.map_cons, List.append_assoc, List.singleton_append]
        congr 2
        omega
    · refine (cf (df h)).trans ?_
      rw [List.drop_eq_nil_of_le (by omega), readL_none (l := []) (by decide)]
      simp
theorem spec_ShelfRead.val {R : Type} (t : ByteArray) (ht : t.size ≤ 2097152) (K : List ByteArray → Int → Option R) : spec_ShelfRead.c 4194304 t K = K (resLog (readL (tx t))).1 (resLog (readL (tx t))).2 := by
  rw [spec_ShelfRead.u]
  refine (spec_ShelfRead.l3r_val t ht (fun v w => K w v) t.size 0 (by omega) (by omega) 4194304 [] (by simp) (by omega)).trans ?_
  simp [resLog]
theorem spec_ShelfOk.val {R : Type} (t : ByteArray) (f : Int) (K : Bool → Option R) : spec_ShelfOk.c 4194304 t f K = K (okL t f) := by
  rw [spec_ShelfOk.u]
  by_cases h : (2400 : Int) < (t.size : Int)
  · refine (ct (dt h)).trans ?_
    unfold okL
    rw [df (show ¬ t.size ≤ 2400 by omega)]
    rfl
  · refine (cf (df h)).trans ?_
    rw [spec_l6In.val]
    by_cases h2 : 0 ≤ f ∧ f ≤ (t.size : Int)
    · obtain ⟨i, rfl⟩ := Int.eq_ofNat_of_zero_le h2.1
      have hi := inB_yes h2.1 h2.2
      rw [hi]
      refine (cf rfl).trans ?_
      rw [spec_ShelfRead.val t (by omega)]
      refine (ct (by simp; omega)).trans ?_
      rw [Int.toNat_natCast, spec_ShelfRead.val _ (by rw [← tx_length, tx_extract0, List.length_take, tx_length]; omega), tx_extract0]
      unfold okL
      rw [hi, dt (show t.size ≤ 2400 by omega), Int.toNat_natCast]
      show cond (decide (((readL (tx t)).2 : Int) = (t.size : Int))) (K (decide (((readL ((tx t).take i)).2 : Int) = (i : Int)))) (K false) = K (true && true && (decide ((readL (tx t)).2 = t.size) && decide (((readL ((tx t).take i)).2 : Int) = (i : Int))))
      by_cases h3 : (readL (tx t)).2 = t.size
      · refine (ct (dt (by omega))).trans ?_
        rw [dt h3, Bool.true_and, Bool.true_and, Bool.true_and]
      · refine (cf (df (by omega))).trans ?_
        rw [df h3, Bool.false_and, Bool.and_false]
    · rw [inB_no h2]
      refine (ct rfl).trans ?_
      unfold okL
      rw [inB_no h2, Bool.and_false, Bool.false_and]
theorem spec_l11RecOk.val {R : Type} (t : ByteArray) (K : Bool → Option R) : spec_l11RecOk.c 4194304 t K = K (inB (t.size : Int) 1 60) := by
  rw [spec_l11RecOk.u, spec_l6In.val]
theorem spec_l11Rec.val {R : Type} (t : ByteArray) (ht : t.size ≤ 1099511627776) (K : ByteArray → Option R) : spec_l11Rec.c 4194304 t K = K (ba (recL (tx t))) := by
  have hs : (ByteArray.mk #[58]).size = 1 := rfl
  have hs' : (ByteArray.mk #[59]).size = 1 := rfl
  have hd := decL_length (n := t.size) (d := 18) (by omega)
  have hb := ba_size (decL t.size)
  rw [spec_l11Rec.u, spec_l6Dec.val _ (by omega)]
  refine (ct (dt (by omega))).trans ((ct (dt (by simp only [sz_append]; omega))).trans ((ct (dt (by simp only [sz_append]; omega))).trans ?_))
  refine congrArg K ?_
  apply tx_inj
  rw [tx_append, tx_append, tx_append, tx_ba, tx_ba, recL, tx_length]
  rfl
theorem spec_ShelfPack.l4r_val {R : Type} (rs : List ByteArray) (hl : rs.length ≤ 2097152) (t : ByteArray) (f : Int) (u : ByteArray) (v : Int) (x0 : ByteArray → Option R) (q : Bool → Option R) : ∀ (d i n : Nat) (acc : ByteArray), i + d = rs.length → d < n → acc.size + 100 * d ≤ 1099511627776 →
    spec_ShelfPack.l4r (spec_ShelfPack.g 4194304) 4194304 rs t f u v x0 q n acc (i : Int) = cond ((rs.drop i).all recOk60) (x0 (acc ++ logB (rs.drop i))) (q false) := by
  intro d
  induction d with
  | zero =>
    intro i n acc h1 h2 h3
    obtain ⟨n, rfl⟩ := Nat.exists_eq_succ_of_ne_zero (n := n) (by omega)
    rw [spec_ShelfPack.l4r_u, List.drop_eq_nil_of_le (by omega), logB_nil, ap_nil]
    exact cf (df (by omega))
  | succ d ih =>
    intro i n acc h1 h2 h3
    obtain ⟨n, rfl⟩ := Nat.exists_eq_succ_of_ne_zero (n := n) (by omega)
    have hi : i < rs.length := by omega
    rw [spec_ShelfPack.l4r_u, Int.toNat_natCast, getD_at hi, w64_p1 i (by omega)]
    refine (ct (dt (by omega))).trans ((ct (gd hi)).trans ?_)
    rw [spec_l11RecOk.val, List.drop_eq_getElem_cons hi, List.all_cons, logB_cons]
    show cond (!recOk60 rs[i]) _ _ = _
    cases ho : recOk60 rs[i] with
    | false => exact ct rfl
    | true =>
      have hz := recL_small ho
      refine (cf rfl).trans ((ct (gd hi)).trans ?_)
      rw [spec_l11Rec.val _ (by have := inB_iff.1 ho; omega)]
      refine (ct (dt (by omega))).trans ?_
      rw [ih (i + 1) n _ (by omega) (by omega) (by rw [sz_append]; omega), Bool.true_and, ap_assoc]
theorem spec_ShelfPack.val {R : Type} (t : ByteArray) (f : Int) (rs : List ByteArray) (hl : rs.length ≤ 2097152) (K : ByteArray → Int → Bool → Option R) : spec_ShelfPack.c 4194304 t f rs K = K (packL t f rs).1 (packL t f rs).2.1 (packL t f rs).2.2 := by
  rw [spec_ShelfPack.u, spec_ShelfOk.val]
  unfold packL
  cases ho : okL t f with
  | false => exact ct rfl
  | true =>
    refine (cf rfl).trans ?_
    refine (spec_ShelfPack.l4r_val rs hl t f _ _ _ _ rs.length 0 4194304 (ByteArray.mk #[]) (by omega) (by omega) (by have : (ByteArray.mk #[]).size = 0 := rfl; omega)).trans ?_
    rw [List.drop_zero, show ByteArray.mk #[] ++ logB rs = logB rs from by apply tx_inj; rw [tx_append]; rfl]
    cases rs.all recOk60 with
    | false => rfl
    | true =>
      refine (ct rfl).trans ?_
      by_cases h : 2400 < (logB rs).size
      · refine (ct (dt (by omega))).trans ?_
        rw [dt h]
        rfl
      · refine (cf (df (by omega))).trans ?_
        rw [df h]
        rfl
theorem laws_toStringS.l4r_val {R : Type} (l : List ByteArray) (hl : l.length ≤ 2097152) (x : List ByteArray → Option R) : ∀ (d i n : Nat) (w : List ByteArray), i + d = l.length → d < n → w.length = l.length → w.take i = l.take i →
    laws_toStringS.l4r (laws_toStringS.g 4194304) 4194304 l x n (i : Int) w = x l := by
  intro d
  induction d with
  | zero =>
    intro i n w h1 h2 h3 h4
    obtain ⟨n, rfl⟩ := Nat.exists_eq_succ_of_ne_zero (n := n) (by omega)
    rw [laws_toStringS.l4r_u]
    refine (cf (df (by omega))).trans ?_
    rw [List.take_of_length_le (by omega), List.take_of_length_le (by omega)] at h4
    rw [h4]
  | succ d ih =>
    intro i n w h1 h2 h3 h4
    obtain ⟨n, rfl⟩ := Nat.exists_eq_succ_of_ne_zero (n := n) (by omega)
    have hi : i < l.length := by omega
    rw [laws_toStringS.l4r_u, Int.toNat_natCast, getD_at hi, w64_p1 i (by omega)]
    refine (ct (dt (by omega))).trans ((ct (gd hi)).trans ?_)
    refine (ct (gd (by omega))).trans ?_
    refine ih (i + 1) n _ (by omega) (by omega) (by rw [List.length_set]; exact h3) ?_
    apply List.ext_getElem?
    intro j
    rw [List.getElem?_take, List.getElem?_take]
    by_cases hj : j < i + 1
    · rw [if_pos hj, if_pos hj, List.getElem?_set]
      by_cases he : i = j
      · subst he
        rw [if_pos rfl, if_pos (by omega), List.getElem?_eq_getElem hi]
      · rw [if_neg he]
        have := congrArg (fun z => z[j]?) h4
        simp only [List.getElem?_take] at this
        rw [if_pos (by omega), if_pos (by omega)] at this
        exact this
    · rw [if_neg hj, if_neg hj]
theorem laws_toStringS.val {R : Type} (l : List ByteArray) (hl : l.length ≤ 2097152) (K : List ByteArray → Option R) : laws_toStringS.c 4194304 l K = K l := by
  rw [laws_toStringS.u]
  refine (ct (by simp [lim_le (show l.length ≤ 1099511627776 by omega)])).trans ?_
  rw [Int.toNat_natCast]
  exact laws_toStringS.l4r_val l hl (fun w => K w) l.length 0 4194304 _ (by omega) (by omega) (by rw [List.length_replicate]) (by simp)
theorem impl_in.val {R : Type} (k : Nat) (a b c : Int) (K : Bool → Option R) : impl_in.c k a b c K = K (inB a b c) := by
  rw [impl_in.u]
  unfold inB
  by_cases h : b ≤ a <;> simp [h]
theorem impl_natural.l5r_val {R : Type} (t : ByteArray) (ht : t.size ≤ 5) (x0 : Int → Option R) (q : Int → Bool → Option R) : ∀ (d i n : Nat), i + d = t.size → d < n → (∀ c ∈ (tx t).take i, isDig c = true) →
    impl_natural.l5r (impl_natural.g 4194304) 4194304 t x0 q n ((valL ((tx t).take i) : Nat) : Int) (i : Int) = cond ((tx t).all isDig) (x0 ((valL (tx t) : Nat) : Int)) (q 0 false) := by
  have hl := tx_length t
  intro d
  induction d with
  | zero =>
    intro i n h1 h2 hd
    obtain ⟨n, rfl⟩ := Nat.exists_eq_succ_of_ne_zero (n := n) (by omega)
    rw [List.take_of_length_le (by omega)] at hd ⊢
    rw [impl_natural.l5r_u, List.all_eq_true.2 hd]
    exact cf (df (by omega))
  | succ d ih =>
    intro i n h1 h2 hd
    obtain ⟨n, rfl⟩ := Nat.exists_eq_succ_of_ne_zero (n := n) (by omega)
    have hi : i < t.size := by omega
    have hlt : i < (tx t).length := by omega
    have hno : isDig (tx t)[i] = false → (tx t).all isDig = false := fun hb => by
      rw [List.all_eq_false]
      exact ⟨_, List.getElem_mem hlt, by rw [hb]; simp⟩
    have hby := (tx t)[i].toNat_lt
    rw [impl_natural.l5r_u, Int.toNat_natCast, byteAt_tx, getD_at hlt, w64_p1 i (by omega), w64_nat _ (by omega)]
    refine (ct (dt (by omega))).trans ((ct (gd hi)).trans ?_)
    rw [impl_in.val]
    by_cases c1 : (48 : Int) ≤ (((tx t)[i].toNat : Nat) : Int) ∧ (((tx t)[i].toNat : Nat) : Int) ≤ 57
    · rw [inB_yes c1.1 c1.2]
      refine (cf rfl).trans ((ct (gd hi)).trans ?_)
      have ht1 : (tx t).take (i + 1) = (tx t).take i ++ [(tx t)[i]] := by rw [List.take_add_one, List.getElem?_eq_getElem hlt]; rfl
      have hv : valL ((tx t).take i) < 100000 := by
        have := valL_lt hd
        have h5 : ((tx t).take i).length ≤ 5 := by rw [List.length_take]; omega
        exact Nat.lt_of_lt_of_le this (Nat.pow_le_pow_right (by omega) h5)
      have e1 : w64 (w64 ((10 : Int) * ((valL ((tx t).take i) : Nat) : Int)) + w64 (w8 ((((tx t)[i].toNat : Nat) : Int) - 48))) = ((valL ((tx t).take (i + 1)) : Nat) : Int) := by
        rw [ht1, valL_snoc]
        generalize valL ((tx t).take i) = v at hv
        generalize (tx t)[i].toNat = c at c1
        rw [w8_id (x := (c : Int) - 48) (by omega) (by omega), w64_id (x := (c : Int) - 48) (by omega) (by omega), w64_id (x := 10 * (v : Int)) (by omega) (by omega), w64_id (by omega) (by omega)]
        omega
      simp only [e1]
      refine ih (i + 1) n (by omega) (by omega) ?_
      rw [ht1]
      intro c hc
      rcases List.mem_append.1 hc with hc | hc
      · exact hd c hc
      · rw [List.mem_singleton] at hc
        subst hc
        simp [isDig]; omega
    · rw [inB_no c1]
      refine (ct rfl).trans ?_
      rw [hno (by simp [isDig]; omega), cond_false]
theorem impl_natural.val {R : Type} (t : ByteArray) (K : Int → Bool → Option R) : impl_natural.c 4194304 t K = K (resNat (numL 5 (tx t))).1 (resNat (numL 5 (tx t))).2 := by
  have hl := tx_length t
  have run : (1 ≤ t.size ∧ t.size ≤ 5) → (t.size = 1 ∨ (tx t).headD 0 ≠ 48) → impl_natural.c10 (impl_natural.g 4194304) 4194304 t (fun v w => K v w) = K (resNat (numL 5 (tx t))).1 (resNat (numL 5 (tx t))).2 := by
    intro hs hh
    rw [impl_natural.c10_u]
    refine (impl_natural.l5r_val t hs.2 (fun v => K v true) (fun v w => K v w) t.size 0 4194304 (by omega) (by omega) (by simp)).trans ?_
    cases hd : (tx t).all isDig with
    | false =>
      rw [numL_nodig hd]
      rfl
    | true =>
      have hne : tx t ≠ [] := fun e => by rw [e] at hl; simp at hl; omega
      have : numL 5 (tx t) = some (valL (tx t)) := by
        unfold numL
        rw [if_pos ⟨by omega, hd, (canon_iff (List.all_eq_true.1 hd)).2 ⟨hne, hh.imp (fun h => by omega) id⟩⟩]
      rw [this]
      rfl
  rw [impl_natural.u, impl_in.val]
  by_cases h : 1 ≤ (t.size : Int) ∧ (t.size : Int) ≤ 5
  · rw [inB_yes h.1 h.2]
    refine (cf rfl).trans ((ct (by simp; omega)).trans ?_)
    have hh : (tx t).getD 0 0 = (tx t).headD 0 := by cases tx t <;> rfl
    rw [byteAt_tx, hh]
    by_cases h48 : (tx t).headD 0 = 48
    · refine (ct (by rw [h48]; rfl)).trans ?_
      by_cases h1 : t.size = 1
      · exact (cf (df (by omega))).trans (run (by omega) (.inl h1))
      · refine (ct (dt (by omega))).trans ?_
        rw [show numL 5 (tx t) = none from ?_]
        · rfl
        · unfold numL
          rw [if_neg]
          rintro ⟨_, h2, h3⟩
          rw [List.all_eq_true] at h2
          rcases ((canon_iff h2).1 h3).2 with h4 | h4
          · omega
          · exact h4 h48
    · refine (cf (df (fun hx => h48 (UInt8.toNat_inj.1 (by have h0 : (48 : UInt8).toNat = 48 := rfl; omega))))).trans (run (by omega) (.inr h48))
  · rw [inB_no h]
    refine (ct rfl).trans ?_
    rw [show numL 5 (tx t) = none from ?_]
    · rfl
    · by_cases h0 : tx t = []
      · rw [h0]; exact numL_nil 5
      · have := List.length_pos_iff.2 h0
        exact numL_long (by omega)
theorem impl_copied_string.val {R : Type} (k : Nat) (a : List ByteArray) (h : a.length ≤ 1099511627776) (K : List ByteArray → Option R) : impl_copied_string.c k a K = K a := by
  rw [impl_copied_string.u]
  by_cases h0 : a.length = 0
  · have := List.eq_nil_of_length_eq_zero h0
    subst this
    exact ct rfl
  · refine (cf (df (by omega))).trans ((ct ?_).trans ?_)
    · rw [Int.toNat_natCast, lim_le h]
      simp
    · simp
theorem impl_copied_string.nat {R : Type} (k : Nat) (a : List ByteArray) (K : List ByteArray → Option R) : impl_copied_string.c k a K = (impl_copied_string.c k a some).bind K := by
  rw [impl_copied_string.u, impl_copied_string.u]
  simp only [cond_bind, Option.bind_some, Option.bind_none]
set_option maxRecDepth 100000 in
theorem impl_ShelfRead.l5r_val {R : Type} (t : ByteArray) (ht : t.size ≤ 2097152) (at_ : Nat) (ha : at_ < t.size) (acc : List ByteArray) (x0 : Int → List ByteArray → Option R) (n0 : Nat) (res : Option R)
    (hstop : oneL ((tx t).drop at_) = none → x0 (at_ : Int) acc = res)
    (hgo : ∀ r n, oneL ((tx t).drop at_) = some (r, n) → impl_ShelfRead.l12r (impl_ShelfRead.g 4194304) 4194304 t x0 n0 ((at_ + n : Nat) : Int) (acc ++ [ba r]) = res) (hacc : acc.length ≤ 1000000)
    (x2 : Int → Option R) (hx2 : x2 = fun v6_120 => cond (decide ((t.size : Int) ≤ v6_120)) (x0 (at_ : Int) acc) (cond (decide (0 ≤ v6_120) && decide (v6_120 < (t.size : Int))) (cond (!decide ((byteAt t v6_120.toNat) = 58)) (x0 (at_ : Int) acc) (cond (decide (0 ≤ v6_120) && decide (v6_120 ≤ (t.size : Int)) && decide (0 ≤ (at_ : Int)) && decide ((at_ : Int) ≤ v6_120)) (impl_natural.c 4194304 (t.extract (at_ : Int).toNat v6_120.toNat) (fun r1_121 r2_122 => let y3_123 := w64 ((w64 (v6_120 + 1)) + r1_121); cond (!r2_122) (x0 (at_ : Int) acc) (impl_in.c 4194304 r1_121 1 60 (fun r4_124 => cond (!r4_124) (x0 (at_ : Int) acc) (cond (decide ((t.size : Int) ≤ y3_123)) (x0 (at_ : Int) acc) (cond (decide (0 ≤ y3_123) && decide (y3_123 < (t.size : Int))) (cond (!decide ((byteAt t y3_123.toNat) = 59)) (x0 (at_ : Int) acc) (cond (decide (0 ≤ y3_123) && decide (y3_123 ≤ (t.size : Int)) && decide (0 ≤ (w64 (v6_120 + 1))) && decide ((w64 (v6_120 + 1)) ≤ y3_123)) (let y5_125 := t.extract ((w64 (v6_120 + 1)).toNat) y3_123.toNat; cond (Nat.ble (acc.length + ([y5_125] : List ByteArray).length) lim) (impl_ShelfRead.l12r (impl_ShelfRead.g 4194304) 4194304 t x0 n0 (w64 (y3_123 + 1)) (acc ++ ([y5_125] : List ByteArray))) none) none)) none)))))) none)) none)) :
    ∀ (d i n : Nat), 3 - i = d → i ≤ 3 → i ≤ col ((tx t).drop at_) → at_ + i ≤ t.size → d < n →
    impl_ShelfRead.l5r (impl_ShelfRead.g 4194304) 4194304 t (at_ : Int) acc x2 n ((at_ + i : Nat) : Int) = res := by
  have hl := tx_length t
  have hl2 : ((tx t).drop at_).length = t.size - at_ := by rw [List.length_drop, hl]
  have hgd : ∀ j, ((tx t).drop at_).getD j 0 = (tx t).getD (at_ + j) 0 := fun j => by rw [List.getD_eq_getElem?_getD, List.getD_eq_getElem?_getD, List.getElem?_drop]
  obtain ⟨m, hm⟩ : ∃ m, t.size = at_ + m := ⟨t.size - at_, by omega⟩
  have hl2 : ((tx t).drop at_).length = m := by omega
  -- the loop's end: at the colon or behind what may be one
  have fin : ∀ i, i ≤ 3 → i ≤ col ((tx t).drop at_) → at_ + i ≤ t.size → (at_ + i < t.size → i < 3 → (tx t).getD (at_ + i) 0 = 58) → x2 ((at_ + i : Nat) : Int) = res := by
    intro i h3 hc hle h58
    subst hx2
    by_cases c1 : (t.size : Int) ≤ ((at_ + i : Nat) : Int)
    · refine (ct (dt c1)).trans (hstop ?_)
      unfold oneL
      rw [if_neg (by omega)]
    · refine (cf (df c1)).trans ((ct (gd (by omega))).trans ?_)
      simp only [Int.toNat_natCast]
      by_cases c2 : (tx t).getD (at_ + i) 0 = 58
      · have hcol : col ((tx t).drop at_) = i := col_eq hc (by omega) (by rw [hgd]; exact c2)
        have b58 : byteAt t (at_ + i) = 58 := by rw [byteAt_tx, c2]; rfl
        refine (cf (congrArg not (decide_eq_true b58))).trans ((ct (by simp; omega)).trans ?_)
        rw [impl_natural.val, tx_extract, show at_ + i - at_ = i by omega]
        have noOne : (¬ ∃ n, numL 4 (((tx t).drop at_).take i) = some n ∧ 1 ≤ n ∧ n ≤ 60 ∧ i < 3 ∧ i + 2 + n ≤ m ∧ (tx t).getD (at_ + (i + 1 + n)) 0 = 59) → oneL ((tx t).drop at_) = none := by
          intro h
          unfold oneL oneAt
          rw [hcol]
          split
          · next hk =>
            split
            · rfl
            · next n hn =>
              rw [if_neg]
              rintro ⟨q1, q2, q3, q4⟩
              exact h ⟨n, hn, q1, q2, hk.1, by omega, by rw [← hgd]; exact q4⟩
          · rfl
        have h45 : numL 5 (((tx t).drop at_).take i) = numL 4 (((tx t).drop at_).take i) := by
          unfold numL
          have : (((tx t).drop at_).take i).length ≤ 4 := by rw [List.length_take]; omega
          simp only [this, show (((tx t).drop at_).take i).length ≤ 5 by omega]
        rw [h45]
        cases hnm : numL 4 (((tx t).drop at_).take i) with
        | none =>
          refine (ct rfl).trans (hstop (noOne ?_))
          rintro ⟨n, hn, _⟩
          rw [hnm] at hn; cases hn
        | some n =>
          have hun : ∀ n', numL 4 (((tx t).drop at_).take i) = some n' → n' = n := fun n' h => by rw [hnm] at h; exact (Option.some.inj h).symm
          obtain ⟨e1, e2⟩ := numL_some.1 hnm
          have hnb : n < 10000 := by
            have h3 := valL_small (decL_dig n) (by rw [← e1]; exact e2)
            rw [valL_dec] at h3
            exact h3
          have hil : (((tx t).drop at_).take i).length = i := by rw [List.length_take]; omega
          refine (cf rfl).trans ?_
          rw [impl_in.val]
          simp only [resNat]
          by_cases c3 : 1 ≤ (n : Int) ∧ (n : Int) ≤ 60
          · rw [inB_yes c3.1 c3.2]
            refine (cf rfl).trans ?_
            have hi3 : i < 3 := by
              have := decL_length (n := n) (d := 1) (by omega)
              rw [← e1, hil] at this
              omega
            have w1 : w64 (((at_ + i : Nat) : Int) + 1) = ((at_ + i + 1 : Nat) : Int) := w64_p1 _ (by omega)
            have w2 : w64 (((at_ + i + 1 : Nat) : Int) + (n : Int)) = ((at_ + i + 1 + n : Nat) : Int) := w64_pn _ _ (by omega)
            have e3 : at_ + i + 1 + n = at_ + (i + 1 + n) := by omega
            simp only [w1, w2, Int.toNat_natCast]
            by_cases c4 : (t.size : Int) ≤ ((at_ + i + 1 + n : Nat) : Int)
            · refine (ct (dt c4)).trans (hstop (noOne ?_))
              rintro ⟨n', hn, _, _, _, q, _⟩
              rw [hun n' hn] at q
              omega
            · refine (cf (df c4)).trans ((ct (gd (by omega))).trans ?_)
              by_cases c5 : (tx t).getD (at_ + i + 1 + n) 0 = 59
              · have b59 : byteAt t (at_ + i + 1 + n) = 59 := by rw [byteAt_tx, c5]; rfl
                refine (cf (congrArg not (decide_eq_true b59))).trans ((ct (by simp; omega)).trans ((ct (lim_le (by simp; omega))).trans ?_))
                have ho : oneL ((tx t).drop at_) = some ((((tx t).drop at_).drop (i + 1)).take n, i + 2 + n) := by
                  unfold oneL oneAt
                  rw [hcol, if_pos (by omega), hnm]
                  simp only []
                  rw [if_pos ⟨by omega, by omega, by omega, by rw [hgd, ← e3]; exact c5⟩]
                have hx : t.extract (at_ + i + 1) (at_ + i + 1 + n) = ba ((((tx t).drop at_).drop (i + 1)).take n) := by
                  apply tx_inj
                  rw [tx_extract, tx_ba, List.drop_drop]
                  congr 1
                  omega
                have w5 : w64 (((at_ + i + 1 + n : Nat) : Int) + 1) = ((at_ + i + 1 + n + 1 : Nat) : Int) := w64_p1 _ (by omega)
                rw [hx, w5, show at_ + i + 1 + n + 1 = at_ + (i + 2 + n) by omega]
                exact hgo _ _ ho
              · have b59 : ¬ byteAt t (at_ + i + 1 + n) = 59 := by
                  rw [byteAt_tx]
                  exact fun h => c5 (UInt8.toNat_inj.1 (by have h0 : (59 : UInt8).toNat = 59 := rfl; omega))
                refine (ct (congrArg not (decide_eq_false b59))).trans (hstop (noOne ?_))
                rintro ⟨n', hn, _, _, _, _, q⟩
                rw [hun n' hn, ← e3] at q
                exact c5 q
          · rw [inB_no c3]
            refine (ct rfl).trans (hstop (noOne ?_))
            rintro ⟨n', hn, q1, q2, _⟩
            rw [hun n' hn] at q1 q2
            omega
      · have h3' : i = 3 := by
          rcases Nat.lt_or_ge i 3 with h | h
          · exact absurd (h58 (by omega) h) c2
          · omega
        have b58 : ¬ byteAt t (at_ + i) = 58 := by
          rw [byteAt_tx]
          exact fun h => c2 (UInt8.toNat_inj.1 (by have h0 : (58 : UInt8).toNat = 58 := rfl; omega))
        refine (ct (congrArg not (decide_eq_false b58))).trans (hstop ?_)
        unfold oneL
        rw [if_neg (by omega)]
  have w3 : w64 ((at_ : Int) + 3) = ((at_ + 3 : Nat) : Int) := w64_p3 at_ (by omega)
  intro d
  induction d with
  | zero =>
    intro i n hi h3 hc hle hn
    obtain ⟨n, rfl⟩ := Nat.exists_eq_succ_of_ne_zero (n := n) (by omega)
    rw [impl_ShelfRead.l5r_u, w3]
    by_cases h : at_ + i < t.size
    · exact (ct (dt (by omega))).trans ((cf (df (by omega))).trans (fin i h3 hc hle (fun _ h => by omega)))
    · exact (cf (df (by omega))).trans (fin i h3 hc hle (fun h' _ => absurd h' h))
  | succ d ih =>
    intro i n hi h3 hc hle hn
    obtain ⟨n, rfl⟩ := Nat.exists_eq_succ_of_ne_zero (n := n) (by omega)
    rw [impl_ShelfRead.l5r_u, w3]
    by_cases h : at_ + i < t.size
    · refine (ct (dt (by omega))).trans ((ct (dt (by omega))).trans ((ct (gd h)).trans ?_))
      rw [Int.toNat_natCast, byteAt_tx]
      by_cases h58 : (tx t).getD (at_ + i) 0 = 58
      · exact (cf (by rw [h58]; rfl)).trans (fin i h3 hc hle (fun _ _ => h58))
      · refine (ct ?_).trans ?_
        · rw [df (fun hx => h58 (UInt8.toNat_inj.1 (by have h0 : (58 : UInt8).toNat = 58 := rfl; omega)))]; rfl
        · rw [w64_p1 (at_ + i) (by omega), Nat.add_assoc]
          exact ih (i + 1) n (by omega) (by omega) (col_lt hc (by omega) (by rw [hgd]; exact h58)) (by omega) (by omega)
    · exact (cf (df (by omega))).trans (fin i h3 hc hle (fun h' _ => absurd h' h))
theorem impl_ShelfRead.l12r_val {R : Type} (t : ByteArray) (ht : t.size ≤ 2097152) (x0 : Int → List ByteArray → Option R) (d : Nat) : ∀ i, t.size - i = d → i ≤ t.size → ∀ (n : Nat) (acc : List ByteArray), 4 * acc.length ≤ i → d < n →
    impl_ShelfRead.l12r (impl_ShelfRead.g 4194304) 4194304 t x0 n (i : Int) acc = x0 ((i + (readL ((tx t).drop i)).2 : Nat) : Int) (acc ++ (readL ((tx t).drop i)).1.map ba) := by
  have hl := tx_length t
  induction d using Nat.strongRecOn with
  | ind d ih =>
    intro i hi hi2 n acc ha hn
    obtain ⟨n, rfl⟩ := Nat.exists_eq_succ_of_ne_zero (n := n) (by omega)
    rw [impl_ShelfRead.l12r_u]
    by_cases h : (i : Int) < (t.size : Int)
    · refine (ct (dt h)).trans ?_
      refine impl_ShelfRead.l5r_val t ht i (by omega) acc x0 n _ (fun ho => by rw [readL_none ho]; simp) (fun r m ho => ?_) (by omega) _ rfl 3 0 4194304 rfl (by omega) (by omega) (by omega) (by omega)
      obtain ⟨k1, k2⟩ := oneL_len ho
      rw [List.length_drop] at k2
      rw [ih (t.size - (i + m)) (by omega) (i + m) rfl (by omega) n _ (by simp; omega) (by omega), readL_some ho, List.drop_drop]
      simp only [List.map_cons, List.append_assoc, List.singleton_append]
      congr 2
      omega
    · refine (cf (df h)).trans ?_
      rw [List.drop_eq_nil_of_le (by omega), readL_none (l := []) (by decide)]
      simp
theorem impl_ShelfRead.val {R : Type} (t : ByteArray) (ht : t.size ≤ 2097152) (K : List ByteArray → Int → Option R) : impl_ShelfRead.c 4194304 t K = K (resLog (readL (tx t))).1 (resLog (readL (tx t))).2 := by
  rw [impl_ShelfRead.u]
  refine (impl_ShelfRead.l12r_val t ht _ t.size 0 (by omega) (by omega) 4194304 [] (by simp) (by omega)).trans ?_
  have hc := readL_count (tx t)
  have hle := readL_le (tx t)
  have hl := tx_length t
  rw [List.drop_zero]
  refine (impl_copied_string.val _ _ (by simp; omega) _).trans ?_
  simp [resLog]
theorem impl_ShelfOk.val {R : Type} (t : ByteArray) (f : Int) (K : Bool → Option R) : impl_ShelfOk.c 4194304 t f K = K (okL t f) := by
  rw [impl_ShelfOk.u]
  by_cases h : (2400 : Int) < (t.size : Int)
  · refine (ct (dt h)).trans ?_
    unfold okL
    rw [df (show ¬ t.size ≤ 2400 by omega)]
    rfl
  · refine (cf (df h)).trans ?_
    rw [impl_in.val]
    by_cases h2 : 0 ≤ f ∧ f ≤ (t.size : Int)
    · obtain ⟨i, rfl⟩ := Int.eq_ofNat_of_zero_le h2.1
      have hi := inB_yes h2.1 h2.2
      rw [hi]
      refine (cf rfl).trans ?_
      rw [impl_ShelfRead.val t (by omega)]
      refine (ct (by simp; omega)).trans ?_
      rw [Int.toNat_natCast, impl_ShelfRead.val _ (by rw [← tx_length, tx_extract0, List.length_take, tx_length]; omega), tx_extract0]
      unfold okL
      rw [hi, dt (show t.size ≤ 2400 by omega), Int.toNat_natCast]
      show cond (decide (((readL (tx t)).2 : Int) = (t.size : Int))) (K (decide (((readL ((tx t).take i)).2 : Int) = (i : Int)))) (K false) = K (true && true && (decide ((readL (tx t)).2 = t.size) && decide (((readL ((tx t).take i)).2 : Int) = (i : Int))))
      by_cases h3 : (readL (tx t)).2 = t.size
      · refine (ct (dt (by omega))).trans ?_
        rw [dt h3, Bool.true_and, Bool.true_and, Bool.true_and]
      · refine (cf (df (by omega))).trans ?_
        rw [df h3, Bool.false_and, Bool.and_false]
    · rw [inB_no h2]
      refine (ct rfl).trans ?_
      unfold okL
      rw [inB_no h2, Bool.and_false, Bool.false_and]
theorem impl_recOk.val {R : Type} (t : ByteArray) (K : Bool → Option R) : impl_recOk.c 4194304 t K = K (inB (t.size : Int) 1 60) := by
  rw [impl_recOk.u, impl_in.val]
theorem libDec (n : Nat) : Go.Lib.decDigits n = decL n := by
  induction n using Nat.strongRecOn with
  | ind n ih =>
    rw [Go.Lib.decDigits, decL]
    by_cases h : n < 10
    · rw [dif_pos h, if_pos h]
      rfl
    · rw [dif_neg h, if_neg h, ih (n / 10) (by omega)]
      rfl
theorem strconv_Itoa.val {R : Type} (n : Nat) (hn : n < 9223372036854775808) (K : ByteArray → Option R) : strconv_Itoa.c 4194304 (n : Int) K = K (ba (decL n)) := by
  rw [strconv_Itoa.u]
  refine (ct (by simp; omega)).trans ?_
  unfold Go.Lib.itoa
  rw [if_neg (by omega), Int.toNat_natCast, libDec]
  rfl
theorem impl_stored.val {R : Type} (t : ByteArray) (ht : t.size ≤ 1099511627776) (K : ByteArray → Option R) : impl_stored.c 4194304 t K = K (ba (recL (tx t))) := by
  have hs : (ByteArray.mk #[58]).size = 1 := rfl
  have hs' : (ByteArray.mk #[59]).size = 1 := rfl
  have hd := decL_length (n := t.size) (d := 18) (by omega)
  have hb := ba_size (decL t.size)
  rw [impl_stored.u, strconv_Itoa.val _ (by omega)]
  refine (ct (dt (by omega))).trans ((ct (dt (by simp only [sz_append]; omega))).trans ((ct (dt (by simp only [sz_append]; omega))).trans ?_))
  refine congrArg K ?_
  apply tx_inj
  rw [tx_append, tx_append, tx_append, tx_ba, tx_ba, recL, tx_length]
  rfl
theorem impl_ShelfPack.l4r_val {R : Type} (rs : List ByteArray) (hl : rs.length ≤ 2097152) (t : ByteArray) (f : Int) (u : ByteArray) (v : Int) (x0 : ByteArray → Option R) (q : Bool → Option R) (hx : ∀ s : ByteArray, 2400 < s.size → x0 s = q false) : ∀ (d i n : Nat) (acc : ByteArray), i + d = rs.length → d < n → acc.size + 100 * d ≤ 1099511627776 →
    impl_ShelfPack.l4r (impl_ShelfPack.g 4194304) 4194304 (rs.length : Int) t f u v rs x0 q n acc (i : Int) = cond ((rs.drop i).all recOk60) (x0 (acc ++ logB (rs.drop i))) (q false) := by
  intro d
  induction d with
  | zero =>
    intro i n acc h1 h2 h3
    obtain ⟨n, rfl⟩ := Nat.exists_eq_succ_of_ne_zero (n := n) (by omega)
    rw [impl_ShelfPack.l4r_u, List.drop_eq_nil_of_le (by omega), logB_nil, ap_nil]
    exact cf (df (by omega))
  | succ d ih =>
    intro i n acc h1 h2 h3
    obtain ⟨n, rfl⟩ := Nat.exists_eq_succ_of_ne_zero (n := n) (by omega)
    have hi : i < rs.length := by omega
    rw [impl_ShelfPack.l4r_u, Int.toNat_natCast, getD_at hi, w64_p1 i (by omega)]
    refine (ct (dt (by omega))).trans ((ct (gd hi)).trans ?_)
    rw [impl_recOk.val, List.drop_eq_getElem_cons hi, List.all_cons, logB_cons]
    show cond (!recOk60 rs[i]) _ _ = _
    cases ho : recOk60 rs[i] with
    | false => exact ct rfl
    | true =>
      have hz := recL_small ho
      refine (cf rfl).trans ?_
      by_cases h24 : 2400 < acc.size
      · refine (ct (dt (by omega))).trans ?_
        rw [hx _ (by rw [sz_append]; omega)]
        cases (true && (rs.drop (i + 1)).all recOk60) <;> rfl
      · refine (cf (df (by omega))).trans ?_
        rw [impl_stored.val _ (by have := inB_iff.1 ho; omega)]
        refine (ct (dt (by omega))).trans ?_
        rw [ih (i + 1) n _ (by omega) (by omega) (by rw [sz_append]; omega), Bool.true_and, ap_assoc]
theorem impl_ShelfPack.val {R : Type} (t : ByteArray) (f : Int) (rs : List ByteArray) (hl : rs.length ≤ 2097152) (K : ByteArray → Int → Bool → Option R) : impl_ShelfPack.c 4194304 t f rs K = K (packL t f rs).1 (packL t f rs).2.1 (packL t f rs).2.2 := by
  rw [impl_ShelfPack.u, impl_ShelfOk.val]
  unfold packL
  cases ho : okL t f with
  | false => exact ct rfl
  | true =>
    refine (cf rfl).trans ?_
    refine (impl_ShelfPack.l4r_val rs hl t f _ _ _ _ (fun s hs => ct (dt (by omega))) rs.length 0 4194304 (ByteArray.mk #[]) (by omega) (by omega) (by have : (ByteArray.mk #[]).size = 0 := rfl; omega)).trans ?_
    rw [List.drop_zero, show ByteArray.mk #[] ++ logB rs = logB rs from by apply tx_inj; rw [tx_append]; rfl]
    cases rs.all recOk60 with
    | false => rfl
    | true =>
      refine (ct rfl).trans ?_
      by_cases h : 2400 < (logB rs).size
      · refine (ct (dt (by omega))).trans ?_
        rw [dt h]
        rfl
      · refine (cf (df (by omega))).trans ?_
        rw [df h]
        rfl
theorem laws_eqStringS.val {R : Type} (a b : List (ByteArray)) (h : a.length ≤ 2097152) (K : Bool → Option R) : laws_eqStringS.c 4194304 a b K = K (decide (a = b)) := by
  rw [laws_eqStringS.u]
  by_cases hl : a.length = b.length
  · refine (cf (by simp [hl])).trans ?_
    have key := eq_loop a b ByteArray.empty (K true) (K false) (fun n i => laws_eqStringS.l4r (laws_eqStringS.g 4194304) 4194304 a b (K true) (fun v => K v) n i) hl (fun n i hi => by
      rw [laws_eqStringS.l4r_u]
      refine (ct (dt (by omega))).trans ((ct (gd hi)).trans ((ct (gd (by omega))).trans ?_))
      cases hd : decide (a.getD i ByteArray.empty = b.getD i ByteArray.empty) <;> simp only [Int.toNat_natCast, hd, Bool.not_true, Bool.not_false, cond_true, cond_false, w64_p1 i (show i < 4611686018427387904 by omega)]) (fun n => by
      rw [laws_eqStringS.l4r_u]
      exact cf (df (by omega))) 4194304 (by omega)
    exact key.trans (by cases decide (a = b) <;> rfl)
  · refine (ct (by simp; omega)).trans ?_
    rw [df (fun e => hl (by rw [e]))]
theorem laws_FnExactShelfPack.law {R : Type} (t : ByteArray) (f : Int) (rs : List ByteArray) (ht : (t.size : Int) ≤ 9223372036854775807) (_hf : -9223372036854775808 ≤ f ∧ f ≤ 9223372036854775807) (hl : (rs.length : Int) ≤ 9223372036854775807) (hs : ∀ m ∈ rs, (m.size : Int) ≤ 9223372036854775807) (K : Bool → Option R) : laws_FnExactShelfPack.c 4194304 t f rs K = K true := by
  obtain ⟨r, r1, hr⟩ := laws_szShelf.tot t ht f
  rw [laws_FnExactShelfPack.u, hr]
  by_cases h1 : r < 0
  · exact ct (dt h1)
  · refine (cf (df h1)).trans ?_
    obtain ⟨r', _, h2, hr'⟩ := laws_szStringS.tot rs hl hs r (by omega) r1
    rw [hr']
    by_cases h3 : r' < 0
    · exact ct (dt h3)
    · have h2 := h2 (by omega)
      refine (cf (df h3)).trans ?_
      rw [laws_toShelf.val, laws_toStringS.val _ (by omega), spec_ShelfPack.val _ _ _ (by omega), laws_toStringS.val _ (by omega), laws_toShelf.val, impl_ShelfPack.val _ _ _ (by omega), laws_eqShelf.val, dt ⟨rfl, rfl⟩]
      refine (cf rfl).trans ((cf (by simp)).trans ?_)
      rw [laws_toStringS.val _ (by omega), laws_eqStringS.val _ _ (by omega), dt rfl]
      exact cf rfl
end Go.Ev.F
