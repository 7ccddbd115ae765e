/- What the Go functions compute, told in plain words. No condition beyond those that stand in each. -/
import Derived.Test.YtidmkpeokahjoaaDoorEvuFnExactKeepRecs
import Derived.Test.YtidmkpeokahjoaaDoorPur
import Derived.Test.YtidmkpeokahjoaaDoorPus
import Derived.Test.YtidmkpeokahjoaaDoorPuk
namespace Go.Ev.F
set_option linter.unusedVariables false
set_option linter.unusedSimpArgs false
theorem laws_eqStringS.val {R : Type} (a b : List (ByteArray)) (h : a.length ≤ 2097152) (K : Bool → Option R) : laws_eqStringS.c 4194304 a b K = K (decide (a = b)) := by
  rw [laws_eqStringS.u]
  by_cases hl : a.length = b.length
  · refine (cf (by simp [hl])).trans ?_
    have key := eq_loop a b ByteArray.empty (K true) (K false) (fun n i => laws_eqStringS.l4r (laws_eqStringS.g 4194304) 4194304 a b (K true) (fun v => K v) n i) hl (fun n i hi => by
      rw [laws_eqStringS.l4r_u]
      refine (ct (dt (by omega))).trans ((ct (gd hi)).trans ((ct (gd (by omega))).trans ?_))
      cases hd : decide (a.getD i ByteArray.empty = b.getD i ByteArray.empty) <;> simp only [Int.toNat_natCast, hd, Bool.not_true, Bool.not_false, cond_true, cond_false, w64_p1 i (show i < 4611686018427387904 by omega)]) (fun n => by
      rw [laws_eqStringS.l4r_u]
      exact cf (df (by omega))) 4194304 (by omega)
    exact key.trans (by cases decide (a = b) <;> rfl)
  · refine (ct (by simp; omega)).trans ?_
    rw [df (fun e => hl (by rw [e]))]
theorem laws_szNote.tot (a b c d : Int) (t : ByteArray) (ht : (t.size : Int) ≤ 9223372036854775807) (v : Int) (h0 : 0 ≤ v) (h1 : v ≤ 1048576) : ∃ r : Int, r ≤ v ∧ (0 ≤ r → t.size ≤ 1048576) ∧ ∀ {R : Type} (K : Int → Option R), laws_szNote.c 4194304 a b c d t v K = K r := by
  have e : w64 (v - (t.size : Int)) = v - (t.size : Int) := w64_id (by omega) (by omega)
  by_cases h : v - (t.size : Int) < 0
  · exact ⟨-1, by omega, by omega, fun K => by rw [laws_szNote.u]; exact ct (by rw [e]; exact dt h)⟩
  · exact ⟨v - (t.size : Int), by omega, by omega, fun K => by rw [laws_szNote.u]; refine (cf (by rw [e]; exact df h)).trans ?_; rw [e]⟩
theorem laws_szNoteS.l4r_tot (l : List (Int × Int × Int × Int × ByteArray)) (hl : l.length ≤ 1048576) (hs : ∀ m ∈ l, (m.2.2.2.2.size : Int) ≤ 9223372036854775807) : ∀ (d i : Nat) (v : Int), i + d = l.length → 0 ≤ v → v ≤ 1048576 →
    ∃ r : Int, r ≤ v ∧ (0 ≤ r → ∀ m ∈ l.drop i, m.2.2.2.2.size ≤ 1048576) ∧ ∀ {R : Type} (K : Int → Option R) (n : Nat), d < n → laws_szNoteS.l4r (laws_szNoteS.g 4194304) 4194304 l K K n v (i : Int) = K r := by
  intro d
  induction d with
  | zero =>
    intro i v h1 h2 h3
    refine ⟨v, Int.le_refl _, fun _ m hm => ?_, fun K n hn => ?_⟩
    · rw [List.drop_eq_nil_of_le (by omega)] at hm; cases hm
    · obtain ⟨n, rfl⟩ := Nat.exists_eq_succ_of_ne_zero (n := n) (by omega)
      rw [laws_szNoteS.l4r_u]
      exact cf (df (by omega))
  | succ d ih =>
    intro i v h1 h2 h3
    have hi : i < l.length := by omega
    have hz := hs l[i] (List.getElem_mem hi)
    obtain ⟨r1, g1, g2, g3⟩ := laws_szNote.tot l[i].1 l[i].2.1 l[i].2.2.1 l[i].2.2.2.1 l[i].2.2.2.2 hz v h2 h3
    by_cases hneg : r1 < 0
    · refine ⟨-1, by omega, by omega, fun K n hn => ?_⟩
      obtain ⟨n, rfl⟩ := Nat.exists_eq_succ_of_ne_zero (n := n) (by omega)
      rw [laws_szNoteS.l4r_u, Int.toNat_natCast, getD_at hi]
      refine (ct (dt (by omega))).trans ((ct (gd hi)).trans ?_)
      rw [g3]
      exact ct (dt hneg)
    · obtain ⟨r, q1, q2, hr⟩ := ih (i + 1) r1 (by omega) (by omega) (by omega)
      refine ⟨r, by omega, fun h0 m hm => ?_, fun K n hn => ?_⟩
      · rw [List.drop_eq_getElem_cons hi] at hm
        rcases List.mem_cons.1 hm with rfl | hm
        · exact g2 (by omega)
        · exact q2 h0 m hm
      · obtain ⟨n, rfl⟩ := Nat.exists_eq_succ_of_ne_zero (n := n) (by omega)
        rw [laws_szNoteS.l4r_u, Int.toNat_natCast, getD_at hi, w64_p1 i (by omega)]
        refine (ct (dt (by omega))).trans ((ct (gd hi)).trans ?_)
        rw [g3]
        refine (cf (df hneg)).trans ?_
        exact hr K n (by omega)
theorem laws_szNoteS.tot (l : List (Int × Int × Int × Int × ByteArray)) (hl : (l.length : Int) ≤ 9223372036854775807) (hs : ∀ m ∈ l, (m.2.2.2.2.size : Int) ≤ 9223372036854775807) (v : Int) (h0 : 0 ≤ v) (h1 : v ≤ 1048576) :
    ∃ r : Int, r ≤ v ∧ (0 ≤ r → l.length ≤ 1048576 ∧ ∀ m ∈ l, m.2.2.2.2.size ≤ 1048576) ∧ ∀ {R : Type} (K : Int → Option R), laws_szNoteS.c 4194304 l v K = K r := by
  have hw : w64 (v - (l.length : Int)) = v - (l.length : Int) := w64_id (by omega) (by omega)
  by_cases h : 0 ≤ v - (l.length : Int)
  · obtain ⟨r, q1, q2, hr⟩ := laws_szNoteS.l4r_tot l (by omega) hs l.length 0 (v - (l.length : Int)) (by omega) (by omega) (by omega)
    refine ⟨r, by omega, fun h0 => ⟨by omega, by simpa using q2 h0⟩, fun K => ?_⟩
    rw [laws_szNoteS.u]
    refine (cf (by rw [hw]; exact df (by omega))).trans ?_
    rw [hw]
    exact hr K 4194304 (by omega)
  · refine ⟨-1, by omega, by omega, fun K => ?_⟩
    rw [laws_szNoteS.u]
    exact ct (by rw [hw]; exact dt (by omega))
theorem laws_szMarkS.tot (l : List (Int × Int × Int)) (hl : (l.length : Int) ≤ 9223372036854775807) (v : Int) (h0 : 0 ≤ v) (h1 : v ≤ 1048576) : ∃ r : Int, r ≤ v ∧ (0 ≤ r → l.length ≤ 1048576) ∧ ∀ {R : Type} (K : Int → Option R), laws_szMarkS.c 4194304 l v K = K r := by
  have hw : w64 (v - (l.length : Int)) = v - (l.length : Int) := w64_id (by omega) (by omega)
  by_cases h : v - (l.length : Int) < 0
  · exact ⟨-1, by omega, by omega, fun K => by rw [laws_szMarkS.u]; exact ct (by rw [hw]; exact dt h)⟩
  · exact ⟨v - (l.length : Int), by omega, by omega, fun K => by rw [laws_szMarkS.u]; refine (cf (by rw [hw]; exact df h)).trans ?_; rw [hw]⟩
theorem laws_szKeep.tot (a b c : Int) (x3 x5 : List (Int × Int × Int × Int × ByteArray)) (x4 : List (Int × Int × Int)) (l3 : (x3.length : Int) ≤ 9223372036854775807) (s3 : ∀ m ∈ x3, (m.2.2.2.2.size : Int) ≤ 9223372036854775807) (l4 : (x4.length : Int) ≤ 9223372036854775807) (l5 : (x5.length : Int) ≤ 9223372036854775807) (s5 : ∀ m ∈ x5, (m.2.2.2.2.size : Int) ≤ 9223372036854775807) :
    ∃ r : Int, (0 ≤ r → (x3.length ≤ 1048576 ∧ ∀ m ∈ x3, m.2.2.2.2.size ≤ 1048576) ∧ x4.length ≤ 1048576 ∧ (x5.length ≤ 1048576 ∧ ∀ m ∈ x5, m.2.2.2.2.size ≤ 1048576)) ∧ r ≤ 1048576 ∧ ∀ {R : Type} (K : Int → Option R), laws_szKeep.c 4194304 a b c x3 x4 x5 1048576 K = K r := by
  obtain ⟨r1, p1, q1, e1⟩ := laws_szNoteS.tot x3 l3 s3 1048576 (by omega) (by omega)
  by_cases n1 : r1 < 0
  · exact ⟨-1, by omega, by omega, fun K => by rw [laws_szKeep.u, e1]; exact ct (dt n1)⟩
  · obtain ⟨r2, p2, q2, e2⟩ := laws_szMarkS.tot x4 l4 r1 (by omega) (by omega)
    by_cases n2 : r2 < 0
    · exact ⟨-1, by omega, by omega, fun K => by rw [laws_szKeep.u, e1]; refine (cf (df n1)).trans ?_; rw [e2]; exact ct (dt n2)⟩
    · obtain ⟨r3, p3, q3, e3⟩ := laws_szNoteS.tot x5 l5 s5 r2 (by omega) (by omega)
      by_cases n3 : r3 < 0
      · exact ⟨-1, by omega, by omega, fun K => by rw [laws_szKeep.u, e1]; refine (cf (df n1)).trans ?_; rw [e2]; refine (cf (df n2)).trans ?_; rw [e3]; exact ct (dt n3)⟩
      · exact ⟨r3, fun h => ⟨q1 (by omega), q2 (by omega), q3 h⟩, by omega, fun K => by rw [laws_szKeep.u, e1]; refine (cf (df n1)).trans ?_; rw [e2]; refine (cf (df n2)).trans ?_; rw [e3]; exact cf (df n3)⟩
theorem spec_l6In.val {R : Type} (k : Nat) (a b c : Int) (K : Bool → Option R) : spec_l6In.c k a b c K = K (inB a b c) := by
  rw [spec_l6In.u]
  unfold inB
  by_cases h : b ≤ a <;> simp [h]
theorem spec_l3Keeper.val {R : Type} (k : Nat) (a : Int) (K : Bool → Option R) : spec_l3Keeper.c k a K = K (inB a 0 3) := by
  rw [spec_l3Keeper.u, spec_l6In.val]
theorem spec_NoteOk.l4r_val {R : Type} (a b c d : Int) (t : ByteArray) (ht : t.size ≤ 24) (x0 : Option R) (q : Bool → Option R) : ∀ (e i n : Nat), i + e = t.size → e < n →
    spec_NoteOk.l4r (spec_NoteOk.g 4194304) 4194304 a b c d t x0 q n (i : Int) = cond (((tx t).drop i).all chOk) x0 (q false) := by
  have hl := tx_length t
  intro e
  induction e with
  | zero =>
    intro i n h1 h2
    obtain ⟨n, rfl⟩ := Nat.exists_eq_succ_of_ne_zero (n := n) (by omega)
    rw [spec_NoteOk.l4r_u, List.drop_eq_nil_of_le (by omega)]
    exact cf (df (by omega))
  | succ e ih =>
    intro i n h1 h2
    obtain ⟨n, rfl⟩ := Nat.exists_eq_succ_of_ne_zero (n := n) (by omega)
    have hi : i < t.size := by omega
    have hlt : i < (tx t).length := by omega
    rw [spec_NoteOk.l4r_u, Int.toNat_natCast, byteAt_tx, getD_at hlt, w64_p1 i (by omega), List.drop_eq_getElem_cons hlt, List.all_cons]
    refine (ct (dt (by omega))).trans ((ct (gd hi)).trans ?_)
    by_cases c1 : (((tx t)[i].toNat : Nat) : Int) < 32
    · rw [show chOk (tx t)[i] = false from by simp [chOk]; omega, Bool.false_and]
      exact ct (dt c1)
    · refine (cf (df c1)).trans ((ct (gd hi)).trans ?_)
      by_cases c2 : (126 : Int) < (((tx t)[i].toNat : Nat) : Int)
      · rw [show chOk (tx t)[i] = false from by simp [chOk]; omega, Bool.false_and]
        exact ct (dt c2)
      · rw [show chOk (tx t)[i] = true from by simp [chOk]; omega, Bool.true_and, ← ih (i + 1) n (by omega) (by omega)]
        exact cf (df c2)
theorem spec_NoteOk.val {R : Type} (a b c d : Int) (t : ByteArray) (K : Bool → Option R) : spec_NoteOk.c 4194304 a b c d t K = K (ntOk a b c d t) := by
  rw [spec_NoteOk.u, spec_l3Keeper.val]
  cases h1 : inB a 0 3 with
  | false => exact (ct rfl).trans (by simp [ntOk, h1])
  | true =>
    refine (cf rfl).trans ?_
    rw [spec_l3Keeper.val]
    cases h2 : inB c 0 3 with
    | false => exact (ct rfl).trans (by simp [ntOk, h2])
    | true =>
      refine (cf rfl).trans ?_
      rw [spec_l6In.val]
      cases h3 : inB b 1 99 with
      | false => exact (ct rfl).trans (by simp [ntOk, h3])
      | true =>
        refine (cf rfl).trans ?_
        rw [spec_l6In.val]
        cases h4 : inB d 1 999 with
        | false => exact (ct rfl).trans (by simp [ntOk, h4])
        | true =>
          refine (cf rfl).trans ?_
          by_cases h5 : (t.size : Int) < 1
          · exact (ct (dt h5)).trans (by simp [ntOk, txOk, inB_no (x := (t.size : Int)) (a := 1) (b := 24) (by omega)])
          · refine (cf (df h5)).trans ?_
            by_cases h6 : (24 : Int) < (t.size : Int)
            · exact (ct (dt h6)).trans (by simp [ntOk, txOk, inB_no (x := (t.size : Int)) (a := 1) (b := 24) (by omega)])
            · refine (cf (df h6)).trans ?_
              refine (spec_NoteOk.l4r_val a b c d t (by omega) _ _ t.size 0 4194304 (by omega) (by omega)).trans ?_
              have e : ntOk a b c d t = (tx t).all chOk := by
                simp [ntOk, txOk, h1, h2, h3, h4, inB_yes (x := (t.size : Int)) (a := 1) (b := 24) (by omega) (by omega), tx]
              rw [List.drop_zero, e]
              cases (tx t).all chOk <;> rfl
theorem spec_l6Dec.small {R : Type} (n k : Nat) (h : n < 10) (K : ByteArray → Option R) : spec_l6Dec.c (k + 1) (n : Int) K = K (ba (decL n)) := by
  rw [spec_l6Dec.u]
  refine (cf (df (by omega))).trans ((cf (df (by omega))).trans ((ct (dt (by omega))).trans ?_))
  have e : w64 ((48 : Int) + (n : Int)) = ((48 + n : Nat) : Int) := (w64_id (x := 48 + (n : Int)) (by omega) (by omega)).trans (by omega)
  simp only [e]
  rw [ofBytes_one _ (by omega), decL_lt h]
  rfl
theorem spec_l6Dec.deep (d : Nat) : ∀ (n k : Nat), n < 10 ^ (d + 1) → d < k → n < 9223372036854775808 → ∀ {R : Type} (K : ByteArray → Option R), spec_l6Dec.c k (n : Int) K = K (ba (decL n)) := by
  induction d with
  | zero =>
    intro n k h hk _ R K
    obtain ⟨k, rfl⟩ := Nat.exists_eq_succ_of_ne_zero (n := k) (by omega)
    exact spec_l6Dec.small n k (by omega) K
  | succ d ih =>
    intro n k h hk hn R K
    obtain ⟨k, rfl⟩ := Nat.exists_eq_succ_of_ne_zero (n := k) (by omega)
    by_cases h10 : n < 10
    · exact spec_l6Dec.small n k h10 K
    · have hq : n / 10 < 10 ^ (d + 1) := by
        rw [Nat.pow_succ] at h
        exact Nat.div_lt_of_lt_mul (by rw [Nat.mul_comm]; exact h)
      have e1 : w64 (Int.tdiv (n : Int) 10) = ((n / 10 : Nat) : Int) := by
        have := tdivN n 10
        rw [show ((10 : Nat) : Int) = 10 from rfl] at this
        rw [this]; exact w64_nat _ (by omega)
      have e2 : w64 ((48 : Int) + Int.tmod (n : Int) 10) = ((48 + n % 10 : Nat) : Int) := by
        have := tmodN n 10
        rw [show ((10 : Nat) : Int) = 10 from rfl] at this
        rw [this, w64_id (by omega) (by omega)]
        omega
      have hs : (decL (n / 10)).length ≤ 19 := decL_length (d := 18) (by omega)
      rw [spec_l6Dec.u]
      refine (cf (df (by omega))).trans ((cf (df (by omega))).trans ((cf (df (by omega))).trans ((ct rfl).trans ?_)))
      rw [e1, ih (n / 10) k hq (by omega) (by omega)]
      refine (ct rfl).trans ?_
      simp only [e2]
      refine (ct (dt (by rw [ba_size, ofBytes_size]; simp only [List.length_singleton]; omega))).trans ?_
      rw [ofBytes_one _ (by omega), ba_append, decL_ge h10]
      rfl
theorem spec_l6Dec.val {R : Type} (n : Nat) (hn : n < 9223372036854775808) (K : ByteArray → Option R) : spec_l6Dec.c 4194304 (n : Int) K = K (ba (decL n)) := spec_l6Dec.deep 18 n 4194304 (by omega) (by omega) hn K
theorem spec_NoteWrite.val {R : Type} (a b c d : Int) (t : ByteArray) (K : ByteArray → Option R) : spec_NoteWrite.c 4194304 a b c d t K = K (nwB a b c d t) := by
  rw [spec_NoteWrite.u, spec_NoteOk.val]
  unfold nwB
  cases ho : ntOk a b c d t with
  | false => exact ct rfl
  | true =>
    obtain ⟨h1, h2, h3, h4, h5, _⟩ := ntOk_some ho
    obtain ⟨a', rfl⟩ := Int.eq_ofNat_of_zero_le h1.1
    obtain ⟨b', rfl⟩ := Int.eq_ofNat_of_zero_le (show 0 ≤ b by omega)
    obtain ⟨c', rfl⟩ := Int.eq_ofNat_of_zero_le h3.1
    obtain ⟨d', rfl⟩ := Int.eq_ofNat_of_zero_le (show 0 ≤ d by omega)
    have hs : (ByteArray.mk #[32]).size = 1 := rfl
    have e1 := decL_length (n := a') (d := 0) (by omega)
    have e2 := decL_length (n := b') (d := 1) (by omega)
    have e3 := decL_length (n := c') (d := 0) (by omega)
    have e4 := decL_length (n := d') (d := 2) (by omega)
    have b1 := ba_size (decL a')
    have b2 := ba_size (decL b')
    have b3 := ba_size (decL c')
    have b4 := ba_size (decL d')
    refine (cf rfl).trans ?_
    rw [spec_l6Dec.val _ (by omega)]
    refine (ct (dt (by omega))).trans ?_
    rw [spec_l6Dec.val _ (by omega)]
    refine (ct (dt (by simp only [sz_append]; omega))).trans ((ct (dt (by simp only [sz_append]; omega))).trans ?_)
    simp only []
    rw [spec_l6Dec.val _ (by omega)]
    refine (ct (dt (by simp only [sz_append]; omega))).trans ((ct (dt (by simp only [sz_append]; omega))).trans ?_)
    rw [spec_l6Dec.val _ (by omega)]
    refine (ct (dt (by simp only [sz_append]; omega))).trans ((ct (dt (by simp only [sz_append]; omega))).trans ?_)
    refine (ct (dt (by simp only [sz_append]; omega))).trans ?_
    refine congrArg K ?_
    apply tx_inj
    rw [cond_true, tx_ba]
    simp only [tx_append, tx_ba, ntL, Int.toNat_natCast]
    rfl
theorem spec_l12Less.val {R : Type} (a b c d : Int) (K : Bool → Option R) : spec_l12Less.c 4194304 a b c d K = K (lessB a b c d) := by
  rw [spec_l12Less.u]
  unfold lessB
  cases decide (a < c) with
  | true => rfl
  | false => cases decide (a = c) <;> rfl
theorem spec_l12Notes.l4r_val {R : Type} (l : List (Int × Int × Int × Int × ByteArray)) (hl : l.length ≤ 2097152) (x0 : Option R) (q : Bool → Option R) :
    spec_l12Notes.l4r (spec_l12Notes.g 4194304) 4194304 l x0 q 4194304 0 = cond ((List.range' 0 l.length).all (noteP l)) x0 (q false) := by
  refine idx_loop l.length (noteP l) x0 (q false) (fun n i => spec_l12Notes.l4r (spec_l12Notes.g 4194304) 4194304 l x0 q n i) (fun n i hi => ?_) (fun n => ?_) 4194304 (by omega)
  · rw [spec_l12Notes.l4r_u, w64_p1 i (by omega)]
    refine (ct (dt (by omega))).trans ((ct (gd hi)).trans ?_)
    rw [Int.toNat_natCast, spec_NoteOk.val]
    unfold noteP
    cases ho : ntOk (l.getD i nd).1 (l.getD i nd).2.1 (l.getD i nd).2.2.1 (l.getD i nd).2.2.2.1 (l.getD i nd).2.2.2.2 with
    | false => exact ct rfl
    | true =>
      refine (cf rfl).trans ?_
      rw [Bool.true_and]
      by_cases h0 : 0 < i
      · have w : w64 ((i : Int) - 1) = ((i - 1 : Nat) : Int) := (w64_id (x := (i : Int) - 1) (by omega) (by omega)).trans (by omega)
        refine (ct (dt (by omega))).trans ?_
        simp only [w, Int.toNat_natCast]
        refine (ct (gd (by omega))).trans ((ct (gd (by omega))).trans ((ct (gd hi)).trans ((ct (gd hi)).trans ?_)))
        rw [spec_l12Less.val, dt h0, cond_true]
        cases lessB _ _ _ _ <;> rfl
      · refine (cf (df (by omega))).trans ?_
        rw [df h0]
        rfl
  · show spec_l12Notes.l4r (spec_l12Notes.g 4194304) 4194304 l x0 q (n + 1) (l.length : Int) = x0
    rw [spec_l12Notes.l4r_u]
    exact cf (df (by omega))
theorem spec_l12Notes.val {R : Type} (l : List (Int × Int × Int × Int × ByteArray)) (hl : l.length ≤ 2097152) (K : Bool → Option R) : spec_l12Notes.c 4194304 l 6 K = K (decide (l.length ≤ 6) && (List.range' 0 l.length).all (noteP l)) := by
  rw [spec_l12Notes.u]
  by_cases h : l.length ≤ 6
  · refine (cf (df (by omega))).trans ?_
    rw [spec_l12Notes.l4r_val l hl, dt h, Bool.true_and]
    cases (List.range' 0 l.length).all (noteP l) <;> rfl
  · refine (ct (dt (by omega))).trans ?_
    rw [df h, Bool.false_and]
theorem spec_l12Marks.l4r_val {R : Type} (l : List (Int × Int × Int)) (hl : l.length ≤ 2097152) (x0 : Option R) (q : Bool → Option R) :
    spec_l12Marks.l4r (spec_l12Marks.g 4194304) 4194304 l x0 q 4194304 0 = cond ((List.range' 0 l.length).all (markP l)) x0 (q false) := by
  refine idx_loop l.length (markP l) x0 (q false) (fun n i => spec_l12Marks.l4r (spec_l12Marks.g 4194304) 4194304 l x0 q n i) (fun n i hi => ?_) (fun n => ?_) 4194304 (by omega)
  · rw [spec_l12Marks.l4r_u, w64_p1 i (by omega)]
    refine (ct (dt (by omega))).trans ((ct (gd hi)).trans ?_)
    simp only [Int.toNat_natCast]
    rw [spec_l3Keeper.val]
    unfold markP markOkB
    cases h1 : inB (l.getD i md).1 0 3 with
    | false => exact ct rfl
    | true =>
      refine (cf rfl).trans ?_
      rw [spec_l6In.val]
      cases h2 : inB (l.getD i md).2.1 1 99 with
      | false => exact ct rfl
      | true =>
        refine (cf rfl).trans ?_
        rw [spec_l6In.val]
        cases h3 : inB (l.getD i md).2.2 1 999 with
        | false => exact ct rfl
        | true =>
          refine (cf rfl).trans ?_
          rw [Bool.true_and, Bool.true_and, Bool.true_and]
          by_cases h0 : 0 < i
          · have w : w64 ((i : Int) - 1) = ((i - 1 : Nat) : Int) := (w64_id (x := (i : Int) - 1) (by omega) (by omega)).trans (by omega)
            refine (ct (dt (by omega))).trans ?_
            simp only [w, Int.toNat_natCast]
            refine (ct (gd (by omega))).trans ((ct (gd (by omega))).trans ?_)
            rw [spec_l12Less.val, dt h0, cond_true]
            cases lessB _ _ _ _ <;> rfl
          · refine (cf (df (by omega))).trans ?_
            rw [df h0]
            rfl
  · show spec_l12Marks.l4r (spec_l12Marks.g 4194304) 4194304 l x0 q (n + 1) (l.length : Int) = x0
    rw [spec_l12Marks.l4r_u]
    exact cf (df (by omega))
theorem spec_l12Marks.val {R : Type} (l : List (Int × Int × Int)) (hl : l.length ≤ 2097152) (K : Bool → Option R) : spec_l12Marks.c 4194304 l K = K (decide (l.length ≤ 12) && (List.range' 0 l.length).all (markP l)) := by
  rw [spec_l12Marks.u]
  by_cases h : l.length ≤ 12
  · refine (cf (df (by omega))).trans ?_
    rw [spec_l12Marks.l4r_val l hl, dt h, Bool.true_and]
    cases (List.range' 0 l.length).all (markP l) <;> rfl
  · refine (ct (dt (by omega))).trans ?_
    rw [df h, Bool.false_and]
theorem spec_l12Way.val {R : Type} (a b c d : Int) (t : ByteArray) (id : Int) (K : Bool → Option R) : spec_l12Way.c 4194304 a b c d t id K = K (wayB a c id) := by
  rw [spec_l12Way.u]
  unfold wayB
  cases decide (a ≤ id) <;> cases decide (id < c) <;> cases decide (c < id) <;> rfl
theorem spec_l12Mark.l4r_tot (fr nu : Int) (l : List (Int × Int × Int)) (hl : l.length ≤ 2097152) : ∀ (d i : Nat), i + d = l.length → ∃ r : Int, (0 ≤ r ↔ hasM (l.drop i) fr nu = true) ∧ ∀ {R : Type} (K : Int → Option R) (n : Nat), d < n → spec_l12Mark.l4r (spec_l12Mark.g 4194304) 4194304 fr nu l (K (-1)) (fun v => K v) n (i : Int) = K r := by
  intro d
  induction d with
  | zero =>
    intro i h1
    refine ⟨-1, ?_, fun K n hn => ?_⟩
    · rw [List.drop_eq_nil_of_le (by omega)]
      simp [hasM]
    · obtain ⟨n, rfl⟩ := Nat.exists_eq_succ_of_ne_zero (n := n) (by omega)
      rw [spec_l12Mark.l4r_u]
      exact cf (df (by omega))
  | succ d ih =>
    intro i h1
    have hi : i < l.length := by omega
    obtain ⟨r, q1, q2⟩ := ih (i + 1) (by omega)
    by_cases h : l[i].1 = fr ∧ l[i].2.1 = nu
    · refine ⟨(i : Int), ⟨fun _ => ?_, fun _ => by omega⟩, fun K n hn => ?_⟩
      · rw [List.drop_eq_getElem_cons hi]
        unfold hasM
        rw [List.any_cons, dt h.1, dt h.2]
        rfl
      · obtain ⟨n, rfl⟩ := Nat.exists_eq_succ_of_ne_zero (n := n) (by omega)
        rw [spec_l12Mark.l4r_u, Int.toNat_natCast, getD_at hi]
        exact (ct (dt (by omega))).trans ((ct (gd hi)).trans ((ct (dt h.1)).trans ((ct (gd hi)).trans (ct (dt h.2)))))
    · refine ⟨r, ?_, fun K n hn => ?_⟩
      · rw [q1, List.drop_eq_getElem_cons hi]
        unfold hasM
        rw [List.any_cons]
        have : (decide (l[i].1 = fr) && decide (l[i].2.1 = nu)) = false := by
          rw [Bool.and_eq_false_iff]
          by_cases h2 : l[i].1 = fr
          · exact .inr (df fun h3 => h ⟨h2, h3⟩)
          · exact .inl (df h2)
        rw [this, Bool.false_or]
      · obtain ⟨n, rfl⟩ := Nat.exists_eq_succ_of_ne_zero (n := n) (by omega)
        rw [spec_l12Mark.l4r_u, Int.toNat_natCast, getD_at hi, w64_p1 i (by omega), q2 K n (by omega)]
        refine (ct (dt (by omega))).trans ((ct (gd hi)).trans ?_)
        by_cases h2 : l[i].1 = fr
        · exact (ct (dt h2)).trans ((ct (gd hi)).trans (cf (df fun h3 => h ⟨h2, h3⟩)))
        · exact cf (df h2)
theorem spec_l12Mark.tot (l : List (Int × Int × Int)) (hl : l.length ≤ 2097152) (fr nu : Int) : ∃ r : Int, (0 ≤ r ↔ hasM l fr nu = true) ∧ ∀ {R : Type} (K : Int → Option R), spec_l12Mark.c 4194304 l fr nu K = K r := by
  obtain ⟨r, q1, q2⟩ := spec_l12Mark.l4r_tot fr nu l hl l.length 0 (by omega)
  refine ⟨r, by simpa using q1, fun K => ?_⟩
  rw [spec_l12Mark.u]
  exact q2 K 4194304 (by omega)
theorem spec_KeepOk.l4r_val {R : Type} (id now next : Int) (held : List (Int × Int × Int × Int × ByteArray)) (marks : List (Int × Int × Int)) (inbox : List (Int × Int × Int × Int × ByteArray)) (h3 : held.length ≤ 2097152) (h4 : marks.length ≤ 2097152) (x0 : Option R) (q : Bool → Option R) :
    spec_KeepOk.l4r (spec_KeepOk.g 4194304) 4194304 id now next held marks inbox x0 q 4194304 0 = cond ((List.range' 0 held.length).all (heldP id now next held marks)) x0 (q false) := by
  refine idx_loop held.length (heldP id now next held marks) x0 (q false) (fun n i => spec_KeepOk.l4r (spec_KeepOk.g 4194304) 4194304 id now next held marks inbox x0 q n i) (fun n i hi => ?_) (fun n => ?_) 4194304 (by omega)
  · rw [spec_KeepOk.l4r_u, w64_p1 i (by omega)]
    refine (ct (dt (by omega))).trans ((ct (gd hi)).trans ?_)
    simp only [Int.toNat_natCast]
    unfold heldP
    obtain ⟨r, hr, er⟩ := spec_l12Mark.tot marks h4 (held.getD i nd).1 (held.getD i nd).2.1
    have hr2 : ¬ 0 ≤ r → hasM marks (held.getD i nd).1 (held.getD i nd).2.1 = false := fun h => by
      cases e : hasM marks (held.getD i nd).1 (held.getD i nd).2.1 with
      | false => rfl
      | true => exact absurd (hr.2 e) h
    by_cases c1 : (held.getD i nd).2.2.2.1 ≤ now
    · refine (ct (dt c1)).trans ?_
      rw [dt c1]
      rfl
    · refine (cf (df c1)).trans ?_
      rw [spec_l12Way.val, df c1]
      cases wayB (held.getD i nd).1 (held.getD i nd).2.2.1 id with
      | false => exact ct rfl
      | true =>
        refine (cf rfl).trans ?_
        by_cases c2 : (held.getD i nd).1 = id
        · refine (ct (dt c2)).trans ?_
          rw [dt c2]
          by_cases c3 : next ≤ (held.getD i nd).2.1
          · refine (ct (dt c3)).trans ?_
            rw [dt c3]
            rfl
          · refine (cf (df c3)).trans ?_
            rw [df c3, er]
            by_cases c4 : 0 ≤ r
            · rw [hr.1 c4]
              exact ct (dt c4)
            · rw [hr2 c4]
              exact cf (df c4)
        · refine (cf (df c2)).trans ?_
          rw [df c2, er]
          by_cases c4 : 0 ≤ r
          · rw [hr.1 c4]
            exact ct (dt c4)
          · rw [hr2 c4]
            exact cf (df c4)
  · show spec_KeepOk.l4r (spec_KeepOk.g 4194304) 4194304 id now next held marks inbox x0 q (n + 1) (held.length : Int) = x0
    rw [spec_KeepOk.l4r_u]
    exact cf (df (by omega))
theorem spec_KeepOk.l9r_val {R : Type} (id now next : Int) (held : List (Int × Int × Int × Int × ByteArray)) (marks : List (Int × Int × Int)) (inbox : List (Int × Int × Int × Int × ByteArray)) (h4 : marks.length ≤ 2097152) (x0 : Option R) (q : Bool → Option R) :
    spec_KeepOk.l9r (spec_KeepOk.g 4194304) 4194304 id now next held marks inbox x0 q 4194304 0 = cond ((List.range' 0 marks.length).all (markQ id now next marks)) x0 (q false) := by
  refine idx_loop marks.length (markQ id now next marks) x0 (q false) (fun n i => spec_KeepOk.l9r (spec_KeepOk.g 4194304) 4194304 id now next held marks inbox x0 q n i) (fun n i hi => ?_) (fun n => ?_) 4194304 (by omega)
  · rw [spec_KeepOk.l9r_u, w64_p1 i (by omega)]
    refine (ct (dt (by omega))).trans ((ct (gd hi)).trans ?_)
    simp only [Int.toNat_natCast]
    unfold markQ
    by_cases c1 : (marks.getD i md).2.2 ≤ now
    · refine (ct (dt c1)).trans ?_
      rw [dt c1]
      rfl
    · refine (cf (df c1)).trans ?_
      rw [df c1]
      by_cases c2 : (marks.getD i md).1 = id
      · refine (ct (dt c2)).trans ?_
        rw [dt c2]
        by_cases c3 : next ≤ (marks.getD i md).2.1
        · refine (ct (dt c3)).trans ?_
          rw [dt c3]
          rfl
        · rw [df c3]
          exact cf rfl
      · rw [df c2]
        exact cf rfl
  · show spec_KeepOk.l9r (spec_KeepOk.g 4194304) 4194304 id now next held marks inbox x0 q (n + 1) (marks.length : Int) = x0
    rw [spec_KeepOk.l9r_u]
    exact cf (df (by omega))
theorem spec_KeepOk.l14r_val {R : Type} (id now next : Int) (held : List (Int × Int × Int × Int × ByteArray)) (marks : List (Int × Int × Int)) (inbox : List (Int × Int × Int × Int × ByteArray)) (h4 : marks.length ≤ 2097152) (h5 : inbox.length ≤ 2097152) (x0 : Option R) (q : Bool → Option R) :
    spec_KeepOk.l14r (spec_KeepOk.g 4194304) 4194304 id now next held marks inbox x0 q 4194304 0 = cond ((List.range' 0 inbox.length).all (inbP id now next inbox marks)) x0 (q false) := by
  refine idx_loop inbox.length (inbP id now next inbox marks) x0 (q false) (fun n i => spec_KeepOk.l14r (spec_KeepOk.g 4194304) 4194304 id now next held marks inbox x0 q n i) (fun n i hi => ?_) (fun n => ?_) 4194304 (by omega)
  · rw [spec_KeepOk.l14r_u, w64_p1 i (by omega)]
    refine (ct (dt (by omega))).trans ((ct (gd hi)).trans ?_)
    simp only [Int.toNat_natCast]
    unfold inbP
    obtain ⟨r, hr, er⟩ := spec_l12Mark.tot marks h4 (inbox.getD i nd).1 (inbox.getD i nd).2.1
    have hr2 : ¬ 0 ≤ r → hasM marks (inbox.getD i nd).1 (inbox.getD i nd).2.1 = false := fun h => by
      cases e : hasM marks (inbox.getD i nd).1 (inbox.getD i nd).2.1 with
      | false => rfl
      | true => exact absurd (hr.2 e) h
    by_cases c1 : (inbox.getD i nd).2.2.1 = id
    · refine (cf (by rw [dt c1]; rfl)).trans ?_
      rw [dt c1]
      by_cases c2 : (inbox.getD i nd).1 = id
      · refine (ct (dt c2)).trans ?_
        rw [dt c2]
        by_cases c3 : next ≤ (inbox.getD i nd).2.1
        · refine (ct (dt c3)).trans ?_
          rw [dt c3]
          rfl
        · refine (cf (df c3)).trans ?_
          rw [df c3]
          by_cases c5 : now < (inbox.getD i nd).2.2.2.1
          · refine (ct (dt c5)).trans ?_
            rw [dt c5, er]
            by_cases c4 : 0 ≤ r
            · rw [hr.1 c4]
              exact cf (df (by omega))
            · rw [hr2 c4]
              exact ct (dt (by omega))
          · rw [df c5]
            exact cf rfl
      · refine (cf (df c2)).trans ?_
        rw [df c2]
        by_cases c5 : now < (inbox.getD i nd).2.2.2.1
        · refine (ct (dt c5)).trans ?_
          rw [dt c5, er]
          by_cases c4 : 0 ≤ r
          · rw [hr.1 c4]
            exact cf (df (by omega))
          · rw [hr2 c4]
            exact ct (dt (by omega))
        · rw [df c5]
          exact cf rfl
    · refine (ct (by rw [df c1]; rfl)).trans ?_
      rw [df c1]
      rfl
  · show spec_KeepOk.l14r (spec_KeepOk.g 4194304) 4194304 id now next held marks inbox x0 q (n + 1) (inbox.length : Int) = x0
    rw [spec_KeepOk.l14r_u]
    exact cf (df (by omega))
theorem spec_KeepOk.val {R : Type} (id now next : Int) (held : List (Int × Int × Int × Int × ByteArray)) (marks : List (Int × Int × Int)) (inbox : List (Int × Int × Int × Int × ByteArray)) (h3 : held.length ≤ 2097152) (h4 : marks.length ≤ 2097152) (h5 : inbox.length ≤ 2097152) (K : Bool → Option R) : spec_KeepOk.c 4194304 id now next held marks inbox K = K (keepB id now next held marks inbox) := by
  rw [spec_KeepOk.u, spec_l3Keeper.val]
  unfold keepB
  cases inB id 0 3 with
  | false => exact ct rfl
  | true =>
    refine (cf rfl).trans ?_
    rw [spec_l6In.val]
    cases inB now 0 999 with
    | false => exact ct rfl
    | true =>
      refine (cf rfl).trans ?_
      rw [spec_l6In.val]
      cases inB next 1 100 with
      | false => exact ct rfl
      | true =>
        refine (cf rfl).trans ?_
        rw [spec_l12Notes.val _ h3]
        cases decide (held.length ≤ 6) with
        | false => exact ct rfl
        | true =>
          cases (List.range' 0 held.length).all (noteP held) with
          | false => exact ct rfl
          | true =>
            refine (cf rfl).trans ?_
            rw [spec_l12Marks.val _ h4]
            cases decide (marks.length ≤ 12) with
            | false => exact ct rfl
            | true =>
              cases (List.range' 0 marks.length).all (markP marks) with
              | false => exact ct rfl
              | true =>
                refine (cf rfl).trans ?_
                rw [spec_l12Notes.val _ h5]
                cases decide (inbox.length ≤ 6) with
                | false => exact ct rfl
                | true =>
                  cases (List.range' 0 inbox.length).all (noteP inbox) with
                  | false => exact ct rfl
                  | true =>
                    refine (cf rfl).trans ?_
                    rw [spec_KeepOk.l4r_val _ _ _ _ _ _ h3 h4, spec_KeepOk.l9r_val _ _ _ _ _ _ h4, spec_KeepOk.l14r_val _ _ _ _ _ _ h4 h5]
                    cases (List.range' 0 held.length).all (heldP id now next held marks) with
                    | false => rfl
                    | true =>
                      cases (List.range' 0 marks.length).all (markQ id now next marks) with
                      | false => rfl
                      | true =>
                        cases (List.range' 0 inbox.length).all (inbP id now next inbox marks) <;> rfl
theorem markOk_some {m : Int × Int × Int} (h : markOkB m = true) : ∃ a b c : Nat, m = ((a : Int), (b : Int), (c : Int)) ∧ a ≤ 3 ∧ b ≤ 99 ∧ c ≤ 999 := by
  obtain ⟨x, y, z⟩ := m
  simp only [markOkB, Bool.and_eq_true, inB_iff] at h
  obtain ⟨a, ha⟩ := Int.eq_ofNat_of_zero_le h.1.1
  obtain ⟨b, hb⟩ := Int.eq_ofNat_of_zero_le (show 0 ≤ y by omega)
  obtain ⟨c, hc⟩ := Int.eq_ofNat_of_zero_le (show 0 ≤ z by omega)
  exact ⟨a, b, c, by rw [ha, hb, hc], by omega, by omega, by omega⟩
theorem spec_KeepRecs.l5r_val {R : Type} (id now next : Int) (held : List (Int × Int × Int × Int × ByteArray)) (marks : List (Int × Int × Int)) (inbox : List (Int × Int × Int × Int × ByteArray)) (l4 : marks.length ≤ 12) (hm : ∀ m ∈ marks, markOkB m = true) (x : List ByteArray → Option R) (w : List ByteArray) (hw : w.length ≤ 50) :
    spec_KeepRecs.l5r (spec_KeepRecs.g 4194304) 4194304 id now next held marks inbox x 4194304 0 w = x (w ++ marks.map markW) := by
  refine app_loop marks md markW x (fun n i w => spec_KeepRecs.l5r (spec_KeepRecs.g 4194304) 4194304 id now next held marks inbox x n i w) 100 (fun n i w hi hb => ?_) (fun n w => ?_) 4194304 w (by omega) (by omega)
  · obtain ⟨a, b, c, em, h1, h2, h3⟩ := markOk_some (hm _ (List.getElem_mem hi))
    have e1 := decL_length (n := a) (d := 0) (by omega)
    have e2 := decL_length (n := b) (d := 1) (by omega)
    have e3 := decL_length (n := c) (d := 2) (by omega)
    have b1 := ba_size (decL a)
    have b2 := ba_size (decL b)
    have b3 := ba_size (decL c)
    have hs : (ByteArray.mk #[32]).size = 1 := rfl
    have hmk : (ByteArray.mk #[109, 97, 114, 107, 32]).size = 5 := rfl
    rw [spec_KeepRecs.l5r_u, w64_p1 i (by omega)]
    refine (ct (dt (by omega))).trans ((ct (gd hi)).trans ?_)
    simp only [Int.toNat_natCast]
    rw [getD_at hi, em]
    dsimp only
    rw [spec_l6Dec.val _ (by omega)]
    refine (ct (dt (by omega))).trans ((ct (dt (by simp only [sz_append]; omega))).trans ?_)
    rw [spec_l6Dec.val _ (by omega)]
    refine (ct (dt (by simp only [sz_append]; omega))).trans ((ct (dt (by simp only [sz_append]; omega))).trans ?_)
    rw [spec_l6Dec.val _ (by omega)]
    refine (ct (dt (by simp only [sz_append]; omega))).trans ((ct (lim_le (by simp; omega))).trans ?_)
    rfl
  · show spec_KeepRecs.l5r (spec_KeepRecs.g 4194304) 4194304 id now next held marks inbox x (n + 1) (marks.length : Int) w = _
    rw [spec_KeepRecs.l5r_u]
    exact cf (df (by omega))
theorem spec_KeepRecs.l10r_val {R : Type} (id now next : Int) (held : List (Int × Int × Int × Int × ByteArray)) (marks : List (Int × Int × Int)) (inbox : List (Int × Int × Int × Int × ByteArray)) (l : held.length ≤ 6) (x : List ByteArray → Option R) (w : List ByteArray) (hw : w.length ≤ 50) :
    spec_KeepRecs.l10r (spec_KeepRecs.g 4194304) 4194304 id now next held marks inbox x 4194304 0 w = x (w ++ held.map heldW) := by
  refine app_loop held nd heldW x (fun n i w => spec_KeepRecs.l10r (spec_KeepRecs.g 4194304) 4194304 id now next held marks inbox x n i w) 100 (fun n i w hi hb => ?_) (fun n w => ?_) 4194304 w (by omega) (by omega)
  · have hz := nwB_small (held.getD i ((0 : Int), (0 : Int), (0 : Int), (0 : Int), ByteArray.empty)).1 (held.getD i ((0 : Int), (0 : Int), (0 : Int), (0 : Int), ByteArray.empty)).2.1 (held.getD i ((0 : Int), (0 : Int), (0 : Int), (0 : Int), ByteArray.empty)).2.2.1 (held.getD i ((0 : Int), (0 : Int), (0 : Int), (0 : Int), ByteArray.empty)).2.2.2.1 (held.getD i ((0 : Int), (0 : Int), (0 : Int), (0 : Int), ByteArray.empty)).2.2.2.2
    have hh : (ByteArray.mk #[104, 101, 108, 100, 32]).size = 5 := rfl
    rw [spec_KeepRecs.l10r_u, w64_p1 i (by omega)]
    refine (ct (dt (by omega))).trans ((ct (gd hi)).trans ?_)
    rw [Int.toNat_natCast, spec_NoteWrite.val]
    refine (ct (dt (by omega))).trans ((ct (lim_le (by simp; omega))).trans ?_)
    rfl
  · show spec_KeepRecs.l10r (spec_KeepRecs.g 4194304) 4194304 id now next held marks inbox x (n + 1) (held.length : Int) w = _
    rw [spec_KeepRecs.l10r_u]
    exact cf (df (by omega))
theorem spec_KeepRecs.l15r_val {R : Type} (id now next : Int) (held : List (Int × Int × Int × Int × ByteArray)) (marks : List (Int × Int × Int)) (inbox : List (Int × Int × Int × Int × ByteArray)) (l : inbox.length ≤ 6) (x : List ByteArray → Option R) (w : List ByteArray) (hw : w.length ≤ 50) :
    spec_KeepRecs.l15r (spec_KeepRecs.g 4194304) 4194304 id now next held marks inbox x 4194304 0 w = x (w ++ inbox.map inboxW) := by
  refine app_loop inbox nd inboxW x (fun n i w => spec_KeepRecs.l15r (spec_KeepRecs.g 4194304) 4194304 id now next held marks inbox x n i w) 100 (fun n i w hi hb => ?_) (fun n w => ?_) 4194304 w (by omega) (by omega)
  · have hz := nwB_small (inbox.getD i ((0 : Int), (0 : Int), (0 : Int), (0 : Int), ByteArray.empty)).1 (inbox.getD i ((0 : Int), (0 : Int), (0 : Int), (0 : Int), ByteArray.empty)).2.1 (inbox.getD i ((0 : Int), (0 : Int), (0 : Int), (0 : Int), ByteArray.empty)).2.2.1 (inbox.getD i ((0 : Int), (0 : Int), (0 : Int), (0 : Int), ByteArray.empty)).2.2.2.1 (inbox.getD i ((0 : Int), (0 : Int), (0 : Int), (0 : Int), ByteArray.empty)).2.2.2.2
    have hh : (ByteArray.mk #[105, 110, 98, 111, 120, 32]).size = 6 := rfl
    rw [spec_KeepRecs.l15r_u, w64_p1 i (by omega)]
    refine (ct (dt (by omega))).trans ((ct (gd hi)).trans ?_)
    rw [Int.toNat_natCast, spec_NoteWrite.val]
    refine (ct (dt (by omega))).trans ((ct (lim_le (by simp; omega))).trans ?_)
    rfl
  · show spec_KeepRecs.l15r (spec_KeepRecs.g 4194304) 4194304 id now next held marks inbox x (n + 1) (inbox.length : Int) w = _
    rw [spec_KeepRecs.l15r_u]
    exact cf (df (by omega))
theorem spec_KeepRecs.c21_val {R : Type} (id now next : Int) (held : List (Int × Int × Int × Int × ByteArray)) (marks : List (Int × Int × Int)) (inbox : List (Int × Int × Int × Int × ByteArray)) (l3 : held.length ≤ 6) (l4 : marks.length ≤ 12) (hm : ∀ m ∈ marks, markOkB m = true) (l5 : inbox.length ≤ 6) (w : List ByteArray) (hw : w.length ≤ 10) (q : List ByteArray → Option R) :
    spec_KeepRecs.c21 (spec_KeepRecs.g 4194304) 4194304 id now next w held marks inbox q = q (w ++ marks.map markW ++ held.map heldW ++ inbox.map inboxW) := by
  rw [spec_KeepRecs.c21_u, spec_KeepRecs.l5r_val _ _ _ _ _ _ l4 hm _ _ (by omega), spec_KeepRecs.l10r_val _ _ _ _ _ _ l3 _ _ (by simp; omega), spec_KeepRecs.l15r_val _ _ _ _ _ _ l5 _ _ (by simp; omega)]
theorem spec_KeepRecs.c22_val {R : Type} (id now next : Int) (hn : 1 ≤ next ∧ next ≤ 100) (held : List (Int × Int × Int × Int × ByteArray)) (marks : List (Int × Int × Int)) (inbox : List (Int × Int × Int × Int × ByteArray)) (l3 : held.length ≤ 6) (l4 : marks.length ≤ 12) (hm : ∀ m ∈ marks, markOkB m = true) (l5 : inbox.length ≤ 6) (w : List ByteArray) (hw : w.length ≤ 5) (q : List ByteArray → Option R) :
    spec_KeepRecs.c22 (spec_KeepRecs.g 4194304) 4194304 id now next w held marks inbox q = q (w ++ nextW next ++ marks.map markW ++ held.map heldW ++ inbox.map inboxW) := by
  rw [spec_KeepRecs.c22_u]
  unfold nextW
  by_cases h : (1 : Int) < next
  · obtain ⟨m, rfl⟩ := Int.eq_ofNat_of_zero_le (show 0 ≤ next by omega)
    have e1 := decL_length (n := m) (d := 2) (by omega)
    have b1 := ba_size (decL m)
    have hz : (ByteArray.mk #[110, 101, 120, 116, 32]).size = 5 := rfl
    refine (ct (dt h)).trans ?_
    rw [spec_l6Dec.val _ (by omega), dt h, cond_true, Int.toNat_natCast]
    refine (ct (dt (by omega))).trans ((ct (lim_le (by simp; omega))).trans ?_)
    exact spec_KeepRecs.c21_val id now _ held marks inbox l3 l4 hm l5 _ (by simp; omega) _
  · refine (cf (df h)).trans ?_
    rw [df h, cond_false, List.append_nil]
    exact spec_KeepRecs.c21_val id now _ held marks inbox l3 l4 hm l5 _ (by omega) _
theorem spec_KeepRecs.val {R : Type} (id now next : Int) (held : List (Int × Int × Int × Int × ByteArray)) (marks : List (Int × Int × Int)) (inbox : List (Int × Int × Int × Int × ByteArray)) (h3 : held.length ≤ 2097152) (h4 : marks.length ≤ 2097152) (h5 : inbox.length ≤ 2097152) (K : List ByteArray → Option R) : spec_KeepRecs.c 4194304 id now next held marks inbox K = K (recsK id now next held marks inbox) := by
  rw [spec_KeepRecs.u, spec_KeepOk.val _ _ _ _ _ _ h3 h4 h5]
  unfold recsK
  cases hk : keepB id now next held marks inbox with
  | false => exact ct rfl
  | true =>
    obtain ⟨g1, g2, g3, g4, g5, g6⟩ := keepB_some hk
    refine (cf rfl).trans ?_
    rw [cond_true]
    unfold timeW
    by_cases h : (0 : Int) < now
    · obtain ⟨m, rfl⟩ := Int.eq_ofNat_of_zero_le g1.1
      have e1 := decL_length (n := m) (d := 2) (by omega)
      have b1 := ba_size (decL m)
      have hz : (ByteArray.mk #[116, 105, 109, 101, 32]).size = 5 := rfl
      refine (ct (dt h)).trans ?_
      rw [spec_l6Dec.val _ (by omega), dt h, cond_true, Int.toNat_natCast]
      refine (ct (dt (by omega))).trans ((ct (lim_le (by simp))).trans ?_)
      exact spec_KeepRecs.c22_val id _ next g2 held marks inbox g3 g4 g6 g5 _ (by simp) _
    · refine (cf (df h)).trans ?_
      rw [df h, cond_false]
      exact spec_KeepRecs.c22_val id _ next g2 held marks inbox g3 g4 g6 g5 _ (by simp) _
theorem laws_toNote.val {R : Type} (a b c d : Int) (t : ByteArray) (K : Int → Int → Int → Int → ByteArray → Option R) : laws_toNote.c 4194304 a b c d t K = K a b c d t := by rw [laws_toNote.u]
theorem laws_toNoteS.l4r_val {R : Type} (l : List (Int × Int × Int × Int × ByteArray)) (hl : l.length ≤ 2097152) (x : List (Int × Int × Int × Int × ByteArray) → Option R) : ∀ (d i n : Nat) (w : List (Int × Int × Int × Int × ByteArray)), i + d = l.length → d < n → w.length = l.length → w.take i = l.take i →
    laws_toNoteS.l4r (laws_toNoteS.g 4194304) 4194304 l x n (i : Int) w = x l := by
  intro d
  induction d with
  | zero =>
    intro i n w h1 h2 h3 h4
    obtain ⟨n, rfl⟩ := Nat.exists_eq_succ_of_ne_zero (n := n) (by omega)
    rw [laws_toNoteS.l4r_u]
    refine (cf (df (by omega))).trans ?_
    rw [List.take_of_length_le (by omega), List.take_of_length_le (by omega)] at h4
    rw [h4]
  | succ d ih =>
    intro i n w h1 h2 h3 h4
    obtain ⟨n, rfl⟩ := Nat.exists_eq_succ_of_ne_zero (n := n) (by omega)
    have hi : i < l.length := by omega
    rw [laws_toNoteS.l4r_u, Int.toNat_natCast, getD_at hi, w64_p1 i (by omega)]
    refine (ct (dt (by omega))).trans ((ct (gd hi)).trans ?_)
    rw [laws_toNote.u]
    refine (ct (gd (by omega))).trans ?_
    refine ih (i + 1) n _ (by omega) (by omega) (by rw [List.length_set]; exact h3) ?_
    apply List.ext_getElem?
    intro j
    rw [List.getElem?_take, List.getElem?_take]
    by_cases hj : j < i + 1
    · rw [if_pos hj, if_pos hj, List.getElem?_set]
      by_cases he : i = j
      · subst he
        rw [if_pos rfl, if_pos (by omega), List.getElem?_eq_getElem hi]
      · rw [if_neg he]
        have := congrArg (fun z => z[j]?) h4
        simp only [List.getElem?_take] at this
        rw [if_pos (by omega), if_pos (by omega)] at this
        exact this
    · rw [if_neg hj, if_neg hj]
theorem laws_toNoteS.val {R : Type} (l : List (Int × Int × Int × Int × ByteArray)) (hl : l.length ≤ 2097152) (K : List (Int × Int × Int × Int × ByteArray) → Option R) : laws_toNoteS.c 4194304 l K = K l := by
  rw [laws_toNoteS.u]
  refine (ct (by simp [lim_le (show l.length ≤ 1099511627776 by omega)])).trans ?_
  rw [Int.toNat_natCast]
  exact laws_toNoteS.l4r_val l hl (fun w => K w) l.length 0 4194304 _ (by omega) (by omega) (by rw [List.length_replicate]) (by simp)
theorem laws_toMarkS.l4r_val {R : Type} (l : List (Int × Int × Int)) (hl : l.length ≤ 2097152) (x : List (Int × Int × Int) → Option R) : ∀ (d i n : Nat) (w : List (Int × Int × Int)), i + d = l.length → d < n → w.length = l.length → w.take i = l.take i →
    laws_toMarkS.l4r (laws_toMarkS.g 4194304) 4194304 l x n (i : Int) w = x l := by
  intro d
  induction d with
  | zero =>
    intro i n w h1 h2 h3 h4
    obtain ⟨n, rfl⟩ := Nat.exists_eq_succ_of_ne_zero (n := n) (by omega)
    rw [laws_toMarkS.l4r_u]
    refine (cf (df (by omega))).trans ?_
    rw [List.take_of_length_le (by omega), List.take_of_length_le (by omega)] at h4
    rw [h4]
  | succ d ih =>
    intro i n w h1 h2 h3 h4
    obtain ⟨n, rfl⟩ := Nat.exists_eq_succ_of_ne_zero (n := n) (by omega)
    have hi : i < l.length := by omega
    rw [laws_toMarkS.l4r_u, Int.toNat_natCast, getD_at hi, w64_p1 i (by omega)]
    refine (ct (dt (by omega))).trans ((ct (gd hi)).trans ?_)
    rw [laws_toMark.u]
    refine (ct (gd (by omega))).trans ?_
    refine ih (i + 1) n _ (by omega) (by omega) (by rw [List.length_set]; exact h3) ?_
    apply List.ext_getElem?
    intro j
    rw [List.getElem?_take, List.getElem?_take]
    by_cases hj : j < i + 1
    · rw [if_pos hj, if_pos hj, List.getElem?_set]
      by_cases he : i = j
      · subst he
        rw [if_pos rfl, if_pos (by omega), List.getElem?_eq_getElem hi]
      · rw [if_neg he]
        have := congrArg (fun z => z[j]?) h4
        simp only [List.getElem?_take] at this
        rw [if_pos (by omega), if_pos (by omega)] at this
        exact this
    · rw [if_neg hj, if_neg hj]
theorem laws_toMarkS.val {R : Type} (l : List (Int × Int × Int)) (hl : l.length ≤ 2097152) (K : List (Int × Int × Int) → Option R) : laws_toMarkS.c 4194304 l K = K l := by
  rw [laws_toMarkS.u]
  refine (ct (by simp [lim_le (show l.length ≤ 1099511627776 by omega)])).trans ?_
  rw [Int.toNat_natCast]
  exact laws_toMarkS.l4r_val l hl (fun w => K w) l.length 0 4194304 _ (by omega) (by omega) (by rw [List.length_replicate]) (by simp)
theorem laws_toKeep.val {R : Type} (a b c : Int) (x3 x5 : List (Int × Int × Int × Int × ByteArray)) (x4 : List (Int × Int × Int)) (h3 : x3.length ≤ 2097152) (h4 : x4.length ≤ 2097152) (h5 : x5.length ≤ 2097152) (K : Int → Int → Int → List (Int × Int × Int × Int × ByteArray) → List (Int × Int × Int) → List (Int × Int × Int × Int × ByteArray) → Option R) : laws_toKeep.c 4194304 a b c x3 x4 x5 K = K a b c x3 x4 x5 := by
  rw [laws_toKeep.u, laws_toNoteS.val _ h3, laws_toMarkS.val _ h4, laws_toNoteS.val _ h5]
theorem impl_in.val {R : Type} (k : Nat) (a b c : Int) (K : Bool → Option R) : impl_in.c k a b c K = K (inB a b c) := by
  rw [impl_in.u]
  unfold inB
  by_cases h : b ≤ a <;> simp [h]
theorem impl_isNode.val {R : Type} (k : Nat) (a : Int) (K : Bool → Option R) : impl_isNode.c k a K = K (inB a 0 3) := by
  rw [impl_isNode.u, impl_in.val]
theorem impl_textOk.l4r_val {R : Type} (t : ByteArray) (ht : t.size ≤ 2097152) (x0 : Option R) (q : Bool → Option R) : ∀ (e i n : Nat), i + e = t.size → e < n →
    impl_textOk.l4r (impl_textOk.g 4194304) 4194304 t x0 q n (i : Int) = cond (((tx t).drop i).all chOk) x0 (q false) := by
  have hl := tx_length t
  intro e
  induction e with
  | zero =>
    intro i n h1 h2
    obtain ⟨n, rfl⟩ := Nat.exists_eq_succ_of_ne_zero (n := n) (by omega)
    rw [impl_textOk.l4r_u, List.drop_eq_nil_of_le (by omega)]
    exact cf (df (by omega))
  | succ e ih =>
    intro i n h1 h2
    obtain ⟨n, rfl⟩ := Nat.exists_eq_succ_of_ne_zero (n := n) (by omega)
    have hi : i < t.size := by omega
    have hlt : i < (tx t).length := by omega
    have hby := (tx t)[i].toNat_lt
    rw [impl_textOk.l4r_u, Int.toNat_natCast, byteAt_tx, getD_at hlt, w64_p1 i (by omega), w64_nat _ (by omega), List.drop_eq_getElem_cons hlt, List.all_cons]
    refine (ct (dt (by omega))).trans ((ct (gd hi)).trans ?_)
    rw [impl_in.val]
    by_cases c1 : (32 : Int) ≤ (((tx t)[i].toNat : Nat) : Int) ∧ (((tx t)[i].toNat : Nat) : Int) ≤ 126
    · rw [inB_yes c1.1 c1.2, show chOk (tx t)[i] = true from by simp [chOk]; omega, Bool.true_and, ← ih (i + 1) n (by omega) (by omega)]
      exact cf rfl
    · rw [inB_no c1, show chOk (tx t)[i] = false from by simp [chOk]; omega, Bool.false_and]
      exact ct rfl
theorem impl_textOk.val {R : Type} (t : ByteArray) (ht : t.size ≤ 2097152) (K : Bool → Option R) : impl_textOk.c 4194304 t K = K (txOk t) := by
  rw [impl_textOk.u]
  refine (impl_textOk.l4r_val t ht _ _ t.size 0 4194304 (by omega) (by omega)).trans ?_
  rw [List.drop_zero, impl_in.val]
  unfold txOk
  show cond ((tx t).all chOk) _ _ = K (inB (t.size : Int) 1 24 && (tx t).all chOk)
  cases (tx t).all chOk with
  | true => rw [Bool.and_true]; rfl
  | false => rw [Bool.and_false]; rfl
theorem impl_NoteOk.val {R : Type} (a b c d : Int) (t : ByteArray) (ht : t.size ≤ 2097152) (K : Bool → Option R) : impl_NoteOk.c 4194304 a b c d t K = K (ntOk a b c d t) := by
  rw [impl_NoteOk.u, impl_isNode.val]
  cases h1 : inB a 0 3 with
  | false => exact (cf rfl).trans (by simp [ntOk, h1])
  | true =>
    refine (ct rfl).trans ?_
    rw [impl_isNode.val]
    cases h2 : inB c 0 3 with
    | false => exact (cf rfl).trans (by simp [ntOk, h2])
    | true =>
      refine (ct rfl).trans ?_
      rw [impl_in.val]
      cases h3 : inB b 1 99 with
      | false => exact (cf rfl).trans (by simp [ntOk, h3])
      | true =>
        refine (ct rfl).trans ?_
        rw [impl_in.val]
        cases h4 : inB d 1 999 with
        | false => exact (cf rfl).trans (by simp [ntOk, h4])
        | true =>
          refine (ct rfl).trans ?_
          rw [impl_textOk.val _ ht]
          simp [ntOk, h1, h2, h3, h4]
theorem libDec (n : Nat) : Go.Lib.decDigits n = decL n := by
  induction n using Nat.strongRecOn with
  | ind n ih =>
    rw [Go.Lib.decDigits, decL]
    by_cases h : n < 10
    · rw [dif_pos h, if_pos h]
      rfl
    · rw [dif_neg h, if_neg h, ih (n / 10) (by omega)]
      rfl
theorem strconv_Itoa.val {R : Type} (n : Nat) (hn : n < 9223372036854775808) (K : ByteArray → Option R) : strconv_Itoa.c 4194304 (n : Int) K = K (ba (decL n)) := by
  rw [strconv_Itoa.u]
  refine (ct (by simp; omega)).trans ?_
  unfold Go.Lib.itoa
  rw [if_neg (by omega), Int.toNat_natCast, libDec]
  rfl
theorem impl_NoteWrite.val {R : Type} (a b c d : Int) (t : ByteArray) (ht : t.size ≤ 2097152) (K : ByteArray → Option R) : impl_NoteWrite.c 4194304 a b c d t K = K (nwB a b c d t) := by
  rw [impl_NoteWrite.u, impl_NoteOk.val _ _ _ _ _ ht]
  unfold nwB
  cases ho : ntOk a b c d t with
  | false => exact ct rfl
  | true =>
    obtain ⟨h1, h2, h3, h4, h5, _⟩ := ntOk_some ho
    obtain ⟨a', rfl⟩ := Int.eq_ofNat_of_zero_le h1.1
    obtain ⟨b', rfl⟩ := Int.eq_ofNat_of_zero_le (show 0 ≤ b by omega)
    obtain ⟨c', rfl⟩ := Int.eq_ofNat_of_zero_le h3.1
    obtain ⟨d', rfl⟩ := Int.eq_ofNat_of_zero_le (show 0 ≤ d by omega)
    have hs : (ByteArray.mk #[32]).size = 1 := rfl
    have e1 := decL_length (n := a') (d := 0) (by omega)
    have e2 := decL_length (n := b') (d := 1) (by omega)
    have e3 := decL_length (n := c') (d := 0) (by omega)
    have e4 := decL_length (n := d') (d := 2) (by omega)
    have b1 := ba_size (decL a')
    have b2 := ba_size (decL b')
    have b3 := ba_size (decL c')
    have b4 := ba_size (decL d')
    refine (cf rfl).trans ?_
    rw [strconv_Itoa.val _ (by omega)]
    refine (ct (dt (by omega))).trans ?_
    rw [strconv_Itoa.val _ (by omega)]
    refine (ct (dt (by simp only [sz_append]; omega))).trans ((ct (dt (by simp only [sz_append]; omega))).trans ?_)
    simp only []
    rw [strconv_Itoa.val _ (by omega)]
    refine (ct (dt (by simp only [sz_append]; omega))).trans ((ct (dt (by simp only [sz_append]; omega))).trans ?_)
    rw [strconv_Itoa.val _ (by omega)]
    refine (ct (dt (by simp only [sz_append]; omega))).trans ((ct (dt (by simp only [sz_append]; omega))).trans ?_)
    refine (ct (dt (by simp only [sz_append]; omega))).trans ?_
    refine congrArg K ?_
    apply tx_inj
    rw [cond_true, tx_ba]
    simp only [tx_append, tx_ba, ntL, Int.toNat_natCast]
    rfl
theorem impl_copied_string.val {R : Type} (k : Nat) (a : List ByteArray) (h : a.length ≤ 1099511627776) (K : List ByteArray → Option R) : impl_copied_string.c k a K = K a := by
  rw [impl_copied_string.u]
  by_cases h0 : a.length = 0
  · have := List.eq_nil_of_length_eq_zero h0
    subst this
    exact ct rfl
  · refine (cf (df (by omega))).trans ((ct ?_).trans ?_)
    · rw [Int.toNat_natCast, lim_le h]
      simp
    · simp
theorem impl_copied_string.nat {R : Type} (k : Nat) (a : List ByteArray) (K : List ByteArray → Option R) : impl_copied_string.c k a K = (impl_copied_string.c k a some).bind K := by
  rw [impl_copied_string.u, impl_copied_string.u]
  simp only [cond_bind, Option.bind_some, Option.bind_none]
theorem impl_before.val {R : Type} (a b c d : Int) (K : Bool → Option R) : impl_before.c 4194304 a b c d K = K (lessB a b c d) := by
  rw [impl_before.u]
  unfold lessB
  cases decide (a < c) with
  | true => rfl
  | false => cases decide (a = c) <;> rfl
theorem impl_notesOk.l4r_val {R : Type} (l : List (Int × Int × Int × Int × ByteArray)) (hl : l.length ≤ 2097152) (hs : ∀ m ∈ l, m.2.2.2.2.size ≤ 2097152) (x0 : Option R) (q : Bool → Option R) :
    impl_notesOk.l4r (impl_notesOk.g 4194304) 4194304 (l.length : Int) l x0 q 4194304 0 = cond ((List.range' 0 l.length).all (noteP l)) x0 (q false) := by
  refine idx_loop l.length (noteP l) x0 (q false) (fun n i => impl_notesOk.l4r (impl_notesOk.g 4194304) 4194304 (l.length : Int) l x0 q n i) (fun n i hi => ?_) (fun n => ?_) 4194304 (by omega)
  · rw [impl_notesOk.l4r_u, w64_p1 i (by omega)]
    refine (ct (dt (by omega))).trans ((ct (gd hi)).trans ?_)
    rw [Int.toNat_natCast, impl_NoteOk.val _ _ _ _ _ (by rw [getD_at hi]; exact hs _ (List.getElem_mem hi))]
    unfold noteP
    cases ho : ntOk (l.getD i nd).1 (l.getD i nd).2.1 (l.getD i nd).2.2.1 (l.getD i nd).2.2.2.1 (l.getD i nd).2.2.2.2 with
    | false => exact ct rfl
    | true =>
      refine (cf rfl).trans ?_
      rw [Bool.true_and]
      by_cases h0 : 0 < i
      · have w : w64 ((i : Int) - 1) = ((i - 1 : Nat) : Int) := (w64_id (x := (i : Int) - 1) (by omega) (by omega)).trans (by omega)
        refine (ct (dt (by omega))).trans ?_
        simp only [w, Int.toNat_natCast]
        refine (ct (gd (by omega))).trans ((ct (gd (by omega))).trans ?_)
        rw [impl_before.val, dt h0, cond_true]
        cases lessB _ _ _ _ <;> rfl
      · refine (cf (df (by omega))).trans ?_
        rw [df h0]
        rfl
  · show impl_notesOk.l4r (impl_notesOk.g 4194304) 4194304 (l.length : Int) l x0 q (n + 1) (l.length : Int) = x0
    rw [impl_notesOk.l4r_u]
    exact cf (df (by omega))
theorem impl_notesOk.val {R : Type} (l : List (Int × Int × Int × Int × ByteArray)) (hl : l.length ≤ 2097152) (hs : ∀ m ∈ l, m.2.2.2.2.size ≤ 2097152) (K : Bool → Option R) : impl_notesOk.c 4194304 l K = K ((List.range' 0 l.length).all (noteP l)) := by
  rw [impl_notesOk.u, impl_notesOk.l4r_val l hl hs]
  cases (List.range' 0 l.length).all (noteP l) <;> rfl
theorem impl_markOk.val {R : Type} (a b c : Int) (K : Bool → Option R) : impl_markOk.c 4194304 a b c K = K (markOkB (a, b, c)) := by
  rw [impl_markOk.u, impl_isNode.val]
  unfold markOkB
  cases h1 : inB a 0 3 with
  | false => exact cf rfl
  | true =>
    refine (ct rfl).trans ?_
    rw [impl_in.val]
    cases h2 : inB b 1 99 with
    | false => exact cf rfl
    | true =>
      refine (ct rfl).trans ?_
      rw [impl_in.val]
      rfl
theorem impl_marksOk.l4r_val {R : Type} (l : List (Int × Int × Int)) (hl : l.length ≤ 2097152) (x0 : Option R) (q : Bool → Option R) :
    impl_marksOk.l4r (impl_marksOk.g 4194304) 4194304 (l.length : Int) l x0 q 4194304 0 = cond ((List.range' 0 l.length).all (markP l)) x0 (q false) := by
  refine idx_loop l.length (markP l) x0 (q false) (fun n i => impl_marksOk.l4r (impl_marksOk.g 4194304) 4194304 (l.length : Int) l x0 q n i) (fun n i hi => ?_) (fun n => ?_) 4194304 (by omega)
  · rw [impl_marksOk.l4r_u, w64_p1 i (by omega)]
    refine (ct (dt (by omega))).trans ((ct (gd hi)).trans ?_)
    rw [Int.toNat_natCast, impl_markOk.val]
    unfold markP
    show cond (!markOkB (l.getD i md)) _ _ = _
    cases h1 : markOkB (l.getD i md) with
    | false => exact ct rfl
    | true =>
      refine (cf rfl).trans ?_
      rw [Bool.true_and]
      by_cases h0 : 0 < i
      · have w : w64 ((i : Int) - 1) = ((i - 1 : Nat) : Int) := (w64_id (x := (i : Int) - 1) (by omega) (by omega)).trans (by omega)
        refine (ct (dt (by omega))).trans ?_
        simp only [w, Int.toNat_natCast]
        refine (ct (gd (by omega))).trans ((ct (gd (by omega))).trans ?_)
        rw [impl_before.val, dt h0, cond_true]
        cases lessB _ _ _ _ <;> rfl
      · refine (cf (df (by omega))).trans ?_
        rw [df h0]
        rfl
  · show impl_marksOk.l4r (impl_marksOk.g 4194304) 4194304 (l.length : Int) l x0 q (n + 1) (l.length : Int) = x0
    rw [impl_marksOk.l4r_u]
    exact cf (df (by omega))
theorem impl_marksOk.val {R : Type} (l : List (Int × Int × Int)) (hl : l.length ≤ 2097152) (K : Bool → Option R) : impl_marksOk.c 4194304 l K = K ((List.range' 0 l.length).all (markP l)) := by
  rw [impl_marksOk.u, impl_marksOk.l4r_val l hl]
  cases (List.range' 0 l.length).all (markP l) <;> rfl
theorem impl_onWay.val {R : Type} (id a b c d : Int) (t : ByteArray) (K : Bool → Option R) : impl_onWay.c 4194304 id a b c d t K = K (wayB a c id) := by
  rw [impl_onWay.u]
  unfold wayB
  by_cases h : id = c
  · refine (cf (by rw [dt h]; rfl)).trans ?_
    rw [df (show ¬ id < c by omega), df (show ¬ c < id by omega), Bool.and_false, Bool.false_and]
    rfl
  · refine (ct (by rw [df h]; rfl)).trans ?_
    rw [impl_in.val]
    by_cases h1 : a ≤ id ∧ id ≤ c
    · rw [inB_yes h1.1 h1.2, dt h1.1, dt (show id < c by omega)]
      rfl
    · rw [inB_no h1]
      refine (cf rfl).trans ?_
      rw [impl_in.val]
      have e1 : (decide (a ≤ id) && decide (id < c)) = false := by
        rw [Bool.and_eq_false_iff]
        by_cases h2 : a ≤ id
        · exact .inr (df (by omega))
        · exact .inl (df h2)
      rw [e1, Bool.false_or]
      by_cases h2 : c ≤ id ∧ id ≤ a
      · rw [inB_yes h2.1 h2.2, dt (show c < id by omega), dt h2.2]
        rfl
      · rw [inB_no h2]
        by_cases h3 : c < id
        · rw [dt h3, df (show ¬ id ≤ a by omega)]
          rfl
        · rw [df h3]
          rfl
theorem impl_markAt.l4r_tot (fr nu : Int) (l : List (Int × Int × Int)) (hl : l.length ≤ 2097152) : ∀ (d i : Nat), i + d = l.length → ∃ r : Int, (0 ≤ r ↔ hasM (l.drop i) fr nu = true) ∧ ∀ {R : Type} (K : Int → Option R) (n : Nat), d < n → impl_markAt.l4r (impl_markAt.g 4194304) 4194304 fr nu (l.length : Int) l (K (-1)) (fun v => K v) n (i : Int) = K r := by
  intro d
  induction d with
  | zero =>
    intro i h1
    refine ⟨-1, ?_, fun K n hn => ?_⟩
    · rw [List.drop_eq_nil_of_le (by omega)]
      simp [hasM]
    · obtain ⟨n, rfl⟩ := Nat.exists_eq_succ_of_ne_zero (n := n) (by omega)
      rw [impl_markAt.l4r_u]
      exact cf (df (by omega))
  | succ d ih =>
    intro i h1
    have hi : i < l.length := by omega
    obtain ⟨r, q1, q2⟩ := ih (i + 1) (by omega)
    by_cases h : l[i].1 = fr ∧ l[i].2.1 = nu
    · refine ⟨(i : Int), ⟨fun _ => ?_, fun _ => by omega⟩, fun K n hn => ?_⟩
      · rw [List.drop_eq_getElem_cons hi]
        unfold hasM
        rw [List.any_cons, dt h.1, dt h.2]
        rfl
      · obtain ⟨n, rfl⟩ := Nat.exists_eq_succ_of_ne_zero (n := n) (by omega)
        rw [impl_markAt.l4r_u, Int.toNat_natCast, getD_at hi]
        exact (ct (dt (by omega))).trans ((ct (gd hi)).trans ((ct (dt h.1)).trans (ct (dt h.2))))
    · refine ⟨r, ?_, fun K n hn => ?_⟩
      · rw [q1, List.drop_eq_getElem_cons hi]
        unfold hasM
        rw [List.any_cons]
        have : (decide (l[i].1 = fr) && decide (l[i].2.1 = nu)) = false := by
          rw [Bool.and_eq_false_iff]
          by_cases h2 : l[i].1 = fr
          · exact .inr (df fun h3 => h ⟨h2, h3⟩)
          · exact .inl (df h2)
        rw [this, Bool.false_or]
      · obtain ⟨n, rfl⟩ := Nat.exists_eq_succ_of_ne_zero (n := n) (by omega)
        rw [impl_markAt.l4r_u, Int.toNat_natCast, getD_at hi, w64_p1 i (by omega), q2 K n (by omega)]
        refine (ct (dt (by omega))).trans ((ct (gd hi)).trans ?_)
        by_cases h2 : l[i].1 = fr
        · exact (ct (dt h2)).trans (cf (df fun h3 => h ⟨h2, h3⟩))
        · exact cf (df h2)
theorem impl_markAt.tot (l : List (Int × Int × Int)) (hl : l.length ≤ 2097152) (fr nu : Int) : ∃ r : Int, (0 ≤ r ↔ hasM l fr nu = true) ∧ ∀ {R : Type} (K : Int → Option R), impl_markAt.c 4194304 l fr nu K = K r := by
  obtain ⟨r, q1, q2⟩ := impl_markAt.l4r_tot fr nu l hl l.length 0 (by omega)
  refine ⟨r, by simpa using q1, fun K => ?_⟩
  rw [impl_markAt.u]
  exact q2 K 4194304 (by omega)
theorem impl_KeepOk.l4r_val {R : Type} (id now next : Int) (held : List (Int × Int × Int × Int × ByteArray)) (marks : List (Int × Int × Int)) (inbox : List (Int × Int × Int × Int × ByteArray)) (h3 : held.length ≤ 2097152) (h4 : marks.length ≤ 2097152) (x0 : Option R) (q : Bool → Option R) :
    impl_KeepOk.l4r (impl_KeepOk.g 4194304) 4194304 (held.length : Int) id now next held marks inbox x0 q 4194304 0 = cond ((List.range' 0 held.length).all (heldP id now next held marks)) x0 (q false) := by
  refine idx_loop held.length (heldP id now next held marks) x0 (q false) (fun n i => impl_KeepOk.l4r (impl_KeepOk.g 4194304) 4194304 (held.length : Int) id now next held marks inbox x0 q n i) (fun n i hi => ?_) (fun n => ?_) 4194304 (by omega)
  · rw [impl_KeepOk.l4r_u, w64_p1 i (by omega)]
    refine (ct (dt (by omega))).trans ((ct (gd hi)).trans ?_)
    simp only [Int.toNat_natCast]
    unfold heldP
    obtain ⟨r, hr, er⟩ := impl_markAt.tot marks h4 (held.getD i nd).1 (held.getD i nd).2.1
    have hr2 : ¬ 0 ≤ r → hasM marks (held.getD i nd).1 (held.getD i nd).2.1 = false := fun h => by
      cases e : hasM marks (held.getD i nd).1 (held.getD i nd).2.1 with
      | false => rfl
      | true => exact absurd (hr.2 e) h
    by_cases c2 : (held.getD i nd).1 = id
    · refine (ct (dt c2)).trans ?_
      rw [dt c2]
      by_cases c3 : next ≤ (held.getD i nd).2.1
      · refine (ct (dt c3)).trans ?_
        rw [dt c3]
        cases (!decide ((held.getD i nd).2.2.2.1 ≤ now)) <;> cases wayB (held.getD i nd).1 (held.getD i nd).2.2.1 id <;> rfl
      · refine (cf (df c3)).trans ?_
        rw [df c3]
        by_cases c1 : (held.getD i nd).2.2.2.1 ≤ now
        · refine (ct (dt c1)).trans ?_
          rw [dt c1]
          rfl
        · refine (cf (df c1)).trans ?_
          rw [impl_onWay.val, df c1]
          cases wayB (held.getD i nd).1 (held.getD i nd).2.2.1 id with
          | false => exact ct rfl
          | true =>
            refine (cf rfl).trans ?_
            rw [er]
            by_cases c4 : 0 ≤ r
            · rw [hr.1 c4]
              exact ct (dt c4)
            · rw [hr2 c4]
              exact cf (df c4)
    · refine (cf (df c2)).trans ?_
      rw [df c2]
      by_cases c1 : (held.getD i nd).2.2.2.1 ≤ now
      · refine (ct (dt c1)).trans ?_
        rw [dt c1]
        rfl
      · refine (cf (df c1)).trans ?_
        rw [impl_onWay.val, df c1]
        cases wayB (held.getD i nd).1 (held.getD i nd).2.2.1 id with
        | false => exact ct rfl
        | true =>
          refine (cf rfl).trans ?_
          rw [er]
          by_cases c4 : 0 ≤ r
          · rw [hr.1 c4]
            exact ct (dt c4)
          · rw [hr2 c4]
            exact cf (df c4)
  · show impl_KeepOk.l4r (impl_KeepOk.g 4194304) 4194304 (held.length : Int) id now next held marks inbox x0 q (n + 1) (held.length : Int) = x0
    rw [impl_KeepOk.l4r_u]
    exact cf (df (by omega))
theorem impl_KeepOk.l9r_val {R : Type} (id now next : Int) (held : List (Int × Int × Int × Int × ByteArray)) (marks : List (Int × Int × Int)) (inbox : List (Int × Int × Int × Int × ByteArray)) (h4 : marks.length ≤ 2097152) (x0 : Option R) (q : Bool → Option R) :
    impl_KeepOk.l9r (impl_KeepOk.g 4194304) 4194304 (marks.length : Int) id now next marks held inbox x0 q 4194304 0 = cond ((List.range' 0 marks.length).all (markQ id now next marks)) x0 (q false) := by
  refine idx_loop marks.length (markQ id now next marks) x0 (q false) (fun n i => impl_KeepOk.l9r (impl_KeepOk.g 4194304) 4194304 (marks.length : Int) id now next marks held inbox x0 q n i) (fun n i hi => ?_) (fun n => ?_) 4194304 (by omega)
  · rw [impl_KeepOk.l9r_u, w64_p1 i (by omega)]
    refine (ct (dt (by omega))).trans ((ct (gd hi)).trans ?_)
    simp only [Int.toNat_natCast]
    unfold markQ
    by_cases c2 : (marks.getD i md).1 = id
    · refine (ct (dt c2)).trans ?_
      rw [dt c2]
      by_cases c3 : next ≤ (marks.getD i md).2.1
      · refine (ct (dt c3)).trans ?_
        rw [dt c3]
        cases (!decide ((marks.getD i md).2.2 ≤ now)) <;> rfl
      · refine (cf (df c3)).trans ?_
        rw [df c3]
        by_cases c1 : (marks.getD i md).2.2 ≤ now
        · refine (ct (dt c1)).trans ?_
          rw [dt c1]
          rfl
        · rw [df c1]
          exact cf rfl
    · refine (cf (df c2)).trans ?_
      rw [df c2]
      by_cases c1 : (marks.getD i md).2.2 ≤ now
      · refine (ct (dt c1)).trans ?_
        rw [dt c1]
        rfl
      · rw [df c1]
        exact cf rfl
  · show impl_KeepOk.l9r (impl_KeepOk.g 4194304) 4194304 (marks.length : Int) id now next marks held inbox x0 q (n + 1) (marks.length : Int) = x0
    rw [impl_KeepOk.l9r_u]
    exact cf (df (by omega))
theorem impl_KeepOk.l14r_val {R : Type} (id now next : Int) (held : List (Int × Int × Int × Int × ByteArray)) (marks : List (Int × Int × Int)) (inbox : List (Int × Int × Int × Int × ByteArray)) (h4 : marks.length ≤ 2097152) (h5 : inbox.length ≤ 2097152) (x0 : Option R) (q : Bool → Option R) :
    impl_KeepOk.l14r (impl_KeepOk.g 4194304) 4194304 (inbox.length : Int) id now next inbox held marks x0 q 4194304 0 = cond ((List.range' 0 inbox.length).all (inbP id now next inbox marks)) x0 (q false) := by
  refine idx_loop inbox.length (inbP id now next inbox marks) x0 (q false) (fun n i => impl_KeepOk.l14r (impl_KeepOk.g 4194304) 4194304 (inbox.length : Int) id now next inbox held marks x0 q n i) (fun n i hi => ?_) (fun n => ?_) 4194304 (by omega)
  · rw [impl_KeepOk.l14r_u, w64_p1 i (by omega)]
    refine (ct (dt (by omega))).trans ((ct (gd hi)).trans ?_)
    simp only [Int.toNat_natCast]
    unfold inbP
    obtain ⟨r, hr, er⟩ := impl_markAt.tot marks h4 (inbox.getD i nd).1 (inbox.getD i nd).2.1
    have hr2 : ¬ 0 ≤ r → hasM marks (inbox.getD i nd).1 (inbox.getD i nd).2.1 = false := fun h => by
      cases e : hasM marks (inbox.getD i nd).1 (inbox.getD i nd).2.1 with
      | false => rfl
      | true => exact absurd (hr.2 e) h
    by_cases c2 : (inbox.getD i nd).1 = id
    · refine (ct (dt c2)).trans ?_
      rw [dt c2]
      by_cases c3 : next ≤ (inbox.getD i nd).2.1
      · refine (ct (dt c3)).trans ?_
        rw [dt c3]
        cases decide ((inbox.getD i nd).2.2.1 = id) <;> rfl
      · refine (cf (df c3)).trans ?_
        rw [df c3]
        by_cases c1 : (inbox.getD i nd).2.2.1 = id
        · refine (cf (by rw [dt c1]; rfl)).trans ?_
          rw [dt c1]
          by_cases c5 : now < (inbox.getD i nd).2.2.2.1
          · refine (ct (dt c5)).trans ?_
            rw [dt c5, er]
            by_cases c4 : 0 ≤ r
            · rw [hr.1 c4]
              exact cf (df (by omega))
            · rw [hr2 c4]
              exact ct (dt (by omega))
          · rw [df c5]
            exact cf rfl
        · refine (ct (by rw [df c1]; rfl)).trans ?_
          rw [df c1]
          rfl
    · refine (cf (df c2)).trans ?_
      rw [df c2]
      by_cases c1 : (inbox.getD i nd).2.2.1 = id
      · refine (cf (by rw [dt c1]; rfl)).trans ?_
        rw [dt c1]
        by_cases c5 : now < (inbox.getD i nd).2.2.2.1
        · refine (ct (dt c5)).trans ?_
          rw [dt c5, er]
          by_cases c4 : 0 ≤ r
          · rw [hr.1 c4]
            exact cf (df (by omega))
          · rw [hr2 c4]
            exact ct (dt (by omega))
        · rw [df c5]
          exact cf rfl
      · refine (ct (by rw [df c1]; rfl)).trans ?_
        rw [df c1]
        rfl
  · show impl_KeepOk.l14r (impl_KeepOk.g 4194304) 4194304 (inbox.length : Int) id now next inbox held marks x0 q (n + 1) (inbox.length : Int) = x0
    rw [impl_KeepOk.l14r_u]
    exact cf (df (by omega))
theorem impl_KeepOk.val {R : Type} (id now next : Int) (held : List (Int × Int × Int × Int × ByteArray)) (marks : List (Int × Int × Int)) (inbox : List (Int × Int × Int × Int × ByteArray)) (h3 : held.length ≤ 2097152) (s3 : ∀ m ∈ held, m.2.2.2.2.size ≤ 2097152) (h4 : marks.length ≤ 2097152) (h5 : inbox.length ≤ 2097152) (s5 : ∀ m ∈ inbox, m.2.2.2.2.size ≤ 2097152) (K : Bool → Option R) : impl_KeepOk.c 4194304 id now next held marks inbox K = K (keepB id now next held marks inbox) := by
  rw [impl_KeepOk.u, impl_isNode.val]
  unfold keepB
  cases inB id 0 3 with
  | false => exact ct rfl
  | true =>
    refine (cf rfl).trans ?_
    rw [impl_in.val]
    cases inB now 0 999 with
    | false => exact ct rfl
    | true =>
      refine (cf rfl).trans ?_
      rw [impl_in.val]
      cases inB next 1 100 with
      | false => exact ct rfl
      | true =>
        refine (cf rfl).trans ?_
        by_cases l3 : held.length ≤ 6
        · refine (cf (df (by omega))).trans ?_
          rw [dt l3]
          by_cases l4 : marks.length ≤ 12
          · refine (cf (df (by omega))).trans ?_
            rw [dt l4]
            by_cases l5 : inbox.length ≤ 6
            · refine (cf (df (by omega))).trans ?_
              rw [dt l5, impl_notesOk.val _ h3 s3]
              cases (List.range' 0 held.length).all (noteP held) with
              | false => exact ct rfl
              | true =>
                refine (cf rfl).trans ?_
                rw [impl_marksOk.val _ h4]
                cases (List.range' 0 marks.length).all (markP marks) with
                | false => exact ct rfl
                | true =>
                  refine (cf rfl).trans ?_
                  rw [impl_notesOk.val _ h5 s5]
                  cases (List.range' 0 inbox.length).all (noteP inbox) with
                  | false => exact ct rfl
                  | true =>
                    refine (cf rfl).trans ?_
                    rw [impl_KeepOk.l4r_val _ _ _ _ _ _ h3 h4, impl_KeepOk.l9r_val _ _ _ _ _ _ h4, impl_KeepOk.l14r_val _ _ _ _ _ _ h4 h5]
                    cases (List.range' 0 held.length).all (heldP id now next held marks) with
                    | false => rfl
                    | true =>
                      cases (List.range' 0 marks.length).all (markQ id now next marks) with
                      | false => rfl
                      | true =>
                        cases (List.range' 0 inbox.length).all (inbP id now next inbox marks) <;> rfl
            · refine (ct (dt (by omega))).trans ?_
              rw [df l5]
              cases (List.range' 0 held.length).all (noteP held) <;> cases (List.range' 0 marks.length).all (markP marks) <;> rfl
          · refine (ct (dt (by omega))).trans ?_
            rw [df l4]
            cases (List.range' 0 held.length).all (noteP held) <;> rfl
        · refine (ct (dt (by omega))).trans ?_
          rw [df l3]
          rfl
theorem impl_markWrite.val {R : Type} (a b c : Nat) (ha : a ≤ 1000) (hb : b ≤ 1000) (hc : c ≤ 1000) (K : ByteArray → Option R) : impl_markWrite.c 4194304 (ByteArray.mk #[109, 97, 114, 107]) (a : Int) (b : Int) (c : Int) K = K (markW ((a : Int), (b : Int), (c : Int))) := by
  have hs : (ByteArray.mk #[32]).size = 1 := rfl
  have hm : (ByteArray.mk #[109, 97, 114, 107]).size = 4 := rfl
  have e1 := decL_length (n := a) (d := 3) (by omega)
  have e2 := decL_length (n := b) (d := 3) (by omega)
  have e3 := decL_length (n := c) (d := 3) (by omega)
  have b1 := ba_size (decL a)
  have b2 := ba_size (decL b)
  have b3 := ba_size (decL c)
  rw [impl_markWrite.u]
  refine (ct (dt (by omega))).trans ?_
  rw [strconv_Itoa.val _ (by omega)]
  refine (ct (dt (by simp only [sz_append]; omega))).trans ((ct (dt (by simp only [sz_append]; omega))).trans ?_)
  simp only []
  rw [strconv_Itoa.val _ (by omega)]
  refine (ct (dt (by simp only [sz_append]; omega))).trans ((ct (dt (by simp only [sz_append]; omega))).trans ?_)
  rw [strconv_Itoa.val _ (by omega)]
  refine (ct (dt (by simp only [sz_append]; omega))).trans ?_
  refine congrArg K ?_
  have e : ByteArray.mk #[109, 97, 114, 107] ++ ByteArray.mk #[32] = ByteArray.mk #[109, 97, 114, 107, 32] := by apply tx_inj; rw [tx_append]; rfl
  rw [e]
  rfl
theorem markOk_some' {m : Int × Int × Int} (h : markOkB m = true) : ∃ a b c : Nat, m = ((a : Int), (b : Int), (c : Int)) ∧ a ≤ 3 ∧ b ≤ 99 ∧ c ≤ 999 := by
  obtain ⟨x, y, z⟩ := m
  simp only [markOkB, Bool.and_eq_true, inB_iff] at h
  obtain ⟨a, ha⟩ := Int.eq_ofNat_of_zero_le h.1.1
  obtain ⟨b, hb⟩ := Int.eq_ofNat_of_zero_le (show 0 ≤ y by omega)
  obtain ⟨c, hc⟩ := Int.eq_ofNat_of_zero_le (show 0 ≤ z by omega)
  exact ⟨a, b, c, by rw [ha, hb, hc], by omega, by omega, by omega⟩
theorem impl_KeepRecs.l5r_val {R : Type} (id now next : Int) (held : List (Int × Int × Int × Int × ByteArray)) (marks : List (Int × Int × Int)) (inbox : List (Int × Int × Int × Int × ByteArray)) (l4 : marks.length ≤ 12) (hm : ∀ m ∈ marks, markOkB m = true) (x : List ByteArray → Option R) (w : List ByteArray) (hw : w.length ≤ 50) :
    impl_KeepRecs.l5r (impl_KeepRecs.g 4194304) 4194304 (marks.length : Int) id now next marks held inbox x 4194304 0 w = x (w ++ marks.map markW) := by
  refine app_loop marks md markW x (fun n i w => impl_KeepRecs.l5r (impl_KeepRecs.g 4194304) 4194304 (marks.length : Int) id now next marks held inbox x n i w) 100 (fun n i w hi hb => ?_) (fun n w => ?_) 4194304 w (by omega) (by omega)
  · obtain ⟨a, b, c, em, h1, h2, h3⟩ := markOk_some' (hm _ (List.getElem_mem hi))
    rw [impl_KeepRecs.l5r_u, w64_p1 i (by omega)]
    refine (ct (dt (by omega))).trans ((ct (gd hi)).trans ?_)
    simp only [Int.toNat_natCast]
    rw [getD_at hi, em]
    dsimp only
    rw [impl_markWrite.val _ _ _ (by omega) (by omega) (by omega)]
    exact ct (lim_le (by simp; omega))
  · show impl_KeepRecs.l5r (impl_KeepRecs.g 4194304) 4194304 (marks.length : Int) id now next marks held inbox x (n + 1) (marks.length : Int) w = _
    rw [impl_KeepRecs.l5r_u]
    exact cf (df (by omega))
theorem impl_KeepRecs.l10r_val {R : Type} (id now next : Int) (held : List (Int × Int × Int × Int × ByteArray)) (marks : List (Int × Int × Int)) (inbox : List (Int × Int × Int × Int × ByteArray)) (l : held.length ≤ 6) (s : ∀ m ∈ held, m.2.2.2.2.size ≤ 2097152) (x : List ByteArray → Option R) (w : List ByteArray) (hw : w.length ≤ 50) :
    impl_KeepRecs.l10r (impl_KeepRecs.g 4194304) 4194304 (held.length : Int) id now next held marks inbox x 4194304 0 w = x (w ++ held.map heldW) := by
  refine app_loop held nd heldW x (fun n i w => impl_KeepRecs.l10r (impl_KeepRecs.g 4194304) 4194304 (held.length : Int) id now next held marks inbox x n i w) 100 (fun n i w hi hb => ?_) (fun n w => ?_) 4194304 w (by omega) (by omega)
  · have hz := nwB_small (held.getD i ((0 : Int), (0 : Int), (0 : Int), (0 : Int), ByteArray.empty)).1 (held.getD i ((0 : Int), (0 : Int), (0 : Int), (0 : Int), ByteArray.empty)).2.1 (held.getD i ((0 : Int), (0 : Int), (0 : Int), (0 : Int), ByteArray.empty)).2.2.1 (held.getD i ((0 : Int), (0 : Int), (0 : Int), (0 : Int), ByteArray.empty)).2.2.2.1 (held.getD i ((0 : Int), (0 : Int), (0 : Int), (0 : Int), ByteArray.empty)).2.2.2.2
    have hh : (ByteArray.mk #[104, 101, 108, 100, 32]).size = 5 := rfl
    rw [impl_KeepRecs.l10r_u, w64_p1 i (by omega)]
    refine (ct (dt (by omega))).trans ((ct (gd hi)).trans ?_)
    rw [Int.toNat_natCast, impl_NoteWrite.val _ _ _ _ _ (by rw [getD_at hi]; exact s _ (List.getElem_mem hi))]
    refine (ct (dt (by omega))).trans ((ct (lim_le (by simp; omega))).trans ?_)
    rfl
  · show impl_KeepRecs.l10r (impl_KeepRecs.g 4194304) 4194304 (held.length : Int) id now next held marks inbox x (n + 1) (held.length : Int) w = _
    rw [impl_KeepRecs.l10r_u]
    exact cf (df (by omega))
theorem impl_KeepRecs.l15r_val {R : Type} (inbox : List (Int × Int × Int × Int × ByteArray)) (l : inbox.length ≤ 6) (s : ∀ m ∈ inbox, m.2.2.2.2.size ≤ 2097152) (x : List ByteArray → Option R) (w : List ByteArray) (hw : w.length ≤ 50) :
    impl_KeepRecs.l15r (impl_KeepRecs.g 4194304) 4194304 (inbox.length : Int) inbox x 4194304 0 w = x (w ++ inbox.map inboxW) := by
  refine app_loop inbox nd inboxW x (fun n i w => impl_KeepRecs.l15r (impl_KeepRecs.g 4194304) 4194304 (inbox.length : Int) inbox x n i w) 100 (fun n i w hi hb => ?_) (fun n w => ?_) 4194304 w (by omega) (by omega)
  · have hz := nwB_small (inbox.getD i ((0 : Int), (0 : Int), (0 : Int), (0 : Int), ByteArray.empty)).1 (inbox.getD i ((0 : Int), (0 : Int), (0 : Int), (0 : Int), ByteArray.empty)).2.1 (inbox.getD i ((0 : Int), (0 : Int), (0 : Int), (0 : Int), ByteArray.empty)).2.2.1 (inbox.getD i ((0 : Int), (0 : Int), (0 : Int), (0 : Int), ByteArray.empty)).2.2.2.1 (inbox.getD i ((0 : Int), (0 : Int), (0 : Int), (0 : Int), ByteArray.empty)).2.2.2.2
    have hh : (ByteArray.mk #[105, 110, 98, 111, 120, 32]).size = 6 := rfl
    rw [impl_KeepRecs.l15r_u, w64_p1 i (by omega)]
    refine (ct (dt (by omega))).trans ((ct (gd hi)).trans ?_)
    rw [Int.toNat_natCast, impl_NoteWrite.val _ _ _ _ _ (by rw [getD_at hi]; exact s _ (List.getElem_mem hi))]
    refine (ct (dt (by omega))).trans ((ct (lim_le (by simp; omega))).trans ?_)
    rfl
  · show impl_KeepRecs.l15r (impl_KeepRecs.g 4194304) 4194304 (inbox.length : Int) inbox x (n + 1) (inbox.length : Int) w = _
    rw [impl_KeepRecs.l15r_u]
    exact cf (df (by omega))
theorem impl_KeepRecs.c21_val {R : Type} (id now next : Int) (held : List (Int × Int × Int × Int × ByteArray)) (marks : List (Int × Int × Int)) (inbox : List (Int × Int × Int × Int × ByteArray)) (s3 : ∀ m ∈ held, m.2.2.2.2.size ≤ 2097152) (s5 : ∀ m ∈ inbox, m.2.2.2.2.size ≤ 2097152) (l3 : held.length ≤ 6) (l4 : marks.length ≤ 12) (hm : ∀ m ∈ marks, markOkB m = true) (l5 : inbox.length ≤ 6) (w : List ByteArray) (hw : w.length ≤ 10) (q : List ByteArray → Option R) :
    impl_KeepRecs.c21 (impl_KeepRecs.g 4194304) 4194304 id now next w held marks inbox q = q (w ++ marks.map markW ++ held.map heldW ++ inbox.map inboxW) := by
  rw [impl_KeepRecs.c21_u, impl_KeepRecs.l5r_val _ _ _ _ _ _ l4 hm _ _ (by omega), impl_KeepRecs.l10r_val _ _ _ _ _ _ l3 s3 _ _ (by simp; omega), impl_KeepRecs.l15r_val _ l5 s5 _ _ (by simp; omega)]
  exact impl_copied_string.val _ _ (by simp; omega) _
theorem impl_KeepRecs.c22_val {R : Type} (id now next : Int) (hn : 1 ≤ next ∧ next ≤ 100) (held : List (Int × Int × Int × Int × ByteArray)) (marks : List (Int × Int × Int)) (inbox : List (Int × Int × Int × Int × ByteArray)) (s3 : ∀ m ∈ held, m.2.2.2.2.size ≤ 2097152) (s5 : ∀ m ∈ inbox, m.2.2.2.2.size ≤ 2097152) (l3 : held.length ≤ 6) (l4 : marks.length ≤ 12) (hm : ∀ m ∈ marks, markOkB m = true) (l5 : inbox.length ≤ 6) (w : List ByteArray) (hw : w.length ≤ 5) (q : List ByteArray → Option R) :
    impl_KeepRecs.c22 (impl_KeepRecs.g 4194304) 4194304 id now next w held marks inbox q = q (w ++ nextW next ++ marks.map markW ++ held.map heldW ++ inbox.map inboxW) := by
  rw [impl_KeepRecs.c22_u]
  unfold nextW
  by_cases h : (1 : Int) < next
  · obtain ⟨m, rfl⟩ := Int.eq_ofNat_of_zero_le (show 0 ≤ next by omega)
    have e1 := decL_length (n := m) (d := 2) (by omega)
    have b1 := ba_size (decL m)
    have hz : (ByteArray.mk #[110, 101, 120, 116, 32]).size = 5 := rfl
    refine (ct (dt h)).trans ?_
    rw [strconv_Itoa.val _ (by omega), dt h, cond_true, Int.toNat_natCast]
    refine (ct (dt (by omega))).trans ((ct (lim_le (by simp; omega))).trans ?_)
    exact impl_KeepRecs.c21_val id now _ held marks inbox s3 s5 l3 l4 hm l5 _ (by simp; omega) _
  · refine (cf (df h)).trans ?_
    rw [df h, cond_false, List.append_nil]
    exact impl_KeepRecs.c21_val id now _ held marks inbox s3 s5 l3 l4 hm l5 _ (by omega) _
theorem impl_KeepRecs.val {R : Type} (id now next : Int) (held : List (Int × Int × Int × Int × ByteArray)) (marks : List (Int × Int × Int)) (inbox : List (Int × Int × Int × Int × ByteArray)) (h3 : held.length ≤ 2097152) (s3 : ∀ m ∈ held, m.2.2.2.2.size ≤ 2097152) (h4 : marks.length ≤ 2097152) (h5 : inbox.length ≤ 2097152) (s5 : ∀ m ∈ inbox, m.2.2.2.2.size ≤ 2097152) (K : List ByteArray → Option R) : impl_KeepRecs.c 4194304 id now next held marks inbox K = K (recsK id now next held marks inbox) := by
  rw [impl_KeepRecs.u, impl_KeepOk.val _ _ _ _ _ _ h3 s3 h4 h5 s5]
  unfold recsK
  cases hk : keepB id now next held marks inbox with
  | false => exact ct rfl
  | true =>
    obtain ⟨g1, g2, g3, g4, g5, g6⟩ := keepB_some hk
    refine (cf rfl).trans ?_
    rw [cond_true]
    unfold timeW
    by_cases h : (0 : Int) < now
    · obtain ⟨m, rfl⟩ := Int.eq_ofNat_of_zero_le g1.1
      have e1 := decL_length (n := m) (d := 2) (by omega)
      have b1 := ba_size (decL m)
      have hz : (ByteArray.mk #[116, 105, 109, 101, 32]).size = 5 := rfl
      refine (ct (dt h)).trans ?_
      rw [strconv_Itoa.val _ (by omega), dt h, cond_true, Int.toNat_natCast]
      refine (ct (dt (by omega))).trans ((ct (lim_le (by simp))).trans ?_)
      exact impl_KeepRecs.c22_val id _ next g2 held marks inbox s3 s5 g3 g4 g6 g5 _ (by simp) _
    · refine (cf (df h)).trans ?_
      rw [df h, cond_false]
      exact impl_KeepRecs.c22_val id _ next g2 held marks inbox s3 s5 g3 g4 g6 g5 _ (by simp) _
theorem laws_eqNote.val {R : Type} (k : Nat) (a0 : Int) (a1 : Int) (a2 : Int) (a3 : Int) (a4 : ByteArray) (b0 : Int) (b1 : Int) (b2 : Int) (b3 : Int) (b4 : ByteArray) (K : Bool → Option R) : laws_eqNote.c k a0 a1 a2 a3 a4 b0 b1 b2 b3 b4 K = K (decide ((a0, a1, a2, a3, a4) = (b0, b1, b2, b3, b4))) := by
  rw [laws_eqNote.u, nc0]
  simp only [nc]
  exact congrArg K (decide_eq_decide.2 (by simp))
theorem laws_eqNoteS.val {R : Type} (a b : List (Int × Int × Int × Int × ByteArray)) (h : a.length ≤ 2097152) (K : Bool → Option R) : laws_eqNoteS.c 4194304 a b K = K (decide (a = b)) := by
  rw [laws_eqNoteS.u]
  by_cases hl : a.length = b.length
  · refine (cf (by simp [hl])).trans ?_
    have key := eq_loop a b ((0 : Int), (0 : Int), (0 : Int), (0 : Int), ByteArray.empty) (K true) (K false) (fun n i => laws_eqNoteS.l4r (laws_eqNoteS.g 4194304) 4194304 a b (K true) (fun v => K v) n i) hl (fun n i hi => by
      rw [laws_eqNoteS.l4r_u]
      refine (ct (dt (by omega))).trans ((ct (gd hi)).trans ((ct (gd (by omega))).trans ?_))
      rw [laws_eqNote.val]
      simp only [Int.toNat_natCast, w64_p1 i (show i < 4611686018427387904 by omega)]
      cases hd : decide (a.getD i ((0 : Int), (0 : Int), (0 : Int), (0 : Int), ByteArray.empty) = b.getD i ((0 : Int), (0 : Int), (0 : Int), (0 : Int), ByteArray.empty))
      · exact ct rfl
      · exact cf rfl) (fun n => by
      rw [laws_eqNoteS.l4r_u]
      exact cf (df (by omega))) 4194304 (by omega)
    exact key.trans (by cases decide (a = b) <;> rfl)
  · refine (ct (by simp; omega)).trans ?_
    rw [df (fun e => hl (by rw [e]))]
theorem laws_eqMark.val {R : Type} (k : Nat) (a0 : Int) (a1 : Int) (a2 : Int) (b0 : Int) (b1 : Int) (b2 : Int) (K : Bool → Option R) : laws_eqMark.c k a0 a1 a2 b0 b1 b2 K = K (decide ((a0, a1, a2) = (b0, b1, b2))) := by
  rw [laws_eqMark.u, nc0]
  simp only [nc]
  exact congrArg K (decide_eq_decide.2 (by simp))
theorem laws_eqMarkS.val {R : Type} (a b : List (Int × Int × Int)) (h : a.length ≤ 2097152) (K : Bool → Option R) : laws_eqMarkS.c 4194304 a b K = K (decide (a = b)) := by
  rw [laws_eqMarkS.u]
  by_cases hl : a.length = b.length
  · refine (cf (by simp [hl])).trans ?_
    have key := eq_loop a b ((0 : Int), (0 : Int), (0 : Int)) (K true) (K false) (fun n i => laws_eqMarkS.l4r (laws_eqMarkS.g 4194304) 4194304 a b (K true) (fun v => K v) n i) hl (fun n i hi => by
      rw [laws_eqMarkS.l4r_u]
      refine (ct (dt (by omega))).trans ((ct (gd hi)).trans ((ct (gd (by omega))).trans ?_))
      rw [laws_eqMark.val]
      simp only [Int.toNat_natCast, w64_p1 i (show i < 4611686018427387904 by omega)]
      cases hd : decide (a.getD i ((0 : Int), (0 : Int), (0 : Int)) = b.getD i ((0 : Int), (0 : Int), (0 : Int)))
      · exact ct rfl
      · exact cf rfl) (fun n => by
      rw [laws_eqMarkS.l4r_u]
      exact cf (df (by omega))) 4194304 (by omega)
    exact key.trans (by cases decide (a = b) <;> rfl)
  · refine (ct (by simp; omega)).trans ?_
    rw [df (fun e => hl (by rw [e]))]
theorem laws_eqKeep.val {R : Type} (a0 a1 a2 b0 b1 b2 : Int) (a3 a5 b3 b5 : (List (Int × Int × Int × Int × ByteArray))) (a4 b4 : (List (Int × Int × Int))) (h3 : a3.length ≤ 2097152) (h4 : a4.length ≤ 2097152) (h5 : a5.length ≤ 2097152) (K : Bool → Option R) :
    laws_eqKeep.c 4194304 a0 a1 a2 a3 a4 a5 b0 b1 b2 b3 b4 b5 K = K (decide (a0 = b0 ∧ a1 = b1 ∧ a2 = b2 ∧ a3 = b3 ∧ a4 = b4 ∧ a5 = b5)) := by
  rw [laws_eqKeep.u]
  simp only [laws_eqNoteS.val _ _ h3, laws_eqMarkS.val _ _ h4, laws_eqNoteS.val _ _ h5, nc0, nc]
theorem laws_markText.l3r_val {R : Type} (x0 : ByteArray → Option R) : ∀ (d n v : Nat) (acc : List UInt8), v < 10 ^ d → d < n → d ≤ 18 → acc.length + d ≤ 1000 → laws_markText.l3r (laws_markText.g 4194304) 4194304 x0 n (v : Int) (ba acc) = x0 (ba ((if v = 0 then [] else decL v) ++ acc)) := by
  intro d
  induction d with
  | zero =>
    intro n v acc h1 h2 _ h3
    obtain ⟨n, rfl⟩ := Nat.exists_eq_succ_of_ne_zero (n := n) (by omega)
    have : v = 0 := by omega
    subst this
    rw [laws_markText.l3r_u]
    exact cf rfl
  | succ d ih =>
    intro n v acc h1 h2 h4 h3
    obtain ⟨n, rfl⟩ := Nat.exists_eq_succ_of_ne_zero (n := n) (by omega)
    rw [laws_markText.l3r_u]
    by_cases hv : v = 0
    · subst hv; exact cf rfl
    · have hp : 10 ^ (d + 1) ≤ 10 ^ 18 := Nat.pow_le_pow_right (by omega) (by omega)
      have hb : v < 1000000000000000000 := by omega
      refine (ct (dt (by omega))).trans ((ct rfl).trans ?_)
      have e1 : w64 ((48 : Int) + Int.tmod (v : Int) 10) = ((48 + v % 10 : Nat) : Int) := by
        have := tmodN v 10
        rw [show ((10 : Nat) : Int) = 10 from rfl] at this
        rw [this]
        exact w64_id (by omega) (by omega)
      have e2 : w64 (Int.tdiv (v : Int) 10) = ((v / 10 : Nat) : Int) := by
        have := tdivN v 10
        rw [show ((10 : Nat) : Int) = 10 from rfl] at this
        rw [this]
        exact w64_id (by omega) (by omega)
      simp only [e1, e2, ofBytes_one (48 + v % 10) (by omega), ba_append]
      refine (ct (dt ?_)).trans ((ct rfl).trans ?_)
      · rw [ba_size, ba_size]
        simp only [List.length_singleton]
        omega
      · have := ih n (v / 10) ([UInt8.ofNat (48 + v % 10)] ++ acc) (by rw [Nat.pow_succ] at h1; omega) (by omega) (by omega) (by simp; omega)
        rw [this]
        congr 2
        by_cases h10 : v < 10
        · have : v / 10 = 0 := by omega
          rw [this, if_pos rfl, if_neg hv, decL_lt h10]
          simp [dig, Nat.mod_eq_of_lt h10]
        · rw [if_neg (by omega), if_neg hv, decL_ge h10]
          simp [dig]
theorem laws_markText.val {R : Type} (m : Nat) (h : m ≤ 4398046511104) (K : ByteArray → Option R) : laws_markText.c 4194304 (m : Int) K = K (mkT m) := by
  rw [laws_markText.u]
  by_cases hm : m = 0
  · subst hm
    refine (ct rfl).trans ?_
    unfold mkT
    rw [decL_lt (by omega)]
    rfl
  · refine (cf (df (by omega))).trans ?_
    have := laws_markText.l3r_val (R := R) (fun v3 => cond (decide ((ByteArray.mk #[109]).size + v3.size ≤ 9223372036854775807)) (K ((ByteArray.mk #[109]) ++ v3)) none) 14 4194304 m [] (by omega) (by omega) (by omega) (by simp)
    refine this.trans ?_
    rw [if_neg hm, List.append_nil]
    have hl := decL_length (n := m) (d := 13) (by omega)
    have hs := ba_size (decL m)
    refine (ct (dt ?_)).trans ?_
    · have : (ByteArray.mk #[109]).size = 1 := rfl
      omega
    · congr 1
def laws_markNoteS.mk (p : Nat) : Int × Int × Int × Int × ByteArray := ((p : Int), ((p + 1 : Nat) : Int), ((p + 2 : Nat) : Int), ((p + 3 : Nat) : Int), mkT (p + 4))
theorem laws_markNoteS.val {R : Type} (a : List (Int × Int × Int × Int × ByteArray)) (m : Nat) (h : a.length ≤ 2097152) (hm : m ≤ 1099511627776) (K : Int → List (Int × Int × Int × Int × ByteArray) → Option R) : laws_markNoteS.c 4194304 a (m : Int) K = K ((m + 5 * a.length : Nat) : Int) (mks laws_markNoteS.mk 5 m a.length) := by
  rw [laws_markNoteS.u]
  exact mark_loop laws_markNoteS.mk 5 a.length 2199023255552 (fun v w => K v w) (fun n v i w => laws_markNoteS.l4r (laws_markNoteS.g 4194304) 4194304 (fun v w => K v w) n v i w) (fun n m i w hw hi hb => by
      rw [laws_markNoteS.l4r_u]
      refine (ct (dt (by omega))).trans ?_
      simp only [Int.toNat_natCast, w64_p1 i (show i < 4611686018427387904 by omega), w64_p1 m (show m < 4611686018427387904 by omega), w64_p1 (m + 1) (show m + 1 < 4611686018427387904 by omega), w64_p1 (m + 2) (show m + 2 < 4611686018427387904 by omega), w64_p1 (m + 3) (show m + 3 < 4611686018427387904 by omega), w64_p1 (m + 4) (show m + 4 < 4611686018427387904 by omega)]
      refine (ct (gd (by first | omega | (simp only [List.length_set]; omega)))).trans ?_
      refine (ct (gd (by first | omega | (simp only [List.length_set]; omega)))).trans ?_
      refine (ct (gd (by first | omega | (simp only [List.length_set]; omega)))).trans ?_
      refine (ct (gd (by first | omega | (simp only [List.length_set]; omega)))).trans ?_
      refine (laws_markText.val (m + 4) (by omega) _).trans ?_
      refine (ct (gd (by first | omega | (simp only [List.length_set]; omega)))).trans ?_
      congr 1
      apply List.ext_getElem?
      intro j
      simp only [List.getElem?_set, List.length_set]
      split
      · rename_i e
        subst e
        have hi' : i < w.length := by omega
        simp [List.getD_eq_getElem?_getD, hi', List.getElem?_set, laws_markNoteS.mk]
        try omega
      · rfl
      try rfl) (fun n m w hw => by
      rw [laws_markNoteS.l4r_u]
      exact cf (df (by omega))) 4194304 m a (by omega) rfl (by omega)
def laws_markMarkS.mk (p : Nat) : Int × Int × Int := ((p : Int), ((p + 1 : Nat) : Int), ((p + 2 : Nat) : Int))
theorem laws_markMarkS.val {R : Type} (a : List (Int × Int × Int)) (m : Nat) (h : a.length ≤ 2097152) (hm : m ≤ 1099511627776) (K : Int → List (Int × Int × Int) → Option R) : laws_markMarkS.c 4194304 a (m : Int) K = K ((m + 3 * a.length : Nat) : Int) (mks laws_markMarkS.mk 3 m a.length) := by
  rw [laws_markMarkS.u]
  exact mark_loop laws_markMarkS.mk 3 a.length 2199023255552 (fun v w => K v w) (fun n v i w => laws_markMarkS.l4r (laws_markMarkS.g 4194304) 4194304 (fun v w => K v w) n v i w) (fun n m i w hw hi hb => by
      rw [laws_markMarkS.l4r_u]
      refine (ct (dt (by omega))).trans ?_
      simp only [Int.toNat_natCast, w64_p1 i (show i < 4611686018427387904 by omega), w64_p1 m (show m < 4611686018427387904 by omega), w64_p1 (m + 1) (show m + 1 < 4611686018427387904 by omega), w64_p1 (m + 2) (show m + 2 < 4611686018427387904 by omega)]
      refine (ct (gd (by first | omega | (simp only [List.length_set]; omega)))).trans ?_
      refine (ct (gd (by first | omega | (simp only [List.length_set]; omega)))).trans ?_
      refine (ct (gd (by first | omega | (simp only [List.length_set]; omega)))).trans ?_
      congr 1
      apply List.ext_getElem?
      intro j
      simp only [List.getElem?_set, List.length_set]
      split
      · rename_i e
        subst e
        have hi' : i < w.length := by omega
        simp [List.getD_eq_getElem?_getD, hi', List.getElem?_set, laws_markMarkS.mk]
        try omega
      · rfl
      try rfl) (fun n m w hw => by
      rw [laws_markMarkS.l4r_u]
      exact cf (df (by omega))) 4194304 m a (by omega) rfl (by omega)
theorem laws_markKeep.val {R : Type} (a0 a1 a2 : Int) (a3 a5 : (List (Int × Int × Int × Int × ByteArray))) (a4 : (List (Int × Int × Int))) (m : Nat) (h3 : a3.length ≤ 2097152) (h4 : a4.length ≤ 2097152) (h5 : a5.length ≤ 2097152) (hm : m ≤ 549755813888) (K : Int → (List (Int × Int × Int × Int × ByteArray)) → (List (Int × Int × Int)) → (List (Int × Int × Int × Int × ByteArray)) → Option R) :
    laws_markKeep.c 4194304 a0 a1 a2 a3 a4 a5 (m : Int) K = K ((m + 5 * a3.length + 3 * a4.length + 5 * a5.length : Nat) : Int) (mks laws_markNoteS.mk 5 m a3.length) (mks laws_markMarkS.mk 3 (m + 5 * a3.length) a4.length) (mks laws_markNoteS.mk 5 (m + 5 * a3.length + 3 * a4.length) a5.length) := by
  rw [laws_markKeep.u, laws_markNoteS.val _ _ h3 (by omega), laws_markMarkS.val _ _ h4 (by omega), laws_markNoteS.val _ _ h5 (by omega)]
def laws_markStringS.mk (p : Nat) : ByteArray := mkT p
theorem laws_markStringS.val {R : Type} (a : List (ByteArray)) (m : Nat) (h : a.length ≤ 2097152) (hm : m ≤ 1099511627776) (K : Int → List (ByteArray) → Option R) : laws_markStringS.c 4194304 a (m : Int) K = K ((m + 1 * a.length : Nat) : Int) (mks laws_markStringS.mk 1 m a.length) := by
  rw [laws_markStringS.u]
  exact mark_loop laws_markStringS.mk 1 a.length 2199023255552 (fun v w => K v w) (fun n v i w => laws_markStringS.l4r (laws_markStringS.g 4194304) 4194304 (fun v w => K v w) n v i w) (fun n m i w hw hi hb => by
      rw [laws_markStringS.l4r_u]
      refine (ct (dt (by omega))).trans ?_
      rw [laws_markText.val m (by omega)]
      refine (ct (gd (by omega))).trans ?_
      rw [w64_p1 i (by omega), w64_p1 m (by omega), Int.toNat_natCast]
      try rfl) (fun n m w hw => by
      rw [laws_markStringS.l4r_u]
      exact cf (df (by omega))) 4194304 m a (by omega) rfl (by omega)
theorem laws_heldStringS.val {R : Type} (N m : Nat) (h : N ≤ 2097152) (hm : m ≤ 1099511627776) (K : Int → Option R) : laws_heldStringS.c 4194304 (mks laws_markStringS.mk 1 m N) (m : Int) K = K ((m + 1 * N : Nat) : Int) := by
  rw [laws_heldStringS.u]
  have hl := mks_length laws_markStringS.mk 1 m N
  exact held_loop laws_markStringS.mk ByteArray.empty 1 N 2199023255552 m (fun v => K v) (fun n v i => laws_heldStringS.l4r (laws_heldStringS.g 4194304) 4194304 (mks laws_markStringS.mk 1 m N) (fun v => K v) (fun v => K v) n v i) (fun n p i hi hb hd => by
      rw [laws_heldStringS.l4r_u]
      refine (ct (dt (by omega))).trans ((ct (gd (by omega))).trans ?_)
      rw [laws_markText.val p (by omega), w64_p1 i (by omega), w64_p1 p (by omega), Int.toNat_natCast, hd]
      exact cf (by simp [laws_markStringS.mk])
      try rfl) (fun n p => by
      rw [laws_heldStringS.l4r_u]
      exact cf (df (by omega))) 4194304 (by omega) (by omega)
theorem laws_FnExactKeepRecs.law {R : Type} (a b c : Int) (x3 : List (Int × Int × Int × Int × ByteArray)) (x4 : List (Int × Int × Int)) (x5 : List (Int × Int × Int × Int × ByteArray)) (_ha : -9223372036854775808 ≤ a ∧ a ≤ 9223372036854775807) (_hb : -9223372036854775808 ≤ b ∧ b ≤ 9223372036854775807) (_hc : -9223372036854775808 ≤ c ∧ c ≤ 9223372036854775807)
    (l3 : (x3.length : Int) ≤ 9223372036854775807) (w3 : ∀ m ∈ x3, (-9223372036854775808 ≤ m.1 ∧ m.1 ≤ 9223372036854775807) ∧ (-9223372036854775808 ≤ m.2.1 ∧ m.2.1 ≤ 9223372036854775807) ∧ (-9223372036854775808 ≤ m.2.2.1 ∧ m.2.2.1 ≤ 9223372036854775807) ∧ (-9223372036854775808 ≤ m.2.2.2.1 ∧ m.2.2.2.1 ≤ 9223372036854775807) ∧ (m.2.2.2.2.size : Int) ≤ 9223372036854775807)
    (l4 : (x4.length : Int) ≤ 9223372036854775807) (_w4 : ∀ m ∈ x4, (-9223372036854775808 ≤ m.1 ∧ m.1 ≤ 9223372036854775807) ∧ (-9223372036854775808 ≤ m.2.1 ∧ m.2.1 ≤ 9223372036854775807) ∧ (-9223372036854775808 ≤ m.2.2 ∧ m.2.2 ≤ 9223372036854775807))
    (l5 : (x5.length : Int) ≤ 9223372036854775807) (w5 : ∀ m ∈ x5, (-9223372036854775808 ≤ m.1 ∧ m.1 ≤ 9223372036854775807) ∧ (-9223372036854775808 ≤ m.2.1 ∧ m.2.1 ≤ 9223372036854775807) ∧ (-9223372036854775808 ≤ m.2.2.1 ∧ m.2.2.1 ≤ 9223372036854775807) ∧ (-9223372036854775808 ≤ m.2.2.2.1 ∧ m.2.2.2.1 ≤ 9223372036854775807) ∧ (m.2.2.2.2.size : Int) ≤ 9223372036854775807)
    (K : Bool → Option R) : laws_FnExactKeepRecs.c 4194304 a b c x3 x4 x5 K = K true := by
  obtain ⟨r, q1, _, hr⟩ := laws_szKeep.tot a b c x3 x5 x4 l3 (fun m hm => (w3 m hm).2.2.2.2) l4 l5 (fun m hm => (w5 m hm).2.2.2.2)
  rw [laws_FnExactKeepRecs.u, hr]
  by_cases h1 : r < 0
  · exact ct (dt h1)
  · obtain ⟨⟨n3, s3⟩, n4, n5, s5⟩ := q1 (by omega)
    have n3 : x3.length ≤ 2097152 := by omega
    have n4 : x4.length ≤ 2097152 := by omega
    have n5 : x5.length ≤ 2097152 := by omega
    have s3 : ∀ m ∈ x3, m.2.2.2.2.size ≤ 2097152 := fun m hm => by have := s3 m hm; omega
    have s5 : ∀ m ∈ x5, m.2.2.2.2.size ≤ 2097152 := fun m hm => by have := s5 m hm; omega
    have hl : (recsK a b c x3 x4 x5).length ≤ 100 := by
      unfold recsK
      cases hk : keepB a b c x3 x4 x5 with
      | false => simp
      | true =>
        obtain ⟨g1, g2, g3, g4, g5, g6⟩ := keepB_some hk
        have t1 : (timeW b).length ≤ 1 := by unfold timeW; cases decide ((0 : Int) < b) <;> simp
        have t2 : (nextW c).length ≤ 1 := by unfold nextW; cases decide ((1 : Int) < c) <;> simp
        simp only [cond_true, List.length_append, List.length_map]
        omega
    refine (cf (df h1)).trans ?_
    rw [laws_toKeep.val _ _ _ _ _ _ n3 n4 n5, spec_KeepRecs.val _ _ _ _ _ _ n3 n4 n5, laws_toKeep.val _ _ _ _ _ _ n3 n4 n5, impl_KeepRecs.val _ _ _ _ _ _ n3 s3 n4 n5 s5, laws_eqStringS.val _ _ (by omega)]
    refine (cf (by simp)).trans ?_
    rw [laws_toKeep.val _ _ _ _ _ _ n3 n4 n5, laws_eqKeep.val _ _ _ _ _ _ _ _ _ _ _ _ n3 n4 n5]
    refine (cf (by simp)).trans ?_
    refine (laws_markKeep.val a b c x3 x5 x4 1 n3 n4 n5 (by omega) _).trans ?_
    refine (cf (df (by omega))).trans ?_
    rw [laws_eqStringS.val _ _ (by omega)]
    refine (cf (by simp)).trans ?_
    refine (laws_markStringS.val (recsK a b c x3 x4 x5) 1 (by omega) (by omega) _).trans ?_
    refine (laws_heldStringS.val (recsK a b c x3 x4 x5).length 1 (by omega) (by omega) _).trans ?_
    refine (cf (df (by omega))).trans ((cf (by simp)).trans ?_)
    rw [laws_toKeep.val _ _ _ _ _ _ n3 n4 n5, impl_KeepRecs.val _ _ _ _ _ _ n3 s3 n4 n5 s5, laws_eqStringS.val _ _ (by omega)]
    refine (cf (by simp)).trans ?_
    refine (laws_heldStringS.val (recsK a b c x3 x4 x5).length 1 (by omega) (by omega) _).trans ?_
    exact (cf (df (by omega))).trans (cf (by simp))
end Go.Ev.F
