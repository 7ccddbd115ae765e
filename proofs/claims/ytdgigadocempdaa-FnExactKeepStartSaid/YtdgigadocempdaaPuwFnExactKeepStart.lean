/- What the Go functions compute, told in plain words. No condition beyond those that stand in each. -/
import Derived.Test.YtdgigadocempdaaEvuFnExactKeepStart
import Derived.Test.YtdgigadocempdaaPur
namespace Go.Ev.F
set_option linter.unusedVariables false
set_option linter.unusedSimpArgs false
theorem spec_l6In.val {R : Type} (k : Nat) (a b c : Int) (K : Bool → Option R) : spec_l6In.c k a b c K = K (inB a b c) := by
  rw [spec_l6In.u]
  unfold inB
  by_cases h : b ≤ a <;> simp [h]
theorem spec_l3Keeper.val {R : Type} (k : Nat) (a : Int) (K : Bool → Option R) : spec_l3Keeper.c k a K = K (inB a 0 3) := by
  rw [spec_l3Keeper.u, spec_l6In.val]
theorem spec_KeepStart.val {R : Type} (k : Nat) (a : Int) (K : Int → Int → Int → (List (Int × Int × Int × Int × ByteArray)) → (List (Int × Int × Int)) → (List (Int × Int × Int × Int × ByteArray)) → Option R) : spec_KeepStart.c k a K = K (cond (inB a 0 3) a 0) 0 (cond (inB a 0 3) 1 0) [] [] [] := by
  rw [spec_KeepStart.u, spec_l3Keeper.val]
  cases inB a 0 3 <;> rfl
theorem impl_in.val {R : Type} (k : Nat) (a b c : Int) (K : Bool → Option R) : impl_in.c k a b c K = K (inB a b c) := by
  rw [impl_in.u]
  unfold inB
  by_cases h : b ≤ a <;> simp [h]
theorem impl_isNode.val {R : Type} (k : Nat) (a : Int) (K : Bool → Option R) : impl_isNode.c k a K = K (inB a 0 3) := by
  rw [impl_isNode.u, impl_in.val]
theorem impl_KeepStart.val {R : Type} (k : Nat) (a : Int) (K : Int → Int → Int → (List (Int × Int × Int × Int × ByteArray)) → (List (Int × Int × Int)) → (List (Int × Int × Int × Int × ByteArray)) → Option R) : impl_KeepStart.c k a K = K (cond (inB a 0 3) a 0) 0 (cond (inB a 0 3) 1 0) [] [] [] := by
  rw [impl_KeepStart.u, impl_isNode.val]
  cases inB a 0 3 <;> rfl
theorem laws_eqNote.val {R : Type} (k : Nat) (a0 : Int) (a1 : Int) (a2 : Int) (a3 : Int) (a4 : ByteArray) (b0 : Int) (b1 : Int) (b2 : Int) (b3 : Int) (b4 : ByteArray) (K : Bool → Option R) : laws_eqNote.c k a0 a1 a2 a3 a4 b0 b1 b2 b3 b4 K = K (decide ((a0, a1, a2, a3, a4) = (b0, b1, b2, b3, b4))) := by
  rw [laws_eqNote.u, nc0]
  simp only [nc]
  exact congrArg K (decide_eq_decide.2 (by simp))
theorem laws_eqNoteS.val {R : Type} (a b : List (Int × Int × Int × Int × ByteArray)) (h : a.length ≤ 2097152) (K : Bool → Option R) : laws_eqNoteS.c 4194304 a b K = K (decide (a = b)) := by
  rw [laws_eqNoteS.u]
  by_cases hl : a.length = b.length
  · refine (cf (by simp [hl])).trans ?_
    have key := eq_loop a b ((0 : Int), (0 : Int), (0 : Int), (0 : Int), ByteArray.empty) (K true) (K false) (fun n i => laws_eqNoteS.l4r (laws_eqNoteS.g 4194304) 4194304 a b (K true) (fun v => K v) n i) hl (fun n i hi => by
      rw [laws_eqNoteS.l4r_u]
      refine (ct (dt (by omega))).trans ((ct (gd hi)).trans ((ct (gd (by omega))).trans ?_))
      rw [laws_eqNote.val]
      simp only [Int.toNat_natCast, w64_p1 i (show i < 4611686018427387904 by omega)]
      cases hd : decide (a.getD i ((0 : Int), (0 : Int), (0 : Int), (0 : Int), ByteArray.empty) = b.getD i ((0 : Int), (0 : Int), (0 : Int), (0 : Int), ByteArray.empty))
      · exact ct rfl
      · exact cf rfl) (fun n => by
      rw [laws_eqNoteS.l4r_u]
      exact cf (df (by omega))) 4194304 (by omega)
    exact key.trans (by cases decide (a = b) <;> rfl)
  · refine (ct (by simp; omega)).trans ?_
    rw [df (fun e => hl (by rw [e]))]
theorem laws_eqMark.val {R : Type} (k : Nat) (a0 : Int) (a1 : Int) (a2 : Int) (b0 : Int) (b1 : Int) (b2 : Int) (K : Bool → Option R) : laws_eqMark.c k a0 a1 a2 b0 b1 b2 K = K (decide ((a0, a1, a2) = (b0, b1, b2))) := by
  rw [laws_eqMark.u, nc0]
  simp only [nc]
  exact congrArg K (decide_eq_decide.2 (by simp))
theorem laws_eqMarkS.val {R : Type} (a b : List (Int × Int × Int)) (h : a.length ≤ 2097152) (K : Bool → Option R) : laws_eqMarkS.c 4194304 a b K = K (decide (a = b)) := by
  rw [laws_eqMarkS.u]
  by_cases hl : a.length = b.length
  · refine (cf (by simp [hl])).trans ?_
    have key := eq_loop a b ((0 : Int), (0 : Int), (0 : Int)) (K true) (K false) (fun n i => laws_eqMarkS.l4r (laws_eqMarkS.g 4194304) 4194304 a b (K true) (fun v => K v) n i) hl (fun n i hi => by
      rw [laws_eqMarkS.l4r_u]
      refine (ct (dt (by omega))).trans ((ct (gd hi)).trans ((ct (gd (by omega))).trans ?_))
      rw [laws_eqMark.val]
      simp only [Int.toNat_natCast, w64_p1 i (show i < 4611686018427387904 by omega)]
      cases hd : decide (a.getD i ((0 : Int), (0 : Int), (0 : Int)) = b.getD i ((0 : Int), (0 : Int), (0 : Int)))
      · exact ct rfl
      · exact cf rfl) (fun n => by
      rw [laws_eqMarkS.l4r_u]
      exact cf (df (by omega))) 4194304 (by omega)
    exact key.trans (by cases decide (a = b) <;> rfl)
  · refine (ct (by simp; omega)).trans ?_
    rw [df (fun e => hl (by rw [e]))]
theorem laws_eqKeep.val {R : Type} (a0 a1 a2 b0 b1 b2 : Int) (a3 a5 b3 b5 : (List (Int × Int × Int × Int × ByteArray))) (a4 b4 : (List (Int × Int × Int))) (h3 : a3.length ≤ 2097152) (h4 : a4.length ≤ 2097152) (h5 : a5.length ≤ 2097152) (K : Bool → Option R) :
    laws_eqKeep.c 4194304 a0 a1 a2 a3 a4 a5 b0 b1 b2 b3 b4 b5 K = K (decide (a0 = b0 ∧ a1 = b1 ∧ a2 = b2 ∧ a3 = b3 ∧ a4 = b4 ∧ a5 = b5)) := by
  rw [laws_eqKeep.u]
  simp only [laws_eqNoteS.val _ _ h3, laws_eqMarkS.val _ _ h4, laws_eqNoteS.val _ _ h5, nc0, nc]
theorem laws_markText.l3r_val {R : Type} (x0 : ByteArray → Option R) : ∀ (d n v : Nat) (acc : List UInt8), v < 10 ^ d → d < n → d ≤ 18 → acc.length + d ≤ 1000 → laws_markText.l3r (laws_markText.g 4194304) 4194304 x0 n (v : Int) (ba acc) = x0 (ba ((if v = 0 then [] else decL v) ++ acc)) := by
  intro d
  induction d with
  | zero =>
    intro n v acc h1 h2 _ h3
    obtain ⟨n, rfl⟩ := Nat.exists_eq_succ_of_ne_zero (n := n) (by omega)
    have : v = 0 := by omega
    subst this
    rw [laws_markText.l3r_u]
    exact cf rfl
  | succ d ih =>
    intro n v acc h1 h2 h4 h3
    obtain ⟨n, rfl⟩ := Nat.exists_eq_succ_of_ne_zero (n := n) (by omega)
    rw [laws_markText.l3r_u]
    by_cases hv : v = 0
    · subst hv; exact cf rfl
    · have hp : 10 ^ (d + 1) ≤ 10 ^ 18 := Nat.pow_le_pow_right (by omega) (by omega)
      have hb : v < 1000000000000000000 := by omega
      refine (ct (dt (by omega))).trans ((ct rfl).trans ?_)
      have e1 : w64 ((48 : Int) + Int.tmod (v : Int) 10) = ((48 + v % 10 : Nat) : Int) := by
        have := tmodN v 10
        rw [show ((10 : Nat) : Int) = 10 from rfl] at this
        rw [this]
        exact w64_id (by omega) (by omega)
      have e2 : w64 (Int.tdiv (v : Int) 10) = ((v / 10 : Nat) : Int) := by
        have := tdivN v 10
        rw [show ((10 : Nat) : Int) = 10 from rfl] at this
        rw [this]
        exact w64_id (by omega) (by omega)
      simp only [e1, e2, ofBytes_one (48 + v % 10) (by omega), ba_append]
      refine (ct (dt ?_)).trans ((ct rfl).trans ?_)
      · rw [ba_size, ba_size]
        simp only [List.length_singleton]
        omega
      · have := ih n (v / 10) ([UInt8.ofNat (48 + v % 10)] ++ acc) (by rw [Nat.pow_succ] at h1; omega) (by omega) (by omega) (by simp; omega)
        rw [this]
        congr 2
        by_cases h10 : v < 10
        · have : v / 10 = 0 := by omega
          rw [this, if_pos rfl, if_neg hv, decL_lt h10]
          simp [dig, Nat.mod_eq_of_lt h10]
        · rw [if_neg (by omega), if_neg hv, decL_ge h10]
          simp [dig]
theorem laws_markText.val {R : Type} (m : Nat) (h : m ≤ 4398046511104) (K : ByteArray → Option R) : laws_markText.c 4194304 (m : Int) K = K (mkT m) := by
  rw [laws_markText.u]
  by_cases hm : m = 0
  · subst hm
    refine (ct rfl).trans ?_
    unfold mkT
    rw [decL_lt (by omega)]
    rfl
  · refine (cf (df (by omega))).trans ?_
    have := laws_markText.l3r_val (R := R) (fun v3 => cond (decide ((ByteArray.mk #[109]).size + v3.size ≤ 9223372036854775807)) (K ((ByteArray.mk #[109]) ++ v3)) none) 14 4194304 m [] (by omega) (by omega) (by omega) (by simp)
    refine this.trans ?_
    rw [if_neg hm, List.append_nil]
    have hl := decL_length (n := m) (d := 13) (by omega)
    have hs := ba_size (decL m)
    refine (ct (dt ?_)).trans ?_
    · have : (ByteArray.mk #[109]).size = 1 := rfl
      omega
    · congr 1
def laws_markNoteS.mk (p : Nat) : Int × Int × Int × Int × ByteArray := ((p : Int), ((p + 1 : Nat) : Int), ((p + 2 : Nat) : Int), ((p + 3 : Nat) : Int), mkT (p + 4))
theorem laws_markNoteS.val {R : Type} (a : List (Int × Int × Int × Int × ByteArray)) (m : Nat) (h : a.length ≤ 2097152) (hm : m ≤ 1099511627776) (K : Int → List (Int × Int × Int × Int × ByteArray) → Option R) : laws_markNoteS.c 4194304 a (m : Int) K = K ((m + 5 * a.length : Nat) : Int) (mks laws_markNoteS.mk 5 m a.length) := by
  rw [laws_markNoteS.u]
  exact mark_loop laws_markNoteS.mk 5 a.length 2199023255552 (fun v w => K v w) (fun n v i w => laws_markNoteS.l4r (laws_markNoteS.g 4194304) 4194304 (fun v w => K v w) n v i w) (fun n m i w hw hi hb => by
      rw [laws_markNoteS.l4r_u]
      refine (ct (dt (by omega))).trans ?_
      simp only [Int.toNat_natCast, w64_p1 i (show i < 4611686018427387904 by omega), w64_p1 m (show m < 4611686018427387904 by omega), w64_p1 (m + 1) (show m + 1 < 4611686018427387904 by omega), w64_p1 (m + 2) (show m + 2 < 4611686018427387904 by omega), w64_p1 (m + 3) (show m + 3 < 4611686018427387904 by omega), w64_p1 (m + 4) (show m + 4 < 4611686018427387904 by omega)]
      refine (ct (gd (by first | omega | (simp only [List.length_set]; omega)))).trans ?_
      refine (ct (gd (by first | omega | (simp only [List.length_set]; omega)))).trans ?_
      refine (ct (gd (by first | omega | (simp only [List.length_set]; omega)))).trans ?_
      refine (ct (gd (by first | omega | (simp only [List.length_set]; omega)))).trans ?_
      refine (laws_markText.val (m + 4) (by omega) _).trans ?_
      refine (ct (gd (by first | omega | (simp only [List.length_set]; omega)))).trans ?_
      congr 1
      apply List.ext_getElem?
      intro j
      simp only [List.getElem?_set, List.length_set]
      split
      · rename_i e
        subst e
        have hi' : i < w.length := by omega
        simp [List.getD_eq_getElem?_getD, hi', List.getElem?_set, laws_markNoteS.mk]
        try omega
      · rfl
      try rfl) (fun n m w hw => by
      rw [laws_markNoteS.l4r_u]
      exact cf (df (by omega))) 4194304 m a (by omega) rfl (by omega)
def laws_markMarkS.mk (p : Nat) : Int × Int × Int := ((p : Int), ((p + 1 : Nat) : Int), ((p + 2 : Nat) : Int))
theorem laws_markMarkS.val {R : Type} (a : List (Int × Int × Int)) (m : Nat) (h : a.length ≤ 2097152) (hm : m ≤ 1099511627776) (K : Int → List (Int × Int × Int) → Option R) : laws_markMarkS.c 4194304 a (m : Int) K = K ((m + 3 * a.length : Nat) : Int) (mks laws_markMarkS.mk 3 m a.length) := by
  rw [laws_markMarkS.u]
  exact mark_loop laws_markMarkS.mk 3 a.length 2199023255552 (fun v w => K v w) (fun n v i w => laws_markMarkS.l4r (laws_markMarkS.g 4194304) 4194304 (fun v w => K v w) n v i w) (fun n m i w hw hi hb => by
      rw [laws_markMarkS.l4r_u]
      refine (ct (dt (by omega))).trans ?_
      simp only [Int.toNat_natCast, w64_p1 i (show i < 4611686018427387904 by omega), w64_p1 m (show m < 4611686018427387904 by omega), w64_p1 (m + 1) (show m + 1 < 4611686018427387904 by omega), w64_p1 (m + 2) (show m + 2 < 4611686018427387904 by omega)]
      refine (ct (gd (by first | omega | (simp only [List.length_set]; omega)))).trans ?_
      refine (ct (gd (by first | omega | (simp only [List.length_set]; omega)))).trans ?_
      refine (ct (gd (by first | omega | (simp only [List.length_set]; omega)))).trans ?_
      congr 1
      apply List.ext_getElem?
      intro j
      simp only [List.getElem?_set, List.length_set]
      split
      · rename_i e
        subst e
        have hi' : i < w.length := by omega
        simp [List.getD_eq_getElem?_getD, hi', List.getElem?_set, laws_markMarkS.mk]
        try omega
      · rfl
      try rfl) (fun n m w hw => by
      rw [laws_markMarkS.l4r_u]
      exact cf (df (by omega))) 4194304 m a (by omega) rfl (by omega)
theorem laws_markKeep.val {R : Type} (a0 a1 a2 : Int) (a3 a5 : (List (Int × Int × Int × Int × ByteArray))) (a4 : (List (Int × Int × Int))) (m : Nat) (h3 : a3.length ≤ 2097152) (h4 : a4.length ≤ 2097152) (h5 : a5.length ≤ 2097152) (hm : m ≤ 549755813888) (K : Int → (List (Int × Int × Int × Int × ByteArray)) → (List (Int × Int × Int)) → (List (Int × Int × Int × Int × ByteArray)) → Option R) :
    laws_markKeep.c 4194304 a0 a1 a2 a3 a4 a5 (m : Int) K = K ((m + 5 * a3.length + 3 * a4.length + 5 * a5.length : Nat) : Int) (mks laws_markNoteS.mk 5 m a3.length) (mks laws_markMarkS.mk 3 (m + 5 * a3.length) a4.length) (mks laws_markNoteS.mk 5 (m + 5 * a3.length + 3 * a4.length) a5.length) := by
  rw [laws_markKeep.u, laws_markNoteS.val _ _ h3 (by omega), laws_markMarkS.val _ _ h4 (by omega), laws_markNoteS.val _ _ h5 (by omega)]
theorem laws_heldNoteS.val {R : Type} (N m : Nat) (h : N ≤ 2097152) (hm : m ≤ 1099511627776) (K : Int → Option R) : laws_heldNoteS.c 4194304 (mks laws_markNoteS.mk 5 m N) (m : Int) K = K ((m + 5 * N : Nat) : Int) := by
  rw [laws_heldNoteS.u]
  have hl := mks_length laws_markNoteS.mk 5 m N
  exact held_loop laws_markNoteS.mk ((0 : Int), (0 : Int), (0 : Int), (0 : Int), ByteArray.empty) 5 N 2199023255552 m (fun v => K v) (fun n v i => laws_heldNoteS.l4r (laws_heldNoteS.g 4194304) 4194304 (mks laws_markNoteS.mk 5 m N) (fun v => K v) (fun v => K v) n v i) (fun n p i hi hb hd => by
      rw [laws_heldNoteS.l4r_u]
      refine (ct (dt (by omega))).trans ?_
      simp only [Int.toNat_natCast, w64_p1 i (show i < 4611686018427387904 by omega), w64_p1 p (show p < 4611686018427387904 by omega), w64_p1 (p + 1) (show p + 1 < 4611686018427387904 by omega), w64_p1 (p + 2) (show p + 2 < 4611686018427387904 by omega), w64_p1 (p + 3) (show p + 3 < 4611686018427387904 by omega), w64_p1 (p + 4) (show p + 4 < 4611686018427387904 by omega), hd, laws_markNoteS.mk]
      refine (ct (gd (by omega))).trans ?_
      refine (cf (by simp)).trans ?_
      refine (ct (gd (by omega))).trans ?_
      refine (cf (by simp)).trans ?_
      refine (ct (gd (by omega))).trans ?_
      refine (cf (by simp)).trans ?_
      refine (ct (gd (by omega))).trans ?_
      refine (cf (by simp)).trans ?_
      refine (ct (gd (by omega))).trans ?_
      refine (laws_markText.val (p + 4) (by omega) _).trans ?_
      refine (cf (by simp)).trans ?_

      try rfl) (fun n p => by
      rw [laws_heldNoteS.l4r_u]
      exact cf (df (by omega))) 4194304 (by omega) (by omega)
theorem laws_heldMarkS.val {R : Type} (N m : Nat) (h : N ≤ 2097152) (hm : m ≤ 1099511627776) (K : Int → Option R) : laws_heldMarkS.c 4194304 (mks laws_markMarkS.mk 3 m N) (m : Int) K = K ((m + 3 * N : Nat) : Int) := by
  rw [laws_heldMarkS.u]
  have hl := mks_length laws_markMarkS.mk 3 m N
  exact held_loop laws_markMarkS.mk ((0 : Int), (0 : Int), (0 : Int)) 3 N 2199023255552 m (fun v => K v) (fun n v i => laws_heldMarkS.l4r (laws_heldMarkS.g 4194304) 4194304 (mks laws_markMarkS.mk 3 m N) (fun v => K v) (fun v => K v) n v i) (fun n p i hi hb hd => by
      rw [laws_heldMarkS.l4r_u]
      refine (ct (dt (by omega))).trans ?_
      simp only [Int.toNat_natCast, w64_p1 i (show i < 4611686018427387904 by omega), w64_p1 p (show p < 4611686018427387904 by omega), w64_p1 (p + 1) (show p + 1 < 4611686018427387904 by omega), w64_p1 (p + 2) (show p + 2 < 4611686018427387904 by omega), hd, laws_markMarkS.mk]
      refine (ct (gd (by omega))).trans ?_
      refine (cf (by simp)).trans ?_
      refine (ct (gd (by omega))).trans ?_
      refine (cf (by simp)).trans ?_
      refine (ct (gd (by omega))).trans ?_
      refine (cf (by simp)).trans ?_

      try rfl) (fun n p => by
      rw [laws_heldMarkS.l4r_u]
      exact cf (df (by omega))) 4194304 (by omega) (by omega)
theorem laws_heldKeep.val {R : Type} (a0 a1 a2 : Int) (n3 n4 n5 m : Nat) (h3 : n3 ≤ 2097152) (h4 : n4 ≤ 2097152) (h5 : n5 ≤ 2097152) (hm : m ≤ 549755813888) (K : Int → Option R) :
    laws_heldKeep.c 4194304 a0 a1 a2 (mks laws_markNoteS.mk 5 m n3) (mks laws_markMarkS.mk 3 (m + 5 * n3) n4) (mks laws_markNoteS.mk 5 (m + 5 * n3 + 3 * n4) n5) (m : Int) K = K ((m + 5 * n3 + 3 * n4 + 5 * n5 : Nat) : Int) := by
  rw [laws_heldKeep.u, laws_heldNoteS.val _ _ h3 (by omega)]
  refine (cf (df (by omega))).trans ?_
  rw [laws_heldMarkS.val _ _ h4 (by omega)]
  refine (cf (df (by omega))).trans ?_
  rw [laws_heldNoteS.val _ _ h5 (by omega)]
  exact cf (df (by omega))
theorem laws_FnExactKeepStart.law {R : Type} (a : Int) (h : -9223372036854775808 ≤ a ∧ a ≤ 9223372036854775807) (K : Bool → Option R) : laws_FnExactKeepStart.c 4194304 a K = K true := by
  rw [laws_FnExactKeepStart.u, spec_KeepStart.val, impl_KeepStart.val]
  generalize hx : cond (inB a 0 3) a 0 = x
  generalize hz : cond (inB a 0 3) (1 : Int) 0 = z
  rw [laws_eqKeep.val _ _ _ _ _ _ _ _ _ _ _ _ (by simp) (by simp) (by simp)]
  refine (cf (by simp)).trans ?_
  refine (laws_markKeep.val x 0 z [] [] [] 1 (by simp) (by simp) (by simp) (by omega) _).trans ?_
  refine (laws_heldKeep.val x 0 z 0 0 0 1 (by omega) (by omega) (by omega) (by omega) _).trans ?_
  refine (cf (df (by omega))).trans ((cf (by simp)).trans ?_)
  rw [impl_KeepStart.val, hx, hz, laws_eqKeep.val _ _ _ _ _ _ _ _ _ _ _ _ (by simp) (by simp) (by simp)]
  refine (cf (by simp)).trans ?_
  refine (laws_heldKeep.val x 0 z 0 0 0 1 (by omega) (by omega) (by omega) (by omega) _).trans ?_
  exact (cf (df (by omega))).trans (cf (by simp))
end Go.Ev.F
