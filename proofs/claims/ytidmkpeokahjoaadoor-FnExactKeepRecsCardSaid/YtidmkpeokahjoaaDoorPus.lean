/- More words for shelves: plain facts, with no Go in sight. No condition beyond those that stand in each. -/
import Derived.Test.YtidmkpeokahjoaaDoorPur
namespace Go.Ev
set_option linter.unusedVariables false
set_option linter.unusedSimpArgs false
def addL (t : ByteArray) (f : Int) (rec : ByteArray) : ByteArray × Int × Bool :=
  cond (!okL t f) (ByteArray.mk #[], 0, false) (cond (!inB (rec.size : Int) 1 60) (t, f, false) (cond (decide (2400 < t.size + (ba (recL (tx rec))).size)) (t, f, false) (t ++ ba (recL (tx rec)), f, true)))
def resNat : Option Nat → Int × Bool
  | none => (0, false)
  | some n => (n, true)
theorem w64_p3 (a : Nat) (h : a < 4611686018427387904) : w64 ((a : Int) + 3) = ((a + 3 : Nat) : Int) := w64_id (x := (a : Int) + 3) (by omega) (by omega)
theorem numL_nodig {m : Nat} {l : List UInt8} (h : l.all isDig = false) : numL m l = none := by
  unfold numL
  rw [if_neg (fun h' => by rw [h] at h'; cases h'.2.1)]
theorem numL_long {m : Nat} {l : List UInt8} (h : ¬ l.length ≤ m) : numL m l = none := by
  unfold numL
  rw [if_neg (fun h' => h h'.1)]
def recOk60 (r : ByteArray) : Bool := inB (r.size : Int) 1 60
def logB (rs : List ByteArray) : ByteArray := ba (logL (rs.map tx))
theorem logB_nil : logB [] = ByteArray.mk #[] := rfl
theorem logB_cons (r : ByteArray) (rs : List ByteArray) : logB (r :: rs) = ba (recL (tx r)) ++ logB rs := by
  unfold logB
  rw [ba_append]
  rfl
theorem ap_nil (a : ByteArray) : a ++ ByteArray.mk #[] = a := by
  apply tx_inj
  rw [tx_append]
  exact List.append_nil _
theorem ap_assoc (a b c : ByteArray) : a ++ b ++ c = a ++ (b ++ c) := by
  apply tx_inj
  rw [tx_append, tx_append, tx_append, tx_append, List.append_assoc]
theorem recL_small {r : ByteArray} (h : recOk60 r = true) : (ba (recL (tx r))).size ≤ 64 := by
  obtain ⟨r1, r2⟩ := inB_iff.1 h
  rw [ba_size, recL_length, tx_length]
  have := decL_length (n := r.size) (d := 1) (by omega)
  omega
def packL (t : ByteArray) (f : Int) (rs : List ByteArray) : ByteArray × Int × Bool :=
  cond (!okL t f) (ByteArray.mk #[], 0, false) (cond (rs.all recOk60) (cond (decide (2400 < (logB rs).size)) (t, f, false) (logB rs, ((logB rs).size : Int), true)) (t, f, false))
def ntL (a b c d : Int) (t : ByteArray) : List UInt8 := decL a.toNat ++ [32] ++ decL b.toNat ++ [32] ++ decL c.toNat ++ [32] ++ decL d.toNat ++ [32] ++ tx t
def nwB (a b c d : Int) (t : ByteArray) : ByteArray := cond (ntOk a b c d t) (ba (ntL a b c d t)) (ByteArray.mk #[])
theorem ntOk_some {a b c d : Int} {t : ByteArray} (h : ntOk a b c d t = true) : (0 ≤ a ∧ a ≤ 3) ∧ (1 ≤ b ∧ b ≤ 99) ∧ (0 ≤ c ∧ c ≤ 3) ∧ (1 ≤ d ∧ d ≤ 999) ∧ (1 ≤ t.size ∧ t.size ≤ 24) ∧ (tx t).all chOk = true := by
  simp only [ntOk, txOk, Bool.and_eq_true, inB_iff] at h
  obtain ⟨⟨⟨⟨h1, h2⟩, h3⟩, h4⟩, h5, h6⟩ := h
  exact ⟨h1, h3, h2, h4, ⟨by omega, by omega⟩, h6⟩
theorem ntL_length {a b c d : Int} {t : ByteArray} (h : ntOk a b c d t = true) : (ntL a b c d t).length ≤ 35 := by
  obtain ⟨h1, h2, h3, h4, h5, _⟩ := ntOk_some h
  have e1 := decL_length (n := a.toNat) (d := 0) (by omega)
  have e2 := decL_length (n := b.toNat) (d := 1) (by omega)
  have e3 := decL_length (n := c.toNat) (d := 0) (by omega)
  have e4 := decL_length (n := d.toNat) (d := 2) (by omega)
  have e5 := tx_length t
  simp only [ntL, List.length_append, List.length_cons, List.length_nil]
  omega
theorem addL_no {t : ByteArray} {f : Int} {r : ByteArray} (h : okL t f = false) : addL t f r = (ByteArray.mk #[], 0, false) := by
  unfold addL
  rw [h]
  rfl
theorem addL_cases {t : ByteArray} {f : Int} {r : ByteArray} (h : okL t f = true) : addL t f r = (t, f, false) ∨ (recOk60 r = true ∧ t.size + (ba (recL (tx r))).size ≤ 2400 ∧ addL t f r = (t ++ ba (recL (tx r)), f, true)) := by
  unfold addL
  rw [h]
  show cond (!inB (r.size : Int) 1 60) _ _ = _ ∨ _
  cases hr : inB (r.size : Int) 1 60 with
  | false => exact .inl rfl
  | true =>
    by_cases h2 : 2400 < t.size + (ba (recL (tx r))).size
    · rw [dt h2]
      exact .inl rfl
    · rw [df h2]
      exact .inr ⟨hr, by omega, rfl⟩
theorem okR_of {r : ByteArray} (h : recOk60 r = true) : okR (tx r) := by
  obtain ⟨r1, r2⟩ := inB_iff.1 h
  have := tx_length r
  exact ⟨by omega, by omega⟩
theorem read_add {t : ByteArray} {f : Int} {r : ByteArray} (h : okL t f = true) (hr : recOk60 r = true) : readL (tx (t ++ ba (recL (tx r)))) = ((readL (tx t)).1 ++ [tx r], (t ++ ba (recL (tx r))).size) := by
  obtain ⟨h1, h2, h3, h4, h5⟩ := okL_some h
  have hw := readL_whole (l := tx t) (by rw [h4, tx_length])
  have e : tx (t ++ ba (recL (tx r))) = logL ((readL (tx t)).1 ++ [tx r]) := by
    rw [tx_append, tx_ba, logL_append, ← hw]
    simp [logL]
  have hok : ∀ x ∈ (readL (tx t)).1 ++ [tx r], okR x := by
    intro x hx
    rcases List.mem_append.1 hx with hx | hx
    · exact (readL_spec (tx t)).1 x hx
    · rw [List.mem_singleton] at hx
      subst hx
      exact okR_of hr
  have := readL_of_log hok
  rw [← e, tx_length] at this
  exact this
theorem okL_add {t : ByteArray} {f : Int} {r : ByteArray} (h : okL t f = true) (hr : recOk60 r = true) (hz : t.size + (ba (recL (tx r))).size ≤ 2400) : okL (t ++ ba (recL (tx r))) f = true := by
  obtain ⟨h1, h2, h3, h4, h5⟩ := okL_some h
  have hs := sz_append t (ba (recL (tx r)))
  unfold okL
  rw [dt (show (t ++ ba (recL (tx r))).size ≤ 2400 by omega), inB_yes h2 (by omega), read_add h hr]
  have e : (tx (t ++ ba (recL (tx r)))).take f.toNat = (tx t).take f.toNat := by
    rw [tx_append, List.take_append_of_le_length (by rw [tx_length]; omega)]
  rw [e, dt h5]
  simp
theorem addL_yes {t : ByteArray} {f : Int} {r : ByteArray} (h : okL t f = true) (hr : recOk60 r = true) (hz : t.size + (ba (recL (tx r))).size ≤ 2400) : addL t f r = (t ++ ba (recL (tx r)), f, true) := by
  unfold addL
  rw [h, show inB (r.size : Int) 1 60 = true from hr, df (show ¬ 2400 < t.size + (ba (recL (tx r))).size by omega)]
  rfl
theorem map_ba_tx (l : List ByteArray) : (l.map tx).map ba = l := by
  rw [List.map_map]
  exact List.map_id'' (fun x => ba_tx x) l
theorem readL_logB {rs : List ByteArray} (h : rs.all recOk60 = true) : readL (tx (logB rs)) = (rs.map tx, (logB rs).size) := by
  have hok : ∀ x ∈ rs.map tx, okR x := by
    intro x hx
    obtain ⟨r, hr, rfl⟩ := List.mem_map.1 hx
    exact okR_of (List.all_eq_true.1 h r hr)
  have := readL_of_log hok
  rw [show logL (rs.map tx) = tx (logB rs) from rfl, tx_length] at this
  exact this
theorem packL_cases {t : ByteArray} {f : Int} {rs : List ByteArray} : (packL t f rs).2.2 = false ∨ (rs.all recOk60 = true ∧ (logB rs).size ≤ 2400 ∧ packL t f rs = (logB rs, ((logB rs).size : Int), true)) := by
  unfold packL
  cases okL t f with
  | false => exact .inl rfl
  | true =>
    cases rs.all recOk60 with
    | false => exact .inl rfl
    | true =>
      by_cases hz : 2400 < (logB rs).size
      · rw [dt hz]
        exact .inl rfl
      · rw [df hz]
        exact .inr ⟨rfl, by omega, rfl⟩
end Go.Ev
