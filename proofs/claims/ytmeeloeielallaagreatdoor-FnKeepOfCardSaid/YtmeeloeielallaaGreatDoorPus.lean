/- More words for shelves: plain facts, with no Go in sight. No condition beyond those that stand in each. -/
import Derived.Test.YtmeeloeielallaaGreatDoorPur
namespace Go.Ev
set_option linter.unusedVariables false
set_option linter.unusedSimpArgs false
def resNat : Option Nat → Int × Bool
 | none => (0, false)
 | some n => (n, true)
theorem numL_nodig {m : Nat} {l : List UInt8} (h : l.all isDig = false) : numL m l = none := by
 unfold numL
 rw [if_neg (fun h' => by rw [h] at h'; cases h'.2.1)]
theorem numL_long {m : Nat} {l : List UInt8} (h : ¬ l.length ≤ m) : numL m l = none := by
 unfold numL
 rw [if_neg (fun h' => h h'.1)]
def ntL (a b c d : Int) (t : ByteArray) : List UInt8 := decL a.toNat ++ [32] ++ decL b.toNat ++ [32] ++ decL c.toNat ++ [32] ++ decL d.toNat ++ [32] ++ tx t
def nwB (a b c d : Int) (t : ByteArray) : ByteArray := cond (ntOk a b c d t) (ba (ntL a b c d t)) (ByteArray.mk #[])
theorem ntOk_some {a b c d : Int} {t : ByteArray} (h : ntOk a b c d t = true) : (0 ≤ a ∧ a ≤ 3) ∧ (1 ≤ b ∧ b ≤ 99) ∧ (0 ≤ c ∧ c ≤ 3) ∧ (1 ≤ d ∧ d ≤ 999) ∧ (1 ≤ t.size ∧ t.size ≤ 24) ∧ (tx t).all chOk = true := by
 simp only [ntOk, txOk, Bool.and_eq_true, inB_iff] at h
 obtain ⟨⟨⟨⟨h1, h2⟩, h3⟩, h4⟩, h5, h6⟩ := h
 exact ⟨h1, h3, h2, h4, ⟨by omega, by omega⟩, h6⟩
theorem ntL_length {a b c d : Int} {t : ByteArray} (h : ntOk a b c d t = true) : (ntL a b c d t).length ≤ 35 := by
 obtain ⟨h1, h2, h3, h4, h5, _⟩ := ntOk_some h
 have e1 := decL_length (n := a.toNat) (d := 0) (by omega)
 have e2 := decL_length (n := b.toNat) (d := 1) (by omega)
 have e3 := decL_length (n := c.toNat) (d := 0) (by omega)
 have e4 := decL_length (n := d.toNat) (d := 2) (by omega)
 have e5 := tx_length t
 simp only [ntL, List.length_append, List.length_cons, List.length_nil]
 omega
end Go.Ev
