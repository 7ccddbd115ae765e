/- More words for shelves: plain facts, with no Go in sight. No condition beyond those that stand in each. -/
import Derived.Test.YtidmkpeokahjoaaDoorPur
namespace Go.Ev
set_option linter.unusedVariables false
set_option linter.unusedSimpArgs false
def addL (t : ByteArray) (f : Int) (rec : ByteArray) : ByteArray × Int × Bool :=
  cond (!okL t f) (ByteArray.mk #[], 0, false) (cond (!inB (rec.size : Int) 1 60) (t, f, false) (cond (decide (2400 < t.size + (ba (recL (tx rec))).size)) (t, f, false) (t ++ ba (recL (tx rec)), f, true)))
def resNat : Option Nat → Int × Bool
  | none => (0, false)
  | some n => (n, true)
theorem w64_p3 (a : Nat) (h : a < 4611686018427387904) : w64 ((a : Int) + 3) = ((a + 3 : Nat) : Int) := w64_id (x := (a : Int) + 3) (by omega) (by omega)
theorem numL_nodig {m : Nat} {l : List UInt8} (h : l.all isDig = false) : numL m l = none := by
  unfold numL
  rw [if_neg (fun h' => by rw [h] at h'; cases h'.2.1)]
theorem numL_long {m : Nat} {l : List UInt8} (h : ¬ l.length ≤ m) : numL m l = none := by
  unfold numL
  rw [if_neg (fun h' => h h'.1)]
end Go.Ev
