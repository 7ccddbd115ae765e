/- Words for keepers: plain facts. No condition beyond those that stand in each. -/
import Derived.Test.YtmeeloeielallaaGreatDoorPus
namespace Go.Ev
set_option linter.unusedVariables false
set_option linter.unusedSimpArgs false
abbrev nd : Int × Int × Int × Int × ByteArray := ((0 : Int), (0 : Int), (0 : Int), (0 : Int), ByteArray.empty)
abbrev md : Int × Int × Int := ((0 : Int), (0 : Int), (0 : Int))
theorem idx_loop {R : Type} (N : Nat) (P : Nat → Bool) (X F : Option R) (L : Nat → Int → Option R) (hs : ∀ n i : Nat, i < N → L (n + 1) (i : Int) = cond (P i) (L n ((i + 1 : Nat) : Int)) F) (he : ∀ n, L (n + 1) (N : Int) = X) : ∀ n, N < n → L n ((0 : Nat) : Int) = cond ((List.range' 0 N).all P) X F := by
 have key : ∀ d i n : Nat, i + d = N → d < n → L n (i : Int) = cond ((List.range' i d).all P) X F := by
   intro d
   induction d with
   | zero =>
     intro i n h1 h2
     obtain ⟨n, rfl⟩ := Nat.exists_eq_succ_of_ne_zero (n := n) (by omega)
     have : i = N := by omega
     subst this
     exact he n
   | succ d ih =>
     intro i n h1 h2
     obtain ⟨n, rfl⟩ := Nat.exists_eq_succ_of_ne_zero (n := n) (by omega)
     rw [hs n i (by omega), ih (i + 1) n (by omega) (by omega), List.range'_succ, List.all_cons]
     cases P i <;> rfl
 intro n hn
 exact key N 0 n (by omega) hn
theorem idx_all {N : Nat} {P : Nat → Bool} (h : (List.range' 0 N).all P = true) {i : Nat} (hi : i < N) : P i = true := List.all_eq_true.1 h i (by rw [List.mem_range'_1]; omega)
def lessB (a b c d : Int) : Bool := cond (decide (a < c)) true (cond (decide (a = c)) (decide (b < d)) false)
def noteP (l : List (Int × Int × Int × Int × ByteArray)) (i : Nat) : Bool :=
 ntOk (l.getD i nd).1 (l.getD i nd).2.1 (l.getD i nd).2.2.1 (l.getD i nd).2.2.2.1 (l.getD i nd).2.2.2.2 && cond (decide (0 < i)) (lessB (l.getD (i - 1) nd).1 (l.getD (i - 1) nd).2.1 (l.getD i nd).1 (l.getD i nd).2.1) true
def markOkB (m : Int × Int × Int) : Bool := inB m.1 0 3 && (inB m.2.1 1 99 && inB m.2.2 1 999)
def markP (l : List (Int × Int × Int)) (i : Nat) : Bool :=
 markOkB (l.getD i md) && cond (decide (0 < i)) (lessB (l.getD (i - 1) md).1 (l.getD (i - 1) md).2.1 (l.getD i md).1 (l.getD i md).2.1) true
def hasM (l : List (Int × Int × Int)) (fr nu : Int) : Bool := l.any fun m => decide (m.1 = fr) && decide (m.2.1 = nu)
def wayB (fr dst id : Int) : Bool := (decide (fr ≤ id) && decide (id < dst)) || (decide (dst < id) && decide (id ≤ fr))
def heldP (id now next : Int) (held : List (Int × Int × Int × Int × ByteArray)) (marks : List (Int × Int × Int)) (i : Nat) : Bool :=
 !decide ((held.getD i nd).2.2.2.1 ≤ now) && (wayB (held.getD i nd).1 (held.getD i nd).2.2.1 id && (!(decide ((held.getD i nd).1 = id) && decide (next ≤ (held.getD i nd).2.1)) && !hasM marks (held.getD i nd).1 (held.getD i nd).2.1))
def markQ (id now next : Int) (marks : List (Int × Int × Int)) (i : Nat) : Bool :=
 !decide ((marks.getD i md).2.2 ≤ now) && !(decide ((marks.getD i md).1 = id) && decide (next ≤ (marks.getD i md).2.1))
def inbP (id now next : Int) (inbox : List (Int × Int × Int × Int × ByteArray)) (marks : List (Int × Int × Int)) (i : Nat) : Bool :=
 decide ((inbox.getD i nd).2.2.1 = id) && (!(decide ((inbox.getD i nd).1 = id) && decide (next ≤ (inbox.getD i nd).2.1)) && (!decide (now < (inbox.getD i nd).2.2.2.1) || hasM marks (inbox.getD i nd).1 (inbox.getD i nd).2.1))
def keepB (id now next : Int) (held : List (Int × Int × Int × Int × ByteArray)) (marks : List (Int × Int × Int)) (inbox : List (Int × Int × Int × Int × ByteArray)) : Bool :=
 inB id 0 3 && (inB now 0 999 && (inB next 1 100 && (decide (held.length ≤ 6) && ((List.range' 0 held.length).all (noteP held) && (decide (marks.length ≤ 12) && ((List.range' 0 marks.length).all (markP marks) && (decide (inbox.length ≤ 6) && ((List.range' 0 inbox.length).all (noteP inbox) &&
   ((List.range' 0 held.length).all (heldP id now next held marks) && ((List.range' 0 marks.length).all (markQ id now next marks) && (List.range' 0 inbox.length).all (inbP id now next inbox marks)))))))))))
theorem keepB_some {id now next : Int} {held : List (Int × Int × Int × Int × ByteArray)} {marks : List (Int × Int × Int)} {inbox : List (Int × Int × Int × Int × ByteArray)} (h : keepB id now next held marks inbox = true) :
   (0 ≤ now ∧ now ≤ 999) ∧ (1 ≤ next ∧ next ≤ 100) ∧ held.length ≤ 6 ∧ marks.length ≤ 12 ∧ inbox.length ≤ 6 ∧ (∀ m ∈ marks, markOkB m = true) := by
 simp only [keepB, Bool.and_eq_true, inB_iff, decide_eq_true_eq] at h
 obtain ⟨_, h2, h3, h4, _, h6, h7, h8, _⟩ := h
 refine ⟨h2, h3, h4, h6, h8, fun m hm => ?_⟩
 obtain ⟨i, hi, rfl⟩ := List.mem_iff_getElem.1 hm
 have := idx_all h7 hi
 simp only [markP, Bool.and_eq_true] at this
 rw [getD_at hi] at this
 exact this.1
theorem nwB_small (a b c d : Int) (t : ByteArray) : (nwB a b c d t).size ≤ 35 := by
 unfold nwB
 cases ho : ntOk a b c d t with
 | false => show (0 : Nat) ≤ 35; omega
 | true => rw [cond_true, ba_size]; exact ntL_length ho
end Go.Ev
