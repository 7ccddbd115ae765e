/- The Go functions as plain functions, and that the evaluator comes to them. No condition. Written by a program of this session. -/
import Derived.Test.YtmeeloeielallaaGreatDoorProg
import Derived.Test.YtmeeloeielallaaGreatDoorEv
import Derived.KernelRfl
import Derived.Lib.CutLaws
import Derived.Lib.ItoaNum
import Derived.Lib.Split
import Derived.Lib.SplitLaws
namespace Go.Ev.F
open Go.Proofs
set_option linter.unusedVariables false
set_option maxRecDepth 100000
variable {R : Type}
noncomputable def E : Env := ⟨Tryz.prog, []⟩
theorem seqN {R : Type} {f : St → Option R} {K : Kont R} {st : St} {r : Option R} (h : f st = r) : seqK f K .normal st = r := h
abbrev q5 : List Sc := [.int .i64, .int .i64, .int .i64, .int .i64, .str]
abbrev q3 : List Sc := [.int .i64, .int .i64, .int .i64]
abbrev L5 := List (Int × Int × Int × Int × ByteArray)
abbrev L3 := List (Int × Int × Int)
abbrev si (x : Int) : Cell := .s (.int .i64 x)
abbrev ri (x : Int) : PC := .s (.int .i64 x)
abbrev n5 : Int × Int × Int × Int × ByteArray := (0, 0, 0, 0, ByteArray.empty)
abbrev n3 : Int × Int × Int := (0, 0, 0)
/-! ### impl_in: function 53 -/
namespace impl_in
abbrev T (R : Type) : Type := Int → Int → Int → (Bool → Option R) → Option R
def con (f : T R) : Con R := ⟨[], fun args K => match args with
 | [.val false [.s (.int .i64 a0)], .val false [.s (.int .i64 a1)], .val false [.s (.int .i64 a2)]] => f a0 a1 a2 (fun r1 => K ⟨[.val false [.s (.bool r1)]], []⟩)
 | _ => none⟩
structure Cs (R : Type) where
  none_ : Unit := ()
def G (g : Cs R) : Cons R := []
def H : List (Nat × Meet) := []
variable (g : Cs R) (k : Nat)
def b (g : Cs R) (k : Nat) (a0 a1 a2 : Int) (K : Bool → Option R) : Option R :=
 cond (decide (a1 ≤ a0)) (K (decide (a0 ≤ a2))) (K false)
theorem evs (a0 a1 a2 : Int) (KF : Ret → Option R) : evFunc E (G g) k H [] false Tryz.f53 [.val false [ri a0], .val false [ri a1], .val false [ri a2]] KF = b g k a0 a1 a2 (fun r1 => KF ⟨[.val false [.s (.bool r1)]], []⟩) :=
 by kernel_rfl
end impl_in
namespace impl_in
def g (k : Nat) : Cs R := ⟨()⟩
def c (k : Nat) : T R := b (g k) k
end impl_in
/-! ### impl_isNode: function 27 -/
namespace impl_isNode
abbrev T (R : Type) : Type := Int → (Bool → Option R) → Option R
def con (f : T R) : Con R := ⟨[], fun args K => match args with
 | [.val false [.s (.int .i64 a0)]] => f a0 (fun r1 => K ⟨[.val false [.s (.bool r1)]], []⟩)
 | _ => none⟩
structure Cs (R : Type) where
  none_ : Unit := ()
  f53 : impl_in.T R
def G (g : Cs R) : Cons R := [(53, impl_in.con g.f53)]
def H : List (Nat × Meet) := []
variable (g : Cs R) (k : Nat)
def b (g : Cs R) (k : Nat) (a0 : Int) (K : Bool → Option R) : Option R :=
 g.f53 a0 0 3 (fun r1 => K r1)
theorem evs (a0 : Int) (KF : Ret → Option R) : evFunc E (G g) k H [] false Tryz.f27 [.val false [ri a0]] KF = b g k a0 (fun r1 => KF ⟨[.val false [.s (.bool r1)]], []⟩) :=
 by kernel_rfl
end impl_isNode
namespace impl_isNode
def g (k : Nat) : Cs R := ⟨(), impl_in.c k⟩
def c (k : Nat) : T R := b (g k) k
end impl_isNode
/-! ### impl_textOk: function 107 -/
namespace impl_textOk
abbrev T (R : Type) : Type := ByteArray → (Bool → Option R) → Option R
def con (f : T R) : Con R := ⟨[], fun args K => match args with
 | [.val false [.s (.string a0)]] => f a0 (fun r1 => K ⟨[.val false [.s (.bool r1)]], []⟩)
 | _ => none⟩
structure Cs (R : Type) where
  none_ : Unit := ()
  f53 : impl_in.T R
def G (g : Cs R) : Cons R := [(53, impl_in.con g.f53)]
def H : List (Nat × Meet) := [(2, ⟨[(0, [])], []⟩), (12, ⟨[(0, []), (3, [])], []⟩), (15, ⟨[(2, [])], []⟩), (26, ⟨[(0, []), (3, [])], []⟩), (211, ⟨[(0, []), (3, [])], []⟩), (419, ⟨[(0, [])], []⟩), (3365, ⟨[(2, [])], []⟩)]
abbrev S1 (x1 : ByteArray) : St := mkSt [(0, .c (.s (.string x1)))] []
abbrev S2 (x1 : ByteArray) (x2 : Int) : St := mkSt [(0, .c (.s (.string x1))), (3, .c (si x2))] []
abbrev S3 (x1 : Bool) : St := mkSt [(2, .c (.s (.bool x1)))] []
noncomputable abbrev V (g : Cs R) (k : Nat) (K : Kont R) (b : List Bool) (p : Nat) (st : St) : Option R := ev E (G g) k H (nodeAt (bodyOf Tryz.f107) b) p st K
noncomputable abbrev U (g : Cs R) (k : Nat) (n : Nat) (b : List Bool) : Nat → St → (St → Option R) → Kont R → Option R := evPre E (G g) k H n (nodeAt (bodyOf Tryz.f107) b)
noncomputable abbrev W (g : Cs R) (k : Nat) (b : List Bool) (p : Nat) : St → Kont R → Option R := ev E (G g) k H (nodeAt (bodyOf Tryz.f107) b) p
variable (g : Cs R) (k : Nat)
def s1 (g : Cs R) (k : Nat) (a0 : ByteArray) (j : Option R) : Option R :=
 j
theorem s1_ev (a0 : ByteArray) (X : St → Option R) (K : Kont R) : U g k 1 [] 1 (S1 a0) X K = s1 g k a0 (X (S1 a0)) := by kernel_rfl
def s2 (g : Cs R) (k : Nat) (a0 : ByteArray) (j : Int → Option R) : Option R :=
 j 0
theorem s2_ev (a0 : ByteArray) (X : St → Option R) (K : Kont R) : U g k 1 [true, false] 6 (S1 a0) X K = s2 g k a0 (fun z0 => X (S2 a0 z0)) := by kernel_rfl
def s3 (g : Cs R) (k : Nat) (a0 : ByteArray) (z1 : Int) (j : Int → Option R) (x0 : Option R) (q : Bool → Option R) : Option R :=
 cond (decide (z1 < (a0.size : Int))) (cond (decide (0 ≤ z1) && decide (z1 < (a0.size : Int))) (g.f53 (IntKind.wrap .i64 ((byteAt a0 z1.toNat))) 32 126 (fun r1 => cond (!r1) (q false) (j (IntKind.wrap .i64 (z1 + 1))))) none) (x0)
theorem s3_ev (a0 : ByteArray) (z1 : Int) (K : Kont R) : V g k K [true, false, true, false, false] 52 (S2 a0 z1) = s3 g k a0 z1 (fun z2 => K .normal (S2 a0 z2)) (K (.exit 0) (S1 a0)) (fun z3 => K .ret (S3 z3)) := by kernel_rfl
def l4r (g : Cs R) (k : Nat) (a0 : ByteArray) (x0 : Option R) (q : Bool → Option R) : Nat → Int → Option R
 | 0, _ => none
 | n + 1, z1 => s3 g k a0 z1 (fun z2 => l4r g k a0 x0 q n z2) (x0) (fun z3 => q z3)
def l4 (g : Cs R) (k : Nat) (a0 : ByteArray) (z0 : Int) (x0 : Option R) (q : Bool → Option R) : Option R := l4r g k a0 x0 q k z0
theorem l4r_ev (a0 : ByteArray) (K : Kont R) : ∀ (n : Nat) (z1 : Int), evLoop (W g k [true, false, true, false, false] 52) (atMeet H 26) K n (S2 a0 z1) = l4r g k a0 (K (.exit 0) (S1 a0)) (fun z4 => K .ret (S3 z4)) n z1 := by
 intro n
 induction n with
 | zero => intros; rfl
 | succ n ih =>
  intro z1
  exact Eq.trans (by kernel_rfl) ((s3_ev g k a0 z1 (loopK (W g k [true, false, true, false, false] 52) (atMeet H 26) K n)).trans (Eq.trans (by kernel_rfl) (congrArg (fun f_ => s3 g k a0 z1 f_ (K (.exit 0) (S1 a0)) (fun z3 => K .ret (S3 z3))) (funext fun (z2 : Int) => (ih z2)))))
theorem l4_ev (a0 : ByteArray) (z0 : Int) (K : Kont R) : V g k K [true, false, true, false] 26 (S2 a0 z0) = l4 g k a0 z0 (K (.exit 0) (S1 a0)) (fun z4 => K .ret (S3 z4)) :=
 Eq.trans (by kernel_rfl) (l4r_ev g k a0 K k z0)
def b5 (g : Cs R) (k : Nat) (a0 : ByteArray) (z0 : Int) (j : Option R) (q : Bool → Option R) : Option R :=
 l4 g k a0 z0 (j) (fun z4 => q z4)
theorem b5_ev (a0 : ByteArray) (z0 : Int) (K : Kont R) : V g k K [true, false, true] 13 (S2 a0 z0) = b5 g k a0 z0 (K .normal (S1 a0)) (fun z5 => K .ret (S3 z5)) :=
 Eq.trans (by kernel_rfl) ((l4_ev g k a0 z0 (blockK 0 (fun st => K .normal (atMeet H 13 st)) K)).trans (by kernel_rfl))
def c6 (g : Cs R) (k : Nat) (a0 : ByteArray) (j : Option R) (q : Bool → Option R) : Option R :=
 s2 g k a0 (fun z0 => b5 g k a0 z0 (j) (fun z5 => q z5))
theorem c6_ev (a0 : ByteArray) (K : Kont R) : V g k K [true, false] 6 (S1 a0) = c6 g k a0 (K .normal (S1 a0)) (fun z6 => K .ret (S3 z6)) :=
 (Eq.trans (by kernel_rfl) (s2_ev g k a0 (V g k K [true, false, true] 13) K)).trans (congrArg (fun f_ => s2 g k a0 f_) (funext fun (z0 : Int) => (b5_ev g k a0 z0 K)))
def s7 (g : Cs R) (k : Nat) (a0 : ByteArray) (q : Bool → Option R) : Option R :=
 g.f53 (a0.size : Int) 1 24 (fun r1 => q r1)
theorem s7_ev (a0 : ByteArray) (K : Kont R) : V g k K [true, true] 7 (S1 a0) = s7 g k a0 (fun z7 => K .ret (S3 z7)) := by kernel_rfl
def c8 (g : Cs R) (k : Nat) (a0 : ByteArray) (q : Bool → Option R) : Option R :=
 c6 g k a0 (s7 g k a0 (fun z7 => q z7)) (fun z6 => q z6)
theorem c8_ev (a0 : ByteArray) (K : Kont R) : V g k K [true] 3 (S1 a0) = c8 g k a0 (fun z8 => K .ret (S3 z8)) :=
 (Eq.trans (by kernel_rfl) (c6_ev g k a0 (seqK (V g k K [true, true] 7) K))).trans (congrArg (fun f_ => c6 g k a0 f_ (fun z6 => K .ret (S3 z6))) (seqN (f := (V g k K [true, true] 7)) (K := K) (s7_ev g k a0 K)))
def c9 (g : Cs R) (k : Nat) (a0 : ByteArray) (q : Bool → Option R) : Option R :=
 s1 g k a0 (c8 g k a0 (fun z8 => q z8))
theorem c9_ev (a0 : ByteArray) (K : Kont R) : V g k K [] 1 (S1 a0) = c9 g k a0 (fun z9 => K .ret (S3 z9)) :=
 (Eq.trans (by kernel_rfl) (s1_ev g k a0 (V g k K [true] 3) K)).trans (congrArg (fun f_ => s1 g k a0 f_) (c8_ev g k a0 K))
def b (g : Cs R) (k : Nat) (a0 : ByteArray) (K : Bool → Option R) : Option R :=
 c9 g k a0 (fun z9 => K z9)
theorem evs (a0 : ByteArray) (KF : Ret → Option R) : evFunc E (G g) k H [] false Tryz.f107 [.val false [.s (.string a0)]] KF = b g k a0 (fun r1 => KF ⟨[.val false [.s (.bool r1)]], []⟩) :=
 Eq.trans (by kernel_rfl) ((c9_ev g k a0 (fin E.P false Tryz.f107 [] KF)).trans (by kernel_rfl))
end impl_textOk
namespace impl_textOk
def g (k : Nat) : Cs R := ⟨(), impl_in.c k⟩
def c (k : Nat) : T R := b (g k) k
end impl_textOk
/-! ### impl_NoteOk: function 92 -/
namespace impl_NoteOk
abbrev T (R : Type) : Type := Int → Int → Int → Int → ByteArray → (Bool → Option R) → Option R
def con (f : T R) : Con R := ⟨[], fun args K => match args with
 | [.val true [.s (.int .i64 A), .s (.int .i64 B), .s (.int .i64 C), .s (.int .i64 D), .s (.string F)]] => f A B C D F (fun r1 => K ⟨[.val false [.s (.bool r1)]], []⟩)
 | _ => none⟩
structure Cs (R : Type) where
  none_ : Unit := ()
  f27 : impl_isNode.T R
  f53 : impl_in.T R
  f107 : impl_textOk.T R
def G (g : Cs R) : Cons R := [(27, impl_isNode.con g.f27), (53, impl_in.con g.f53), (107, impl_textOk.con g.f107)]
def H : List (Nat × Meet) := []
variable (g : Cs R) (k : Nat)
def b (g : Cs R) (k : Nat) (A B C D : Int) (F : ByteArray) (K : Bool → Option R) : Option R :=
 g.f27 A (fun r1 => cond r1 (g.f27 C (fun r2 => cond r2 (g.f53 B 1 99 (fun r3 => cond r3 (g.f53 D 1 999 (fun r4 => cond r4 (g.f107 F (fun r5 => K r5)) (K false))) (K false))) (K false))) (K false))
theorem evs (A B C D : Int) (F : ByteArray) (KF : Ret → Option R) : evFunc E (G g) k H [] false Tryz.f92 [.val true [ri A, ri B, ri C, ri D, .s (.string F)]] KF = b g k A B C D F (fun r1 => KF ⟨[.val false [.s (.bool r1)]], []⟩) :=
 by kernel_rfl
end impl_NoteOk
namespace impl_NoteOk
def g (k : Nat) : Cs R := ⟨(), impl_isNode.c k, impl_in.c k, impl_textOk.c k⟩
def c (k : Nat) : T R := b (g k) k
end impl_NoteOk
/-! ### impl_before: function 93 -/
namespace impl_before
abbrev T (R : Type) : Type := Int → Int → Int → Int → (Bool → Option R) → Option R
def con (f : T R) : Con R := ⟨[], fun args K => match args with
 | [.val false [.s (.int .i64 a0)], .val false [.s (.int .i64 a1)], .val false [.s (.int .i64 a2)], .val false [.s (.int .i64 a3)]] => f a0 a1 a2 a3 (fun r1 => K ⟨[.val false [.s (.bool r1)]], []⟩)
 | _ => none⟩
structure Cs (R : Type) where
  none_ : Unit := ()
def G (g : Cs R) : Cons R := []
def H : List (Nat × Meet) := []
variable (g : Cs R) (k : Nat)
def b (g : Cs R) (k : Nat) (a0 a1 a2 a3 : Int) (K : Bool → Option R) : Option R :=
 cond (decide (a0 < a2)) (K true) (cond (decide (a0 = a2)) (K (decide (a1 < a3))) (K false))
theorem evs (a0 a1 a2 a3 : Int) (KF : Ret → Option R) : evFunc E (G g) k H [] false Tryz.f93 [.val false [ri a0], .val false [ri a1], .val false [ri a2], .val false [ri a3]] KF = b g k a0 a1 a2 a3 (fun r1 => KF ⟨[.val false [.s (.bool r1)]], []⟩) :=
 by kernel_rfl
end impl_before
namespace impl_before
def g (k : Nat) : Cs R := ⟨()⟩
def c (k : Nat) : T R := b (g k) k
end impl_before
/-! ### impl_notesOk: function 54 -/
namespace impl_notesOk
abbrev T (R : Type) : Type := (L5) → (Bool → Option R) → Option R
def con (f : T R) : Con R := ⟨[], fun args K => match args with
 | [.val false [pa0]] => withRow q5 pa0 fun a0 => f a0 (fun r1 => K ⟨[.val false [.s (.bool r1)]], []⟩)
 | _ => none⟩
structure Cs (R : Type) where
  none_ : Unit := ()
  f92 : impl_NoteOk.T R
  f93 : impl_before.T R
def G (g : Cs R) : Cons R := [(92, impl_NoteOk.con g.f92), (93, impl_before.con g.f93)]
def H : List (Nat × Meet) := [(2, ⟨[(0, [(0, q5)])], []⟩), (12, ⟨[(0, [(0, q5)]), (5, [(0, q5)]), (6, []), (7, [])], []⟩), (15, ⟨[(2, [])], []⟩), (26, ⟨[(0, [(0, q5)]), (5, [(0, q5)]), (6, []), (7, [])], []⟩), (421, ⟨[], []⟩), (423, ⟨[(0, [(0, q5)]), (5, [(0, q5)]), (6, []), (7, [])], []⟩), (13517, ⟨[(2, [])], []⟩)]
abbrev S1 (x1 : L5) : St := mkSt [(0, .c (.sl 0))] [(0, .row .ro q5 x1)]
abbrev S2 (x1 x2 : Int) (x3 : L5) : St := mkSt [(0, .c (.sl 0)), (5, .c (.sl 0)), (6, .c (si x1)), (7, .c (si x2))] [(0, .row .ro q5 x3)]
abbrev S3 : St := mkSt [] []
abbrev S4 (x1 : Bool) : St := mkSt [(2, .c (.s (.bool x1)))] []
noncomputable abbrev V (g : Cs R) (k : Nat) (K : Kont R) (b : List Bool) (p : Nat) (st : St) : Option R := ev E (G g) k H (nodeAt (bodyOf Tryz.f54) b) p st K
noncomputable abbrev U (g : Cs R) (k : Nat) (n : Nat) (b : List Bool) : Nat → St → (St → Option R) → Kont R → Option R := evPre E (G g) k H n (nodeAt (bodyOf Tryz.f54) b)
noncomputable abbrev W (g : Cs R) (k : Nat) (b : List Bool) (p : Nat) : St → Kont R → Option R := ev E (G g) k H (nodeAt (bodyOf Tryz.f54) b) p
variable (g : Cs R) (k : Nat)
def s1 (g : Cs R) (k : Nat) (a0 : L5) (j : Option R) : Option R :=
 j
theorem s1_ev (a0 : L5) (X : St → Option R) (K : Kont R) : U g k 1 [] 1 (S1 a0) X K = s1 g k a0 (X (S1 a0)) := by kernel_rfl
def s2 (g : Cs R) (k : Nat) (a0 : L5) (j : Int → Int → Option R) : Option R :=
 j (a0.length : Int) 0
theorem s2_ev (a0 : L5) (X : St → Option R) (K : Kont R) : U g k 1 [true, false] 6 (S1 a0) X K = s2 g k a0 (fun z0 z1 => X (S2 z0 z1 a0)) := by kernel_rfl
def s3 (g : Cs R) (k : Nat) (z0 z2 : Int) (a0 : L5) (j : Int → Option R) (x0 : Option R) (q : Bool → Option R) : Option R :=
 cond (decide (z2 < z0)) (cond (decide (0 ≤ z2) && decide (z2 < (a0.length : Int))) (g.f92 ((a0.getD z2.toNat n5).1) ((a0.getD z2.toNat n5).2.1) ((a0.getD z2.toNat n5).2.2.1) ((a0.getD z2.toNat n5).2.2.2.1) ((a0.getD z2.toNat n5).2.2.2.2) (fun r1 => cond (!r1) (q false) (cond (decide ((0 : Int) < z2)) (cond (decide (0 ≤ (IntKind.wrap .i64 (z2 - 1))) && decide ((IntKind.wrap .i64 (z2 - 1)) < (a0.length : Int))) (let y2 := (a0.getD ((IntKind.wrap .i64 (z2 - 1)).toNat) n5).1; cond (decide (0 ≤ (IntKind.wrap .i64 (z2 - 1))) && decide ((IntKind.wrap .i64 (z2 - 1)) < (a0.length : Int))) (let y3 := (a0.getD ((IntKind.wrap .i64 (z2 - 1)).toNat) n5).2.1; let y4 := (a0.getD z2.toNat n5).1; let y5 := (a0.getD z2.toNat n5).2.1; g.f93 y2 y3 y4 y5 (fun r6 => cond (!r6) (q false) (j (IntKind.wrap .i64 (z2 + 1))))) none) none) (j (IntKind.wrap .i64 (z2 + 1)))))) none) (x0)
theorem s3_ev (z0 z2 : Int) (a0 : L5) (K : Kont R) : V g k K [true, false, true, false, false] 52 (S2 z0 z2 a0) = s3 g k z0 z2 a0 (fun z3 => K .normal (S2 z0 z3 a0)) (K (.exit 0) S3) (fun z4 => K .ret (S4 z4)) := by kernel_rfl
def l4r (g : Cs R) (k : Nat) (z0 : Int) (a0 : L5) (x0 : Option R) (q : Bool → Option R) : Nat → Int → Option R
 | 0, _ => none
 | n + 1, z2 => s3 g k z0 z2 a0 (fun z3 => l4r g k z0 a0 x0 q n z3) (x0) (fun z4 => q z4)
def l4 (g : Cs R) (k : Nat) (z0 z1 : Int) (a0 : L5) (x0 : Option R) (q : Bool → Option R) : Option R := l4r g k z0 a0 x0 q k z1
theorem l4r_ev (z0 : Int) (a0 : L5) (K : Kont R) : ∀ (n : Nat) (z2 : Int), evLoop (W g k [true, false, true, false, false] 52) (atMeet H 26) K n (S2 z0 z2 a0) = l4r g k z0 a0 (K (.exit 0) S3) (fun z5 => K .ret (S4 z5)) n z2 := by
 intro n
 induction n with
 | zero => intros; rfl
 | succ n ih =>
  intro z2
  exact Eq.trans (by kernel_rfl) ((s3_ev g k z0 z2 a0 (loopK (W g k [true, false, true, false, false] 52) (atMeet H 26) K n)).trans (Eq.trans (by kernel_rfl) (congrArg (fun f_ => s3 g k z0 z2 a0 f_ (K (.exit 0) S3) (fun z4 => K .ret (S4 z4))) (funext fun (z3 : Int) => (ih z3)))))
theorem l4_ev (z0 z1 : Int) (a0 : L5) (K : Kont R) : V g k K [true, false, true, false] 26 (S2 z0 z1 a0) = l4 g k z0 z1 a0 (K (.exit 0) S3) (fun z5 => K .ret (S4 z5)) :=
 Eq.trans (by kernel_rfl) (l4r_ev g k z0 a0 K k z1)
def b5 (g : Cs R) (k : Nat) (z0 z1 : Int) (a0 : L5) (j : Option R) (q : Bool → Option R) : Option R :=
 l4 g k z0 z1 a0 (j) (fun z5 => q z5)
theorem b5_ev (z0 z1 : Int) (a0 : L5) (K : Kont R) : V g k K [true, false, true] 13 (S2 z0 z1 a0) = b5 g k z0 z1 a0 (K .normal S3) (fun z6 => K .ret (S4 z6)) :=
 Eq.trans (by kernel_rfl) ((l4_ev g k z0 z1 a0 (blockK 0 (fun st => K .normal (atMeet H 13 st)) K)).trans (by kernel_rfl))
def c6 (g : Cs R) (k : Nat) (a0 : L5) (j : Option R) (q : Bool → Option R) : Option R :=
 s2 g k a0 (fun z0 z1 => b5 g k z0 z1 a0 (j) (fun z6 => q z6))
theorem c6_ev (a0 : L5) (K : Kont R) : V g k K [true, false] 6 (S1 a0) = c6 g k a0 (K .normal S3) (fun z7 => K .ret (S4 z7)) :=
 (Eq.trans (by kernel_rfl) (s2_ev g k a0 (V g k K [true, false, true] 13) K)).trans (congrArg (fun f_ => s2 g k a0 f_) (funext fun (z0 : Int) => (funext fun (z1 : Int) => (b5_ev g k z0 z1 a0 K))))
def s7 (g : Cs R) (k : Nat)  (q : Bool → Option R) : Option R :=
 q true
theorem s7_ev  (K : Kont R) : V g k K [true, true] 7 S3 = s7 g k (fun z8 => K .ret (S4 z8)) := by kernel_rfl
def c8 (g : Cs R) (k : Nat) (a0 : L5) (q : Bool → Option R) : Option R :=
 c6 g k a0 (s7 g k (fun z8 => q z8)) (fun z7 => q z7)
theorem c8_ev (a0 : L5) (K : Kont R) : V g k K [true] 3 (S1 a0) = c8 g k a0 (fun z9 => K .ret (S4 z9)) :=
 (Eq.trans (by kernel_rfl) (c6_ev g k a0 (seqK (V g k K [true, true] 7) K))).trans (congrArg (fun f_ => c6 g k a0 f_ (fun z7 => K .ret (S4 z7))) (seqN (f := (V g k K [true, true] 7)) (K := K) (s7_ev g k K)))
def c9 (g : Cs R) (k : Nat) (a0 : L5) (q : Bool → Option R) : Option R :=
 s1 g k a0 (c8 g k a0 (fun z9 => q z9))
theorem c9_ev (a0 : L5) (K : Kont R) : V g k K [] 1 (S1 a0) = c9 g k a0 (fun z10 => K .ret (S4 z10)) :=
 (Eq.trans (by kernel_rfl) (s1_ev g k a0 (V g k K [true] 3) K)).trans (congrArg (fun f_ => s1 g k a0 f_) (c8_ev g k a0 K))
def b (g : Cs R) (k : Nat) (a0 : L5) (K : Bool → Option R) : Option R :=
 c9 g k a0 (fun z10 => K z10)
theorem evs (a0 : L5) (KF : Ret → Option R) : evFunc E (G g) k H [] false Tryz.f54 [.val false [.row .ro q5 a0]] KF = b g k a0 (fun r1 => KF ⟨[.val false [.s (.bool r1)]], []⟩) :=
 Eq.trans (by kernel_rfl) ((c9_ev g k a0 (fin E.P false Tryz.f54 [] KF)).trans (by kernel_rfl))
end impl_notesOk
namespace impl_notesOk
def g (k : Nat) : Cs R := ⟨(), impl_NoteOk.c k, impl_before.c k⟩
def c (k : Nat) : T R := b (g k) k
end impl_notesOk
/-! ### impl_markOk: function 94 -/
namespace impl_markOk
abbrev T (R : Type) : Type := Int → Int → Int → (Bool → Option R) → Option R
def con (f : T R) : Con R := ⟨[], fun args K => match args with
 | [.val true [.s (.int .i64 A), .s (.int .i64 B), .s (.int .i64 C)]] => f A B C (fun r1 => K ⟨[.val false [.s (.bool r1)]], []⟩)
 | _ => none⟩
structure Cs (R : Type) where
  none_ : Unit := ()
  f27 : impl_isNode.T R
  f53 : impl_in.T R
def G (g : Cs R) : Cons R := [(27, impl_isNode.con g.f27), (53, impl_in.con g.f53)]
def H : List (Nat × Meet) := []
variable (g : Cs R) (k : Nat)
def b (g : Cs R) (k : Nat) (A B C : Int) (K : Bool → Option R) : Option R :=
 g.f27 A (fun r1 => cond r1 (g.f53 B 1 99 (fun r2 => cond r2 (g.f53 C 1 999 (fun r3 => K r3)) (K false))) (K false))
theorem evs (A B C : Int) (KF : Ret → Option R) : evFunc E (G g) k H [] false Tryz.f94 [.val true [ri A, ri B, ri C]] KF = b g k A B C (fun r1 => KF ⟨[.val false [.s (.bool r1)]], []⟩) :=
 by kernel_rfl
end impl_markOk
namespace impl_markOk
def g (k : Nat) : Cs R := ⟨(), impl_isNode.c k, impl_in.c k⟩
def c (k : Nat) : T R := b (g k) k
end impl_markOk
/-! ### impl_marksOk: function 55 -/
namespace impl_marksOk
abbrev T (R : Type) : Type := (L3) → (Bool → Option R) → Option R
def con (f : T R) : Con R := ⟨[], fun args K => match args with
 | [.val false [pa0]] => withRow q3 pa0 fun a0 => f a0 (fun r1 => K ⟨[.val false [.s (.bool r1)]], []⟩)
 | _ => none⟩
structure Cs (R : Type) where
  none_ : Unit := ()
  f94 : impl_markOk.T R
  f93 : impl_before.T R
def G (g : Cs R) : Cons R := [(94, impl_markOk.con g.f94), (93, impl_before.con g.f93)]
def H : List (Nat × Meet) := [(2, ⟨[(0, [(0, q3)])], []⟩), (12, ⟨[(0, [(0, q3)]), (5, [(0, q3)]), (6, []), (7, [])], []⟩), (15, ⟨[(2, [])], []⟩), (26, ⟨[(0, [(0, q3)]), (5, [(0, q3)]), (6, []), (7, [])], []⟩), (421, ⟨[], []⟩), (423, ⟨[(0, [(0, q3)]), (5, [(0, q3)]), (6, []), (7, [])], []⟩), (13517, ⟨[(2, [])], []⟩)]
abbrev S1 (x1 : L3) : St := mkSt [(0, .c (.sl 0))] [(0, .row .ro q3 x1)]
abbrev S2 (x1 x2 : Int) (x3 : L3) : St := mkSt [(0, .c (.sl 0)), (5, .c (.sl 0)), (6, .c (si x1)), (7, .c (si x2))] [(0, .row .ro q3 x3)]
abbrev S3 : St := mkSt [] []
abbrev S4 (x1 : Bool) : St := mkSt [(2, .c (.s (.bool x1)))] []
noncomputable abbrev V (g : Cs R) (k : Nat) (K : Kont R) (b : List Bool) (p : Nat) (st : St) : Option R := ev E (G g) k H (nodeAt (bodyOf Tryz.f55) b) p st K
noncomputable abbrev U (g : Cs R) (k : Nat) (n : Nat) (b : List Bool) : Nat → St → (St → Option R) → Kont R → Option R := evPre E (G g) k H n (nodeAt (bodyOf Tryz.f55) b)
noncomputable abbrev W (g : Cs R) (k : Nat) (b : List Bool) (p : Nat) : St → Kont R → Option R := ev E (G g) k H (nodeAt (bodyOf Tryz.f55) b) p
variable (g : Cs R) (k : Nat)
def s1 (g : Cs R) (k : Nat) (a0 : L3) (j : Option R) : Option R :=
 j
theorem s1_ev (a0 : L3) (X : St → Option R) (K : Kont R) : U g k 1 [] 1 (S1 a0) X K = s1 g k a0 (X (S1 a0)) := by kernel_rfl
def s2 (g : Cs R) (k : Nat) (a0 : L3) (j : Int → Int → Option R) : Option R :=
 j (a0.length : Int) 0
theorem s2_ev (a0 : L3) (X : St → Option R) (K : Kont R) : U g k 1 [true, false] 6 (S1 a0) X K = s2 g k a0 (fun z0 z1 => X (S2 z0 z1 a0)) := by kernel_rfl
def s3 (g : Cs R) (k : Nat) (z0 z2 : Int) (a0 : L3) (j : Int → Option R) (x0 : Option R) (q : Bool → Option R) : Option R :=
 cond (decide (z2 < z0)) (cond (decide (0 ≤ z2) && decide (z2 < (a0.length : Int))) (g.f94 ((a0.getD z2.toNat n3).1) ((a0.getD z2.toNat n3).2.1) ((a0.getD z2.toNat n3).2.2) (fun r1 => cond (!r1) (q false) (cond (decide ((0 : Int) < z2)) (cond (decide (0 ≤ (IntKind.wrap .i64 (z2 - 1))) && decide ((IntKind.wrap .i64 (z2 - 1)) < (a0.length : Int))) (let y2 := (a0.getD ((IntKind.wrap .i64 (z2 - 1)).toNat) n3).1; cond (decide (0 ≤ (IntKind.wrap .i64 (z2 - 1))) && decide ((IntKind.wrap .i64 (z2 - 1)) < (a0.length : Int))) (let y3 := (a0.getD ((IntKind.wrap .i64 (z2 - 1)).toNat) n3).2.1; let y4 := (a0.getD z2.toNat n3).1; let y5 := (a0.getD z2.toNat n3).2.1; g.f93 y2 y3 y4 y5 (fun r6 => cond (!r6) (q false) (j (IntKind.wrap .i64 (z2 + 1))))) none) none) (j (IntKind.wrap .i64 (z2 + 1)))))) none) (x0)
theorem s3_ev (z0 z2 : Int) (a0 : L3) (K : Kont R) : V g k K [true, false, true, false, false] 52 (S2 z0 z2 a0) = s3 g k z0 z2 a0 (fun z3 => K .normal (S2 z0 z3 a0)) (K (.exit 0) S3) (fun z4 => K .ret (S4 z4)) := by kernel_rfl
def l4r (g : Cs R) (k : Nat) (z0 : Int) (a0 : L3) (x0 : Option R) (q : Bool → Option R) : Nat → Int → Option R
 | 0, _ => none
 | n + 1, z2 => s3 g k z0 z2 a0 (fun z3 => l4r g k z0 a0 x0 q n z3) (x0) (fun z4 => q z4)
def l4 (g : Cs R) (k : Nat) (z0 z1 : Int) (a0 : L3) (x0 : Option R) (q : Bool → Option R) : Option R := l4r g k z0 a0 x0 q k z1
theorem l4r_ev (z0 : Int) (a0 : L3) (K : Kont R) : ∀ (n : Nat) (z2 : Int), evLoop (W g k [true, false, true, false, false] 52) (atMeet H 26) K n (S2 z0 z2 a0) = l4r g k z0 a0 (K (.exit 0) S3) (fun z5 => K .ret (S4 z5)) n z2 := by
 intro n
 induction n with
 | zero => intros; rfl
 | succ n ih =>
  intro z2
  exact Eq.trans (by kernel_rfl) ((s3_ev g k z0 z2 a0 (loopK (W g k [true, false, true, false, false] 52) (atMeet H 26) K n)).trans (Eq.trans (by kernel_rfl) (congrArg (fun f_ => s3 g k z0 z2 a0 f_ (K (.exit 0) S3) (fun z4 => K .ret (S4 z4))) (funext fun (z3 : Int) => (ih z3)))))
theorem l4_ev (z0 z1 : Int) (a0 : L3) (K : Kont R) : V g k K [true, false, true, false] 26 (S2 z0 z1 a0) = l4 g k z0 z1 a0 (K (.exit 0) S3) (fun z5 => K .ret (S4 z5)) :=
 Eq.trans (by kernel_rfl) (l4r_ev g k z0 a0 K k z1)
def b5 (g : Cs R) (k : Nat) (z0 z1 : Int) (a0 : L3) (j : Option R) (q : Bool → Option R) : Option R :=
 l4 g k z0 z1 a0 (j) (fun z5 => q z5)
theorem b5_ev (z0 z1 : Int) (a0 : L3) (K : Kont R) : V g k K [true, false, true] 13 (S2 z0 z1 a0) = b5 g k z0 z1 a0 (K .normal S3) (fun z6 => K .ret (S4 z6)) :=
 Eq.trans (by kernel_rfl) ((l4_ev g k z0 z1 a0 (blockK 0 (fun st => K .normal (atMeet H 13 st)) K)).trans (by kernel_rfl))
def c6 (g : Cs R) (k : Nat) (a0 : L3) (j : Option R) (q : Bool → Option R) : Option R :=
 s2 g k a0 (fun z0 z1 => b5 g k z0 z1 a0 (j) (fun z6 => q z6))
theorem c6_ev (a0 : L3) (K : Kont R) : V g k K [true, false] 6 (S1 a0) = c6 g k a0 (K .normal S3) (fun z7 => K .ret (S4 z7)) :=
 (Eq.trans (by kernel_rfl) (s2_ev g k a0 (V g k K [true, false, true] 13) K)).trans (congrArg (fun f_ => s2 g k a0 f_) (funext fun (z0 : Int) => (funext fun (z1 : Int) => (b5_ev g k z0 z1 a0 K))))
def s7 (g : Cs R) (k : Nat)  (q : Bool → Option R) : Option R :=
 q true
theorem s7_ev  (K : Kont R) : V g k K [true, true] 7 S3 = s7 g k (fun z8 => K .ret (S4 z8)) := by kernel_rfl
def c8 (g : Cs R) (k : Nat) (a0 : L3) (q : Bool → Option R) : Option R :=
 c6 g k a0 (s7 g k (fun z8 => q z8)) (fun z7 => q z7)
theorem c8_ev (a0 : L3) (K : Kont R) : V g k K [true] 3 (S1 a0) = c8 g k a0 (fun z9 => K .ret (S4 z9)) :=
 (Eq.trans (by kernel_rfl) (c6_ev g k a0 (seqK (V g k K [true, true] 7) K))).trans (congrArg (fun f_ => c6 g k a0 f_ (fun z7 => K .ret (S4 z7))) (seqN (f := (V g k K [true, true] 7)) (K := K) (s7_ev g k K)))
def c9 (g : Cs R) (k : Nat) (a0 : L3) (q : Bool → Option R) : Option R :=
 s1 g k a0 (c8 g k a0 (fun z9 => q z9))
theorem c9_ev (a0 : L3) (K : Kont R) : V g k K [] 1 (S1 a0) = c9 g k a0 (fun z10 => K .ret (S4 z10)) :=
 (Eq.trans (by kernel_rfl) (s1_ev g k a0 (V g k K [true] 3) K)).trans (congrArg (fun f_ => s1 g k a0 f_) (c8_ev g k a0 K))
def b (g : Cs R) (k : Nat) (a0 : L3) (K : Bool → Option R) : Option R :=
 c9 g k a0 (fun z10 => K z10)
theorem evs (a0 : L3) (KF : Ret → Option R) : evFunc E (G g) k H [] false Tryz.f55 [.val false [.row .ro q3 a0]] KF = b g k a0 (fun r1 => KF ⟨[.val false [.s (.bool r1)]], []⟩) :=
 Eq.trans (by kernel_rfl) ((c9_ev g k a0 (fin E.P false Tryz.f55 [] KF)).trans (by kernel_rfl))
end impl_marksOk
namespace impl_marksOk
def g (k : Nat) : Cs R := ⟨(), impl_markOk.c k, impl_before.c k⟩
def c (k : Nat) : T R := b (g k) k
end impl_marksOk
/-! ### impl_onWay: function 56 -/
namespace impl_onWay
abbrev T (R : Type) : Type := Int → Int → Int → Int → Int → ByteArray → (Bool → Option R) → Option R
def con (f : T R) : Con R := ⟨[], fun args K => match args with
 | [.val false [.s (.int .i64 a0)], .val true [.s (.int .i64 A), .s (.int .i64 B), .s (.int .i64 C), .s (.int .i64 D), .s (.string F)]] => f a0 A B C D F (fun r1 => K ⟨[.val false [.s (.bool r1)]], []⟩)
 | _ => none⟩
structure Cs (R : Type) where
  none_ : Unit := ()
  f53 : impl_in.T R
def G (g : Cs R) : Cons R := [(53, impl_in.con g.f53)]
def H : List (Nat × Meet) := []
variable (g : Cs R) (k : Nat)
def b (g : Cs R) (k : Nat) (a0 B C A D : Int) (F : ByteArray) (K : Bool → Option R) : Option R :=
 cond (!decide (a0 = A)) (g.f53 a0 B A (fun r1 => cond r1 (K true) (g.f53 a0 A B (fun r2 => K r2)))) (K false)
theorem evs (a0 A B C D : Int) (F : ByteArray) (KF : Ret → Option R) : evFunc E (G g) k H [] false Tryz.f56 [.val false [ri a0], .val true [ri A, ri B, ri C, ri D, .s (.string F)]] KF = b g k a0 A B C D F (fun r1 => KF ⟨[.val false [.s (.bool r1)]], []⟩) :=
 by kernel_rfl
end impl_onWay
namespace impl_onWay
def g (k : Nat) : Cs R := ⟨(), impl_in.c k⟩
def c (k : Nat) : T R := b (g k) k
end impl_onWay
/-! ### impl_markAt: function 57 -/
namespace impl_markAt
abbrev T (R : Type) : Type := (L3) → Int → Int → (Int → Option R) → Option R
def con (f : T R) : Con R := ⟨[], fun args K => match args with
 | [.val false [pa0], .val false [.s (.int .i64 a1)], .val false [.s (.int .i64 a2)]] => withRow q3 pa0 fun a0 => f a0 a1 a2 (fun r1 => K ⟨[.val false [ri r1]], []⟩)
 | _ => none⟩
structure Cs (R : Type) where
  none_ : Unit := ()
def G (g : Cs R) : Cons R := []
def H : List (Nat × Meet) := [(2, ⟨[(0, [(0, q3)]), (1, []), (2, [])], []⟩), (12, ⟨[(1, []), (2, []), (9, [(0, q3)]), (10, []), (11, [])], []⟩), (15, ⟨[(6, [])], []⟩), (26, ⟨[(1, []), (2, []), (9, [(0, q3)]), (10, []), (11, [])], []⟩), (421, ⟨[], []⟩), (423, ⟨[(1, []), (2, []), (9, [(0, q3)]), (10, []), (11, [])], []⟩), (13517, ⟨[(6, [])], []⟩)]
abbrev S1 (x1 x2 : Int) (x3 : L3) : St := mkSt [(0, .c (.sl 0)), (1, .c (si x1)), (2, .c (si x2))] [(0, .row .ro q3 x3)]
abbrev S2 (x1 x2 x3 x4 : Int) (x5 : L3) : St := mkSt [(1, .c (si x1)), (2, .c (si x2)), (9, .c (.sl 0)), (10, .c (si x3)), (11, .c (si x4))] [(0, .row .ro q3 x5)]
abbrev S3 : St := mkSt [] []
abbrev S4 (x1 : Int) : St := mkSt [(6, .c (si x1))] []
noncomputable abbrev V (g : Cs R) (k : Nat) (K : Kont R) (b : List Bool) (p : Nat) (st : St) : Option R := ev E (G g) k H (nodeAt (bodyOf Tryz.f57) b) p st K
noncomputable abbrev U (g : Cs R) (k : Nat) (n : Nat) (b : List Bool) : Nat → St → (St → Option R) → Kont R → Option R := evPre E (G g) k H n (nodeAt (bodyOf Tryz.f57) b)
noncomputable abbrev W (g : Cs R) (k : Nat) (b : List Bool) (p : Nat) : St → Kont R → Option R := ev E (G g) k H (nodeAt (bodyOf Tryz.f57) b) p
variable (g : Cs R) (k : Nat)
def s1 (g : Cs R) (k : Nat) (a1 a2 : Int) (a0 : L3) (j : Option R) : Option R :=
 j
theorem s1_ev (a1 a2 : Int) (a0 : L3) (X : St → Option R) (K : Kont R) : U g k 1 [] 1 (S1 a1 a2 a0) X K = s1 g k a1 a2 a0 (X (S1 a1 a2 a0)) := by kernel_rfl
def s2 (g : Cs R) (k : Nat) (a1 a2 : Int) (a0 : L3) (j : Int → Int → Option R) : Option R :=
 j (a0.length : Int) 0
theorem s2_ev (a1 a2 : Int) (a0 : L3) (X : St → Option R) (K : Kont R) : U g k 1 [true, false] 6 (S1 a1 a2 a0) X K = s2 g k a1 a2 a0 (fun z0 z1 => X (S2 a1 a2 z0 z1 a0)) := by kernel_rfl
def s3 (g : Cs R) (k : Nat) (a1 a2 z0 z2 : Int) (a0 : L3) (j : Int → Option R) (x0 : Option R) (q : Option R) : Option R :=
 cond (decide (z2 < z0)) (cond (decide (0 ≤ z2) && decide (z2 < (a0.length : Int))) (let y1 := (a0.getD z2.toNat n3).1; cond (decide (y1 = a1)) (let y2 := (a0.getD z2.toNat n3).2.1; cond (decide (y2 = a2)) (q) (j (IntKind.wrap .i64 (z2 + 1)))) (j (IntKind.wrap .i64 (z2 + 1)))) none) (x0)
theorem s3_ev (a1 a2 z0 z2 : Int) (a0 : L3) (K : Kont R) : V g k K [true, false, true, false, false] 52 (S2 a1 a2 z0 z2 a0) = s3 g k a1 a2 z0 z2 a0 (fun z3 => K .normal (S2 a1 a2 z0 z3 a0)) (K (.exit 0) S3) (K .ret (S4 z2)) := by kernel_rfl
def l4r (g : Cs R) (k : Nat) (a1 a2 z0 : Int) (a0 : L3) (x0 : Option R) (q : Int → Option R) : Nat → Int → Option R
 | 0, _ => none
 | n + 1, z2 => s3 g k a1 a2 z0 z2 a0 (fun z3 => l4r g k a1 a2 z0 a0 x0 q n z3) (x0) (q z2)
def l4 (g : Cs R) (k : Nat) (a1 a2 z0 z1 : Int) (a0 : L3) (x0 : Option R) (q : Int → Option R) : Option R := l4r g k a1 a2 z0 a0 x0 q k z1
theorem l4r_ev (a1 a2 z0 : Int) (a0 : L3) (K : Kont R) : ∀ (n : Nat) (z2 : Int), evLoop (W g k [true, false, true, false, false] 52) (atMeet H 26) K n (S2 a1 a2 z0 z2 a0) = l4r g k a1 a2 z0 a0 (K (.exit 0) S3) (fun z4 => K .ret (S4 z4)) n z2 := by
 intro n
 induction n with
 | zero => intros; rfl
 | succ n ih =>
  intro z2
  exact Eq.trans (by kernel_rfl) ((s3_ev g k a1 a2 z0 z2 a0 (loopK (W g k [true, false, true, false, false] 52) (atMeet H 26) K n)).trans (Eq.trans (by kernel_rfl) (congrArg (fun f_ => s3 g k a1 a2 z0 z2 a0 f_ (K (.exit 0) S3) (K .ret (S4 z2))) (funext fun (z3 : Int) => (ih z3)))))
theorem l4_ev (a1 a2 z0 z1 : Int) (a0 : L3) (K : Kont R) : V g k K [true, false, true, false] 26 (S2 a1 a2 z0 z1 a0) = l4 g k a1 a2 z0 z1 a0 (K (.exit 0) S3) (fun z4 => K .ret (S4 z4)) :=
 Eq.trans (by kernel_rfl) (l4r_ev g k a1 a2 z0 a0 K k z1)
def b5 (g : Cs R) (k : Nat) (a1 a2 z0 z1 : Int) (a0 : L3) (j : Option R) (q : Int → Option R) : Option R :=
 l4 g k a1 a2 z0 z1 a0 (j) (fun z4 => q z4)
theorem b5_ev (a1 a2 z0 z1 : Int) (a0 : L3) (K : Kont R) : V g k K [true, false, true] 13 (S2 a1 a2 z0 z1 a0) = b5 g k a1 a2 z0 z1 a0 (K .normal S3) (fun z5 => K .ret (S4 z5)) :=
 Eq.trans (by kernel_rfl) ((l4_ev g k a1 a2 z0 z1 a0 (blockK 0 (fun st => K .normal (atMeet H 13 st)) K)).trans (by kernel_rfl))
def c6 (g : Cs R) (k : Nat) (a1 a2 : Int) (a0 : L3) (j : Option R) (q : Int → Option R) : Option R :=
 s2 g k a1 a2 a0 (fun z0 z1 => b5 g k a1 a2 z0 z1 a0 (j) (fun z5 => q z5))
theorem c6_ev (a1 a2 : Int) (a0 : L3) (K : Kont R) : V g k K [true, false] 6 (S1 a1 a2 a0) = c6 g k a1 a2 a0 (K .normal S3) (fun z6 => K .ret (S4 z6)) :=
 (Eq.trans (by kernel_rfl) (s2_ev g k a1 a2 a0 (V g k K [true, false, true] 13) K)).trans (congrArg (fun f_ => s2 g k a1 a2 a0 f_) (funext fun (z0 : Int) => (funext fun (z1 : Int) => (b5_ev g k a1 a2 z0 z1 a0 K))))
def s7 (g : Cs R) (k : Nat)  (q : Int → Option R) : Option R :=
 q (-1)
theorem s7_ev  (K : Kont R) : V g k K [true, true] 7 S3 = s7 g k (fun z7 => K .ret (S4 z7)) := by kernel_rfl
def c8 (g : Cs R) (k : Nat) (a1 a2 : Int) (a0 : L3) (q : Int → Option R) : Option R :=
 c6 g k a1 a2 a0 (s7 g k (fun z7 => q z7)) (fun z6 => q z6)
theorem c8_ev (a1 a2 : Int) (a0 : L3) (K : Kont R) : V g k K [true] 3 (S1 a1 a2 a0) = c8 g k a1 a2 a0 (fun z8 => K .ret (S4 z8)) :=
 (Eq.trans (by kernel_rfl) (c6_ev g k a1 a2 a0 (seqK (V g k K [true, true] 7) K))).trans (congrArg (fun f_ => c6 g k a1 a2 a0 f_ (fun z6 => K .ret (S4 z6))) (seqN (f := (V g k K [true, true] 7)) (K := K) (s7_ev g k K)))
def c9 (g : Cs R) (k : Nat) (a1 a2 : Int) (a0 : L3) (q : Int → Option R) : Option R :=
 s1 g k a1 a2 a0 (c8 g k a1 a2 a0 (fun z8 => q z8))
theorem c9_ev (a1 a2 : Int) (a0 : L3) (K : Kont R) : V g k K [] 1 (S1 a1 a2 a0) = c9 g k a1 a2 a0 (fun z9 => K .ret (S4 z9)) :=
 (Eq.trans (by kernel_rfl) (s1_ev g k a1 a2 a0 (V g k K [true] 3) K)).trans (congrArg (fun f_ => s1 g k a1 a2 a0 f_) (c8_ev g k a1 a2 a0 K))
def b (g : Cs R) (k : Nat) (a0 : L3) (a1 a2 : Int) (K : Int → Option R) : Option R :=
 c9 g k a1 a2 a0 (fun z9 => K z9)
theorem evs (a0 : L3) (a1 a2 : Int) (KF : Ret → Option R) : evFunc E (G g) k H [] false Tryz.f57 [.val false [.row .ro q3 a0], .val false [ri a1], .val false [ri a2]] KF = b g k a0 a1 a2 (fun r1 => KF ⟨[.val false [ri r1]], []⟩) :=
 Eq.trans (by kernel_rfl) ((c9_ev g k a1 a2 a0 (fin E.P false Tryz.f57 [] KF)).trans (by kernel_rfl))
end impl_markAt
namespace impl_markAt
def g (k : Nat) : Cs R := ⟨()⟩
def c (k : Nat) : T R := b (g k) k
end impl_markAt
/-! ### impl_KeepOk: function 30 -/
namespace impl_KeepOk
abbrev T (R : Type) : Type := Int → Int → Int → (L5) → (L3) → (L5) → (Bool → Option R) → Option R
def con (f : T R) : Con R := ⟨[], fun args K => match args with
 | [.val true [.s (.int .i64 A), .s (.int .i64 B), .s (.int .i64 C), D, F, J]] => withRow q5 D fun M => withRow q3 F fun N => withRow q5 J fun O => f A B C M N O (fun r1 => K ⟨[.val false [.s (.bool r1)]], []⟩)
 | _ => none⟩
structure Cs (R : Type) where
  none_ : Unit := ()
  f27 : impl_isNode.T R
  f53 : impl_in.T R
  f54 : impl_notesOk.T R
  f55 : impl_marksOk.T R
  f56 : impl_onWay.T R
  f57 : impl_markAt.T R
def G (g : Cs R) : Cons R := [(27, impl_isNode.con g.f27), (53, impl_in.con g.f53), (54, impl_notesOk.con g.f54), (55, impl_marksOk.con g.f55), (56, impl_onWay.con g.f56), (57, impl_markAt.con g.f57)]
def H : List (Nat × Meet) := [(29, ⟨[(1, [(3, q5), (4, q3), (5, q5)])], []⟩), (53, ⟨[(2, [])], []⟩), (60, ⟨[(1, [(3, q5), (4, q3), (5, q5)]), (60, [(0, q5)]), (61, []), (62, [])], []⟩), (117, ⟨[(2, [])], []⟩), (122, ⟨[(1, [(3, q5), (4, q3), (5, q5)]), (60, [(0, q5)]), (61, []), (62, [])], []⟩), (124, ⟨[(1, [(3, q5), (4, q3), (5, q5)]), (104, [(0, q3)]), (105, []), (106, [])], []⟩), (250, ⟨[(1, [(3, q5), (4, q3), (5, q5)]), (104, [(0, q3)]), (105, []), (106, [])], []⟩), (252, ⟨[(1, [(3, q5), (4, q3), (5, q5)]), (131, [(0, q5)]), (132, []), (133, [])], []⟩), (255, ⟨[(2, [])], []⟩), (506, ⟨[(1, [(3, q5), (4, q3), (5, q5)]), (131, [(0, q5)]), (132, []), (133, [])], []⟩), (1957, ⟨[(1, [(3, q5), (4, q3), (5, q5)])], []⟩), (1959, ⟨[(1, [(3, q5), (4, q3), (5, q5)]), (60, [(0, q5)]), (61, []), (62, [])], []⟩), (4005, ⟨[(1, [(3, q5), (4, q3), (5, q5)])], []⟩), (4007, ⟨[(1, [(3, q5), (4, q3), (5, q5)]), (104, [(0, q3)]), (105, []), (106, [])], []⟩), (8101, ⟨[], []⟩), (8103, ⟨[(1, [(3, q5), (4, q3), (5, q5)]), (131, [(0, q5)]), (132, []), (133, [])], []⟩), (62669, ⟨[(2, [])], []⟩), (128205, ⟨[(2, [])], []⟩), (259277, ⟨[(2, [])], []⟩)]
abbrev S1 (x1 x2 x3 : Int) (x4 : L5) (x5 : L3) (x6 : L5) : St := mkSt [(0, .agg [si x1, si x2, si x3, .sl 3, .sl 4, .sl 5])] [(3, .row .ro q5 x4), (4, .row .ro q3 x5), (5, .row .ro q5 x6)]
abbrev S2 (x1 x2 x3 : Int) (x4 : L5) (x5 : L3) (x6 : L5) : St := mkSt [(1, .c (.ptr 9001 0 0))] [(9001, .box [si x1, si x2, si x3, .sl 3, .sl 4, .sl 5]), (3, .row .ro q5 x4), (4, .row .ro q3 x5), (5, .row .ro q5 x6)]
abbrev S3 (x1 : Bool) : St := mkSt [(2, .c (.s (.bool x1)))] []
abbrev S4 (x1 x2 x3 x4 x5 : Int) (x6 : L5) (x7 : L3) (x8 : L5) : St := mkSt [(1, .c (.ptr 9001 0 0)), (60, .c (.sl 3)), (61, .c (si x1)), (62, .c (si x2))] [(9001, .box [si x3, si x4, si x5, .sl 3, .sl 4, .sl 5]), (3, .row .ro q5 x6), (4, .row .ro q3 x7), (5, .row .ro q5 x8)]
abbrev S5 (x1 x2 x3 x4 x5 : Int) (x6 : L3) (x7 x8 : L5) : St := mkSt [(1, .c (.ptr 9001 0 0)), (104, .c (.sl 4)), (105, .c (si x1)), (106, .c (si x2))] [(9001, .box [si x3, si x4, si x5, .sl 3, .sl 4, .sl 5]), (4, .row .ro q3 x6), (3, .row .ro q5 x7), (5, .row .ro q5 x8)]
abbrev S6 (x1 x2 x3 x4 x5 : Int) (x6 x7 : L5) (x8 : L3) : St := mkSt [(1, .c (.ptr 9001 0 0)), (131, .c (.sl 5)), (132, .c (si x1)), (133, .c (si x2))] [(9001, .box [si x3, si x4, si x5, .sl 3, .sl 4, .sl 5]), (5, .row .ro q5 x6), (3, .row .ro q5 x7), (4, .row .ro q3 x8)]
abbrev S7 : St := mkSt [] []
noncomputable abbrev V (g : Cs R) (k : Nat) (K : Kont R) (b : List Bool) (p : Nat) (st : St) : Option R := ev E (G g) k H (nodeAt (bodyOf Tryz.f30) b) p st K
noncomputable abbrev U (g : Cs R) (k : Nat) (n : Nat) (b : List Bool) : Nat → St → (St → Option R) → Kont R → Option R := evPre E (G g) k H n (nodeAt (bodyOf Tryz.f30) b)
noncomputable abbrev W (g : Cs R) (k : Nat) (b : List Bool) (p : Nat) : St → Kont R → Option R := ev E (G g) k H (nodeAt (bodyOf Tryz.f30) b) p
variable (g : Cs R) (k : Nat)
def s1 (g : Cs R) (k : Nat) (D F J : Int) (A : L5) (B : L3) (C : L5) (j : Option R) (q : Bool → Option R) : Option R :=
 g.f27 D (fun r1 => cond (!r1) (q false) (g.f53 F 0 999 (fun r2 => cond (!r2) (q false) (g.f53 J 1 100 (fun r3 => cond (!r3) (q false) (cond (decide ((6 : Int) < (A.length : Int))) (q false) (cond (decide ((12 : Int) < (B.length : Int))) (q false) (cond (decide ((6 : Int) < (C.length : Int))) (q false) (g.f54 A (fun r4 => cond (!r4) (q false) (g.f55 B (fun r5 => cond (!r5) (q false) (g.f54 C (fun r6 => cond (!r6) (q false) (j)))))))))))))))
theorem s1_ev (A B C : Int) (D : L5) (F : L3) (J : L5) (X : St → Option R) (K : Kont R) : U g k 3 [] 1 (S1 A B C D F J) X K = s1 g k A B C D F J (X (S2 A B C D F J)) (fun z0 => K .ret (S3 z0)) := by kernel_rfl
def s2 (g : Cs R) (k : Nat) (B C D : Int) (A : L5) (F : L3) (J : L5) (j : Int → Int → Option R) : Option R :=
 j (A.length : Int) 0
theorem s2_ev (A B C : Int) (D : L5) (F : L3) (J : L5) (X : St → Option R) (K : Kont R) : U g k 1 [true, true, true, false] 30 (S2 A B C D F J) X K = s2 g k A B C D F J (fun z1 z2 => X (S4 z1 z2 A B C D F J)) := by kernel_rfl
def s3 (g : Cs R) (k : Nat) (z1 z3 B C F : Int) (A : L5) (D : L3) (J : L5) (j : Int → Option R) (x0 : Option R) (q : Bool → Option R) : Option R :=
 cond (decide (z3 < z1)) (cond (decide (0 ≤ z3) && decide (z3 < (A.length : Int))) (let y1 := (A.getD z3.toNat n5).1; cond (decide (y1 = B)) (let y2 := (A.getD z3.toNat n5).2.1; cond (decide (F ≤ y2)) (q false) (let y3 := (A.getD z3.toNat n5).2.2.2.1; cond (decide (y3 ≤ C)) (q false) (g.f56 B ((A.getD z3.toNat n5).1) ((A.getD z3.toNat n5).2.1) ((A.getD z3.toNat n5).2.2.1) ((A.getD z3.toNat n5).2.2.2.1) ((A.getD z3.toNat n5).2.2.2.2) (fun r4 => cond (!r4) (q false) (let y5 := (A.getD z3.toNat n5).1; let y6 := (A.getD z3.toNat n5).2.1; g.f57 D y5 y6 (fun r7 => cond (decide ((0 : Int) ≤ r7)) (q false) (j (IntKind.wrap .i64 (z3 + 1))))))))) (let y8 := (A.getD z3.toNat n5).2.2.2.1; cond (decide (y8 ≤ C)) (q false) (g.f56 B ((A.getD z3.toNat n5).1) ((A.getD z3.toNat n5).2.1) ((A.getD z3.toNat n5).2.2.1) ((A.getD z3.toNat n5).2.2.2.1) ((A.getD z3.toNat n5).2.2.2.2) (fun r9 => cond (!r9) (q false) (let y10 := (A.getD z3.toNat n5).1; let y11 := (A.getD z3.toNat n5).2.1; g.f57 D y10 y11 (fun r12 => cond (decide ((0 : Int) ≤ r12)) (q false) (j (IntKind.wrap .i64 (z3 + 1))))))))) none) (x0)
theorem s3_ev (z1 z3 A B C : Int) (D : L5) (F : L3) (J : L5) (K : Kont R) : V g k K [true, true, true, false, true, false, false] 244 (S4 z1 z3 A B C D F J) = s3 g k z1 z3 A B C D F J (fun z4 => K .normal (S4 z1 z4 A B C D F J)) (K (.exit 0) (S2 A B C D F J)) (fun z5 => K .ret (S3 z5)) := by kernel_rfl
def l4r (g : Cs R) (k : Nat) (z1 A B C : Int) (D : L5) (F : L3) (J : L5) (x0 : Option R) (q : Bool → Option R) : Nat → Int → Option R
 | 0, _ => none
 | n + 1, z3 => s3 g k z1 z3 A B C D F J (fun z4 => l4r g k z1 A B C D F J x0 q n z4) (x0) (fun z5 => q z5)
def l4 (g : Cs R) (k : Nat) (z1 z2 A B C : Int) (D : L5) (F : L3) (J : L5) (x0 : Option R) (q : Bool → Option R) : Option R := l4r g k z1 A B C D F J x0 q k z2
theorem l4r_ev (z1 A B C : Int) (D : L5) (F : L3) (J : L5) (K : Kont R) : ∀ (n : Nat) (z3 : Int), evLoop (W g k [true, true, true, false, true, false, false] 244) (atMeet H 122) K n (S4 z1 z3 A B C D F J) = l4r g k z1 A B C D F J (K (.exit 0) (S2 A B C D F J)) (fun z6 => K .ret (S3 z6)) n z3 := by
 intro n
 induction n with
 | zero => intros; rfl
 | succ n ih =>
  intro z3
  exact Eq.trans (by kernel_rfl) ((s3_ev g k z1 z3 A B C D F J (loopK (W g k [true, true, true, false, true, false, false] 244) (atMeet H 122) K n)).trans (Eq.trans (by kernel_rfl) (congrArg (fun f_ => s3 g k z1 z3 A B C D F J f_ (K (.exit 0) (S2 A B C D F J)) (fun z5 => K .ret (S3 z5))) (funext fun (z4 : Int) => (ih z4)))))
theorem l4_ev (z1 z2 A B C : Int) (D : L5) (F : L3) (J : L5) (K : Kont R) : V g k K [true, true, true, false, true, false] 122 (S4 z1 z2 A B C D F J) = l4 g k z1 z2 A B C D F J (K (.exit 0) (S2 A B C D F J)) (fun z6 => K .ret (S3 z6)) :=
 Eq.trans (by kernel_rfl) (l4r_ev g k z1 A B C D F J K k z2)
def b5 (g : Cs R) (k : Nat) (z1 z2 A B C : Int) (D : L5) (F : L3) (J : L5) (j : Option R) (q : Bool → Option R) : Option R :=
 l4 g k z1 z2 A B C D F J (j) (fun z6 => q z6)
theorem b5_ev (z1 z2 A B C : Int) (D : L5) (F : L3) (J : L5) (K : Kont R) : V g k K [true, true, true, false, true] 61 (S4 z1 z2 A B C D F J) = b5 g k z1 z2 A B C D F J (K .normal (S2 A B C D F J)) (fun z7 => K .ret (S3 z7)) :=
 Eq.trans (by kernel_rfl) ((l4_ev g k z1 z2 A B C D F J (blockK 0 (fun st => K .normal (atMeet H 61 st)) K)).trans (by kernel_rfl))
def c6 (g : Cs R) (k : Nat) (A B C : Int) (D : L5) (F : L3) (J : L5) (j : Option R) (q : Bool → Option R) : Option R :=
 s2 g k A B C D F J (fun z1 z2 => b5 g k z1 z2 A B C D F J (j) (fun z7 => q z7))
theorem c6_ev (A B C : Int) (D : L5) (F : L3) (J : L5) (K : Kont R) : V g k K [true, true, true, false] 30 (S2 A B C D F J) = c6 g k A B C D F J (K .normal (S2 A B C D F J)) (fun z8 => K .ret (S3 z8)) :=
 (Eq.trans (by kernel_rfl) (s2_ev g k A B C D F J (V g k K [true, true, true, false, true] 61) K)).trans (congrArg (fun f_ => s2 g k A B C D F J f_) (funext fun (z1 : Int) => (funext fun (z2 : Int) => (b5_ev g k z1 z2 A B C D F J K))))
def s7 (g : Cs R) (k : Nat) (B C D : Int) (F : L5) (A : L3) (J : L5) (j : Int → Int → Option R) : Option R :=
 j (A.length : Int) 0
theorem s7_ev (A B C : Int) (D : L5) (F : L3) (J : L5) (X : St → Option R) (K : Kont R) : U g k 1 [true, true, true, true, false] 62 (S2 A B C D F J) X K = s7 g k A B C D F J (fun z9 z10 => X (S5 z9 z10 A B C F D J)) := by kernel_rfl
def s8 (g : Cs R) (k : Nat) (z9 z11 C B D : Int) (A : L3) (F J : L5) (j : Int → Option R) (x2 : Option R) (q : Bool → Option R) : Option R :=
 cond (decide (z11 < z9)) (cond (decide (0 ≤ z11) && decide (z11 < (A.length : Int))) (let y1 := (A.getD z11.toNat n3).1; cond (decide (y1 = C)) (let y2 := (A.getD z11.toNat n3).2.1; cond (decide (D ≤ y2)) (q false) (let y3 := (A.getD z11.toNat n3).2.2; cond (decide (y3 ≤ B)) (q false) (j (IntKind.wrap .i64 (z11 + 1))))) (let y4 := (A.getD z11.toNat n3).2.2; cond (decide (y4 ≤ B)) (q false) (j (IntKind.wrap .i64 (z11 + 1))))) none) (x2)
theorem s8_ev (z9 z11 A B C : Int) (D : L3) (F J : L5) (K : Kont R) : V g k K [true, true, true, true, false, true, false, false] 500 (S5 z9 z11 A B C D F J) = s8 g k z9 z11 A B C D F J (fun z12 => K .normal (S5 z9 z12 A B C D F J)) (K (.exit 2) (S2 A B C F D J)) (fun z13 => K .ret (S3 z13)) := by kernel_rfl
def l9r (g : Cs R) (k : Nat) (z9 A B C : Int) (D : L3) (F J : L5) (x2 : Option R) (q : Bool → Option R) : Nat → Int → Option R
 | 0, _ => none
 | n + 1, z11 => s8 g k z9 z11 A B C D F J (fun z12 => l9r g k z9 A B C D F J x2 q n z12) (x2) (fun z13 => q z13)
def l9 (g : Cs R) (k : Nat) (z9 z10 A B C : Int) (D : L3) (F J : L5) (x2 : Option R) (q : Bool → Option R) : Option R := l9r g k z9 A B C D F J x2 q k z10
theorem l9r_ev (z9 A B C : Int) (D : L3) (F J : L5) (K : Kont R) : ∀ (n : Nat) (z11 : Int), evLoop (W g k [true, true, true, true, false, true, false, false] 500) (atMeet H 250) K n (S5 z9 z11 A B C D F J) = l9r g k z9 A B C D F J (K (.exit 2) (S2 A B C F D J)) (fun z14 => K .ret (S3 z14)) n z11 := by
 intro n
 induction n with
 | zero => intros; rfl
 | succ n ih =>
  intro z11
  exact Eq.trans (by kernel_rfl) ((s8_ev g k z9 z11 A B C D F J (loopK (W g k [true, true, true, true, false, true, false, false] 500) (atMeet H 250) K n)).trans (Eq.trans (by kernel_rfl) (congrArg (fun f_ => s8 g k z9 z11 A B C D F J f_ (K (.exit 2) (S2 A B C F D J)) (fun z13 => K .ret (S3 z13))) (funext fun (z12 : Int) => (ih z12)))))
theorem l9_ev (z9 z10 A B C : Int) (D : L3) (F J : L5) (K : Kont R) : V g k K [true, true, true, true, false, true, false] 250 (S5 z9 z10 A B C D F J) = l9 g k z9 z10 A B C D F J (K (.exit 2) (S2 A B C F D J)) (fun z14 => K .ret (S3 z14)) :=
 Eq.trans (by kernel_rfl) (l9r_ev g k z9 A B C D F J K k z10)
def b10 (g : Cs R) (k : Nat) (z9 z10 A B C : Int) (D : L3) (F J : L5) (j : Option R) (q : Bool → Option R) : Option R :=
 l9 g k z9 z10 A B C D F J (j) (fun z14 => q z14)
theorem b10_ev (z9 z10 A B C : Int) (D : L3) (F J : L5) (K : Kont R) : V g k K [true, true, true, true, false, true] 125 (S5 z9 z10 A B C D F J) = b10 g k z9 z10 A B C D F J (K .normal (S2 A B C F D J)) (fun z15 => K .ret (S3 z15)) :=
 Eq.trans (by kernel_rfl) ((l9_ev g k z9 z10 A B C D F J (blockK 2 (fun st => K .normal (atMeet H 125 st)) K)).trans (by kernel_rfl))
def c11 (g : Cs R) (k : Nat) (A B C : Int) (D : L5) (F : L3) (J : L5) (j : Option R) (q : Bool → Option R) : Option R :=
 s7 g k A B C D F J (fun z9 z10 => b10 g k z9 z10 A B C F D J (j) (fun z15 => q z15))
theorem c11_ev (A B C : Int) (D : L5) (F : L3) (J : L5) (K : Kont R) : V g k K [true, true, true, true, false] 62 (S2 A B C D F J) = c11 g k A B C D F J (K .normal (S2 A B C D F J)) (fun z16 => K .ret (S3 z16)) :=
 (Eq.trans (by kernel_rfl) (s7_ev g k A B C D F J (V g k K [true, true, true, true, false, true] 125) K)).trans (congrArg (fun f_ => s7 g k A B C D F J f_) (funext fun (z9 : Int) => (funext fun (z10 : Int) => (b10_ev g k z9 z10 A B C F D J K))))
def s12 (g : Cs R) (k : Nat) (B C D : Int) (F : L5) (J : L3) (A : L5) (j : Int → Int → Option R) : Option R :=
 j (A.length : Int) 0
theorem s12_ev (A B C : Int) (D : L5) (F : L3) (J : L5) (X : St → Option R) (K : Kont R) : U g k 1 [true, true, true, true, true, false] 126 (S2 A B C D F J) X K = s12 g k A B C D F J (fun z17 z18 => X (S6 z17 z18 A B C J D F)) := by kernel_rfl
def s13 (g : Cs R) (k : Nat) (z17 z19 B C F : Int) (A J : L5) (D : L3) (j : Int → Option R) (x4 : Option R) (q : Bool → Option R) : Option R :=
 cond (decide (z19 < z17)) (cond (decide (0 ≤ z19) && decide (z19 < (A.length : Int))) (let y1 := (A.getD z19.toNat n5).1; cond (decide (y1 = B)) (let y2 := (A.getD z19.toNat n5).2.1; cond (decide (F ≤ y2)) (q false) (let y3 := (A.getD z19.toNat n5).2.2.1; cond (!decide (y3 = B)) (q false) (let y4 := (A.getD z19.toNat n5).2.2.2.1; cond (decide (C < y4)) (let y5 := (A.getD z19.toNat n5).1; let y6 := (A.getD z19.toNat n5).2.1; g.f57 D y5 y6 (fun r7 => cond (decide (r7 < 0)) (q false) (j (IntKind.wrap .i64 (z19 + 1))))) (j (IntKind.wrap .i64 (z19 + 1)))))) (let y8 := (A.getD z19.toNat n5).2.2.1; cond (!decide (y8 = B)) (q false) (let y9 := (A.getD z19.toNat n5).2.2.2.1; cond (decide (C < y9)) (let y10 := (A.getD z19.toNat n5).1; let y11 := (A.getD z19.toNat n5).2.1; g.f57 D y10 y11 (fun r12 => cond (decide (r12 < 0)) (q false) (j (IntKind.wrap .i64 (z19 + 1))))) (j (IntKind.wrap .i64 (z19 + 1)))))) none) (x4)
theorem s13_ev (z17 z19 A B C : Int) (D F : L5) (J : L3) (K : Kont R) : V g k K [true, true, true, true, true, false, true, false, false] 1012 (S6 z17 z19 A B C D F J) = s13 g k z17 z19 A B C D F J (fun z20 => K .normal (S6 z17 z20 A B C D F J)) (K (.exit 4) S7) (fun z21 => K .ret (S3 z21)) := by kernel_rfl
def l14r (g : Cs R) (k : Nat) (z17 A B C : Int) (D F : L5) (J : L3) (x4 : Option R) (q : Bool → Option R) : Nat → Int → Option R
 | 0, _ => none
 | n + 1, z19 => s13 g k z17 z19 A B C D F J (fun z20 => l14r g k z17 A B C D F J x4 q n z20) (x4) (fun z21 => q z21)
def l14 (g : Cs R) (k : Nat) (z17 z18 A B C : Int) (D F : L5) (J : L3) (x4 : Option R) (q : Bool → Option R) : Option R := l14r g k z17 A B C D F J x4 q k z18
theorem l14r_ev (z17 A B C : Int) (D F : L5) (J : L3) (K : Kont R) : ∀ (n : Nat) (z19 : Int), evLoop (W g k [true, true, true, true, true, false, true, false, false] 1012) (atMeet H 506) K n (S6 z17 z19 A B C D F J) = l14r g k z17 A B C D F J (K (.exit 4) S7) (fun z22 => K .ret (S3 z22)) n z19 := by
 intro n
 induction n with
 | zero => intros; rfl
 | succ n ih =>
  intro z19
  exact Eq.trans (by kernel_rfl) ((s13_ev g k z17 z19 A B C D F J (loopK (W g k [true, true, true, true, true, false, true, false, false] 1012) (atMeet H 506) K n)).trans (Eq.trans (by kernel_rfl) (congrArg (fun f_ => s13 g k z17 z19 A B C D F J f_ (K (.exit 4) S7) (fun z21 => K .ret (S3 z21))) (funext fun (z20 : Int) => (ih z20)))))
theorem l14_ev (z17 z18 A B C : Int) (D F : L5) (J : L3) (K : Kont R) : V g k K [true, true, true, true, true, false, true, false] 506 (S6 z17 z18 A B C D F J) = l14 g k z17 z18 A B C D F J (K (.exit 4) S7) (fun z22 => K .ret (S3 z22)) :=
 Eq.trans (by kernel_rfl) (l14r_ev g k z17 A B C D F J K k z18)
def b15 (g : Cs R) (k : Nat) (z17 z18 A B C : Int) (D F : L5) (J : L3) (j : Option R) (q : Bool → Option R) : Option R :=
 l14 g k z17 z18 A B C D F J (j) (fun z22 => q z22)
theorem b15_ev (z17 z18 A B C : Int) (D F : L5) (J : L3) (K : Kont R) : V g k K [true, true, true, true, true, false, true] 253 (S6 z17 z18 A B C D F J) = b15 g k z17 z18 A B C D F J (K .normal S7) (fun z23 => K .ret (S3 z23)) :=
 Eq.trans (by kernel_rfl) ((l14_ev g k z17 z18 A B C D F J (blockK 4 (fun st => K .normal (atMeet H 253 st)) K)).trans (by kernel_rfl))
def c16 (g : Cs R) (k : Nat) (A B C : Int) (D : L5) (F : L3) (J : L5) (j : Option R) (q : Bool → Option R) : Option R :=
 s12 g k A B C D F J (fun z17 z18 => b15 g k z17 z18 A B C J D F (j) (fun z23 => q z23))
theorem c16_ev (A B C : Int) (D : L5) (F : L3) (J : L5) (K : Kont R) : V g k K [true, true, true, true, true, false] 126 (S2 A B C D F J) = c16 g k A B C D F J (K .normal S7) (fun z24 => K .ret (S3 z24)) :=
 (Eq.trans (by kernel_rfl) (s12_ev g k A B C D F J (V g k K [true, true, true, true, true, false, true] 253) K)).trans (congrArg (fun f_ => s12 g k A B C D F J f_) (funext fun (z17 : Int) => (funext fun (z18 : Int) => (b15_ev g k z17 z18 A B C J D F K))))
def s17 (g : Cs R) (k : Nat)  (q : Bool → Option R) : Option R :=
 q true
theorem s17_ev  (K : Kont R) : V g k K [true, true, true, true, true, true] 127 S7 = s17 g k (fun z25 => K .ret (S3 z25)) := by kernel_rfl
def c18 (g : Cs R) (k : Nat) (A B C : Int) (D : L5) (F : L3) (J : L5) (q : Bool → Option R) : Option R :=
 c16 g k A B C D F J (s17 g k (fun z25 => q z25)) (fun z24 => q z24)
theorem c18_ev (A B C : Int) (D : L5) (F : L3) (J : L5) (K : Kont R) : V g k K [true, true, true, true, true] 63 (S2 A B C D F J) = c18 g k A B C D F J (fun z26 => K .ret (S3 z26)) :=
 (Eq.trans (by kernel_rfl) (c16_ev g k A B C D F J (seqK (V g k K [true, true, true, true, true, true] 127) K))).trans (congrArg (fun f_ => c16 g k A B C D F J f_ (fun z24 => K .ret (S3 z24))) (seqN (f := (V g k K [true, true, true, true, true, true] 127)) (K := K) (s17_ev g k K)))
def c19 (g : Cs R) (k : Nat) (A B C : Int) (D : L5) (F : L3) (J : L5) (q : Bool → Option R) : Option R :=
 c11 g k A B C D F J (c18 g k A B C D F J (fun z26 => q z26)) (fun z16 => q z16)
theorem c19_ev (A B C : Int) (D : L5) (F : L3) (J : L5) (K : Kont R) : V g k K [true, true, true, true] 31 (S2 A B C D F J) = c19 g k A B C D F J (fun z27 => K .ret (S3 z27)) :=
 (Eq.trans (by kernel_rfl) (c11_ev g k A B C D F J (seqK (V g k K [true, true, true, true, true] 63) K))).trans (congrArg (fun f_ => c11 g k A B C D F J f_ (fun z16 => K .ret (S3 z16))) (seqN (f := (V g k K [true, true, true, true, true] 63)) (K := K) (c18_ev g k A B C D F J K)))
def c20 (g : Cs R) (k : Nat) (A B C : Int) (D : L5) (F : L3) (J : L5) (q : Bool → Option R) : Option R :=
 c6 g k A B C D F J (c19 g k A B C D F J (fun z27 => q z27)) (fun z8 => q z8)
theorem c20_ev (A B C : Int) (D : L5) (F : L3) (J : L5) (K : Kont R) : V g k K [true, true, true] 15 (S2 A B C D F J) = c20 g k A B C D F J (fun z28 => K .ret (S3 z28)) :=
 (Eq.trans (by kernel_rfl) (c6_ev g k A B C D F J (seqK (V g k K [true, true, true, true] 31) K))).trans (congrArg (fun f_ => c6 g k A B C D F J f_ (fun z8 => K .ret (S3 z8))) (seqN (f := (V g k K [true, true, true, true] 31)) (K := K) (c19_ev g k A B C D F J K)))
def c21 (g : Cs R) (k : Nat) (A B C : Int) (D : L5) (F : L3) (J : L5) (q : Bool → Option R) : Option R :=
 s1 g k A B C D F J (c20 g k A B C D F J (fun z28 => q z28)) (fun z0 => q z0)
theorem c21_ev (A B C : Int) (D : L5) (F : L3) (J : L5) (K : Kont R) : V g k K [] 1 (S1 A B C D F J) = c21 g k A B C D F J (fun z29 => K .ret (S3 z29)) :=
 (Eq.trans (by kernel_rfl) (s1_ev g k A B C D F J (V g k K [true, true, true] 15) K)).trans (congrArg (fun f_ => s1 g k A B C D F J f_ (fun z0 => K .ret (S3 z0))) (c20_ev g k A B C D F J K))
def b (g : Cs R) (k : Nat) (A B C : Int) (D : L5) (F : L3) (J : L5) (K : Bool → Option R) : Option R :=
 c21 g k A B C D F J (fun z29 => K z29)
theorem evs (A B C : Int) (D : L5) (F : L3) (J : L5) (KF : Ret → Option R) : evFunc E (G g) k H [] false Tryz.f30 [.val true [ri A, ri B, ri C, .row .ro q5 D, .row .ro q3 F, .row .ro q5 J]] KF = b g k A B C D F J (fun r1 => KF ⟨[.val false [.s (.bool r1)]], []⟩) :=
 Eq.trans (by kernel_rfl) ((c21_ev g k A B C D F J (fin E.P false Tryz.f30 [] KF)).trans (by kernel_rfl))
end impl_KeepOk
namespace impl_KeepOk
def g (k : Nat) : Cs R := ⟨(), impl_isNode.c k, impl_in.c k, impl_notesOk.c k, impl_marksOk.c k, impl_onWay.c k, impl_markAt.c k⟩
def c (k : Nat) : T R := b (g k) k
end impl_KeepOk
/-! ### strings_Cut: function 58, of Go's library -/
namespace strings_Cut
abbrev T (R : Type) : Type := ByteArray → ByteArray → (ByteArray → ByteArray → Bool → Option R) → Option R
def con (f : T R) : Con R := ⟨[], fun args K => match args with
 | [.val false [.s (.string a0)], .val false [.s (.string a1)]] => f a0 a1 (fun r1 r2 r3 => K ⟨[.val false [.s (.string r1)], .val false [.s (.string r2)], .val false [.s (.bool r3)]], []⟩)
 | _ => none⟩
def c (k : Nat) : T R := fun a0 a1 K => cond (decide (a0.size < 4294967281)) (K (ByteArray.mk (Go.Lib.cut a0.data.toList a1.data.toList).1.toArray) (ByteArray.mk (Go.Lib.cut a0.data.toList a1.data.toList).2.1.toArray) (Go.Lib.cut a0.data.toList a1.data.toList).2.2) none
end strings_Cut
/-! ### impl_natural: function 59 -/
namespace impl_natural
abbrev T (R : Type) : Type := ByteArray → (Int → Bool → Option R) → Option R
def con (f : T R) : Con R := ⟨[], fun args K => match args with
 | [.val false [.s (.string a0)]] => f a0 (fun r1 r2 => K ⟨[.val false [ri r1], .val false [.s (.bool r2)]], []⟩)
 | _ => none⟩
structure Cs (R : Type) where
  none_ : Unit := ()
  f53 : impl_in.T R
def G (g : Cs R) : Cons R := [(53, impl_in.con g.f53)]
def H : List (Nat × Meet) := [(13, ⟨[(0, [])], []⟩), (14, ⟨[(0, []), (4, [])], []⟩), (53, ⟨[(2, []), (3, [])], []⟩), (60, ⟨[(0, []), (4, []), (5, [])], []⟩), (63, ⟨[(2, []), (3, [])], []⟩), (122, ⟨[(0, []), (4, []), (5, [])], []⟩), (979, ⟨[(0, []), (4, []), (5, [])], []⟩), (1955, ⟨[(4, [])], []⟩), (31301, ⟨[(2, []), (3, [])], []⟩)]
abbrev S1 (x1 : ByteArray) : St := mkSt [(0, .c (.s (.string x1)))] []
abbrev S2 (x1 : Int) (x2 : Bool) : St := mkSt [(2, .c (si x1)), (3, .c (.s (.bool x2)))] []
abbrev S3 (x1 : ByteArray) (x2 : Int) : St := mkSt [(0, .c (.s (.string x1))), (4, .c (si x2))] []
abbrev S4 (x1 : ByteArray) (x2 x3 : Int) : St := mkSt [(0, .c (.s (.string x1))), (4, .c (si x2)), (5, .c (si x3))] []
abbrev S5 (x1 : Int) : St := mkSt [(4, .c (si x1))] []
noncomputable abbrev V (g : Cs R) (k : Nat) (K : Kont R) (b : List Bool) (p : Nat) (st : St) : Option R := ev E (G g) k H (nodeAt (bodyOf Tryz.f59) b) p st K
noncomputable abbrev U (g : Cs R) (k : Nat) (n : Nat) (b : List Bool) : Nat → St → (St → Option R) → Kont R → Option R := evPre E (G g) k H n (nodeAt (bodyOf Tryz.f59) b)
noncomputable abbrev W (g : Cs R) (k : Nat) (b : List Bool) (p : Nat) : St → Kont R → Option R := ev E (G g) k H (nodeAt (bodyOf Tryz.f59) b) p
variable (g : Cs R) (k : Nat)
def s1 (g : Cs R) (k : Nat) (a0 : ByteArray) (j : Option R) (q : Int → Bool → Option R) : Option R :=
 g.f53 (a0.size : Int) 1 5 (fun r1 => cond (!r1) (q 0 false) (cond (decide (0 ≤ (0 : Int)) && decide ((0 : Int) < (a0.size : Int))) (cond (decide ((byteAt a0 0) = 48)) (cond (decide ((1 : Int) < (a0.size : Int))) (q 0 false) (j)) (j)) none))
theorem s1_ev (a0 : ByteArray) (X : St → Option R) (K : Kont R) : U g k 2 [] 1 (S1 a0) X K = s1 g k a0 (X (S1 a0)) (fun z0 z1 => K .ret (S2 z0 z1)) := by kernel_rfl
def s2 (g : Cs R) (k : Nat) (a0 : ByteArray) (j : Int → Option R) : Option R :=
 j 0
theorem s2_ev (a0 : ByteArray) (X : St → Option R) (K : Kont R) : U g k 1 [true, true] 7 (S1 a0) X K = s2 g k a0 (fun z2 => X (S3 a0 z2)) := by kernel_rfl
def s3 (g : Cs R) (k : Nat) (a0 : ByteArray) (z2 : Int) (j : Int → Option R) : Option R :=
 j 0
theorem s3_ev (a0 : ByteArray) (z2 : Int) (X : St → Option R) (K : Kont R) : U g k 1 [true, true, true, false] 30 (S3 a0 z2) X K = s3 g k a0 z2 (fun z3 => X (S4 a0 z2 z3)) := by kernel_rfl
def s4 (g : Cs R) (k : Nat) (a0 : ByteArray) (z4 z5 : Int) (j : Int → Int → Option R) (x0 : Option R) (q : Int → Bool → Option R) : Option R :=
 cond (decide (z5 < (a0.size : Int))) (cond (decide (0 ≤ z5) && decide (z5 < (a0.size : Int))) (g.f53 (IntKind.wrap .i64 ((byteAt a0 z5.toNat))) 48 57 (fun r1 => cond (!r1) (q 0 false) (cond (decide (0 ≤ z5) && decide (z5 < (a0.size : Int))) (let y2 := (IntKind.wrap .u8 ((byteAt a0 z5.toNat) - 48)); let y3 := (IntKind.wrap .i64 ((IntKind.wrap .i64 ((10 : Int) * z4)) + (IntKind.wrap .i64 (y2)))); j y3 (IntKind.wrap .i64 (z5 + 1))) none))) none) (x0)
theorem s4_ev (a0 : ByteArray) (z4 z5 : Int) (K : Kont R) : V g k K [true, true, true, false, true, false, false] 244 (S4 a0 z4 z5) = s4 g k a0 z4 z5 (fun z6 z7 => K .normal (S4 a0 z6 z7)) (K (.exit 0) (S5 z4)) (fun z8 z9 => K .ret (S2 z8 z9)) := by kernel_rfl
def l5r (g : Cs R) (k : Nat) (a0 : ByteArray) (x0 : Int → Option R) (q : Int → Bool → Option R) : Nat → Int → Int → Option R
 | 0, _, _ => none
 | n + 1, z4, z5 => s4 g k a0 z4 z5 (fun z6 z7 => l5r g k a0 x0 q n z6 z7) (x0 z4) (fun z8 z9 => q z8 z9)
def l5 (g : Cs R) (k : Nat) (a0 : ByteArray) (z2 z3 : Int) (x0 : Int → Option R) (q : Int → Bool → Option R) : Option R := l5r g k a0 x0 q k z2 z3
theorem l5r_ev (a0 : ByteArray) (K : Kont R) : ∀ (n : Nat) (z4 z5 : Int), evLoop (W g k [true, true, true, false, true, false, false] 244) (atMeet H 122) K n (S4 a0 z4 z5) = l5r g k a0 (fun z10 => K (.exit 0) (S5 z10)) (fun z11 z12 => K .ret (S2 z11 z12)) n z4 z5 := by
 intro n
 induction n with
 | zero => intros; rfl
 | succ n ih =>
  intro z4 z5
  exact Eq.trans (by kernel_rfl) ((s4_ev g k a0 z4 z5 (loopK (W g k [true, true, true, false, true, false, false] 244) (atMeet H 122) K n)).trans (Eq.trans (by kernel_rfl) (congrArg (fun f_ => s4 g k a0 z4 z5 f_ (K (.exit 0) (S5 z4)) (fun z8 z9 => K .ret (S2 z8 z9))) (funext fun (z6 : Int) => (funext fun (z7 : Int) => (ih z6 z7))))))
theorem l5_ev (a0 : ByteArray) (z2 z3 : Int) (K : Kont R) : V g k K [true, true, true, false, true, false] 122 (S4 a0 z2 z3) = l5 g k a0 z2 z3 (fun z10 => K (.exit 0) (S5 z10)) (fun z11 z12 => K .ret (S2 z11 z12)) :=
 Eq.trans (by kernel_rfl) (l5r_ev g k a0 K k z2 z3)
def b6 (g : Cs R) (k : Nat) (a0 : ByteArray) (z2 z3 : Int) (j : Int → Option R) (q : Int → Bool → Option R) : Option R :=
 l5 g k a0 z2 z3 (fun z10 => j z10) (fun z11 z12 => q z11 z12)
theorem b6_ev (a0 : ByteArray) (z2 z3 : Int) (K : Kont R) : V g k K [true, true, true, false, true] 61 (S4 a0 z2 z3) = b6 g k a0 z2 z3 (fun z13 => K .normal (S5 z13)) (fun z14 z15 => K .ret (S2 z14 z15)) :=
 Eq.trans (by kernel_rfl) ((l5_ev g k a0 z2 z3 (blockK 0 (fun st => K .normal (atMeet H 61 st)) K)).trans (by kernel_rfl))
def c7 (g : Cs R) (k : Nat) (a0 : ByteArray) (z2 : Int) (j : Int → Option R) (q : Int → Bool → Option R) : Option R :=
 s3 g k a0 z2 (fun z3 => b6 g k a0 z2 z3 (fun z13 => j z13) (fun z14 z15 => q z14 z15))
theorem c7_ev (a0 : ByteArray) (z2 : Int) (K : Kont R) : V g k K [true, true, true, false] 30 (S3 a0 z2) = c7 g k a0 z2 (fun z16 => K .normal (S5 z16)) (fun z17 z18 => K .ret (S2 z17 z18)) :=
 (Eq.trans (by kernel_rfl) (s3_ev g k a0 z2 (V g k K [true, true, true, false, true] 61) K)).trans (congrArg (fun f_ => s3 g k a0 z2 f_) (funext fun (z3 : Int) => (b6_ev g k a0 z2 z3 K)))
def s8 (g : Cs R) (k : Nat) (z16 : Int) (q : Bool → Option R) : Option R :=
 q true
theorem s8_ev (z16 : Int) (K : Kont R) : V g k K [true, true, true, true] 31 (S5 z16) = s8 g k z16 (fun z19 => K .ret (S2 z16 z19)) := by kernel_rfl
def c9 (g : Cs R) (k : Nat) (a0 : ByteArray) (z2 : Int) (q : Int → Bool → Option R) : Option R :=
 c7 g k a0 z2 (fun z16 => s8 g k z16 (fun z19 => q z16 z19)) (fun z17 z18 => q z17 z18)
theorem c9_ev (a0 : ByteArray) (z2 : Int) (K : Kont R) : V g k K [true, true, true] 15 (S3 a0 z2) = c9 g k a0 z2 (fun z20 z21 => K .ret (S2 z20 z21)) :=
 (Eq.trans (by kernel_rfl) (c7_ev g k a0 z2 (seqK (V g k K [true, true, true, true] 31) K))).trans (congrArg (fun f_ => c7 g k a0 z2 f_ (fun z17 z18 => K .ret (S2 z17 z18))) (funext fun (z16 : Int) => (seqN (f := (V g k K [true, true, true, true] 31)) (K := K) (s8_ev g k z16 K))))
def c10 (g : Cs R) (k : Nat) (a0 : ByteArray) (q : Int → Bool → Option R) : Option R :=
 s2 g k a0 (fun z2 => c9 g k a0 z2 (fun z20 z21 => q z20 z21))
theorem c10_ev (a0 : ByteArray) (K : Kont R) : V g k K [true, true] 7 (S1 a0) = c10 g k a0 (fun z22 z23 => K .ret (S2 z22 z23)) :=
 (Eq.trans (by kernel_rfl) (s2_ev g k a0 (V g k K [true, true, true] 15) K)).trans (congrArg (fun f_ => s2 g k a0 f_) (funext fun (z2 : Int) => (c9_ev g k a0 z2 K)))
def c11 (g : Cs R) (k : Nat) (a0 : ByteArray) (q : Int → Bool → Option R) : Option R :=
 s1 g k a0 (c10 g k a0 (fun z22 z23 => q z22 z23)) (fun z0 z1 => q z0 z1)
theorem c11_ev (a0 : ByteArray) (K : Kont R) : V g k K [] 1 (S1 a0) = c11 g k a0 (fun z24 z25 => K .ret (S2 z24 z25)) :=
 (Eq.trans (by kernel_rfl) (s1_ev g k a0 (V g k K [true, true] 7) K)).trans (congrArg (fun f_ => s1 g k a0 f_ (fun z0 z1 => K .ret (S2 z0 z1))) (c10_ev g k a0 K))
def b (g : Cs R) (k : Nat) (a0 : ByteArray) (K : Int → Bool → Option R) : Option R :=
 c11 g k a0 (fun z24 z25 => K z24 z25)
theorem evs (a0 : ByteArray) (KF : Ret → Option R) : evFunc E (G g) k H [] false Tryz.f59 [.val false [.s (.string a0)]] KF = b g k a0 (fun r1 r2 => KF ⟨[.val false [ri r1], .val false [.s (.bool r2)]], []⟩) :=
 Eq.trans (by kernel_rfl) ((c11_ev g k a0 (fin E.P false Tryz.f59 [] KF)).trans (by kernel_rfl))
end impl_natural
namespace impl_natural
def g (k : Nat) : Cs R := ⟨(), impl_in.c k⟩
def c (k : Nat) : T R := b (g k) k
end impl_natural
/-! ### impl_advance: function 96 -/
namespace impl_advance
abbrev T (R : Type) : Type := Int → Int → Int → (L5) → (L3) → (L5) → Int → (Int → Int → Int → (L5) → (L3) → (L5) → Option R) → Option R
def con (f : T R) : Con R := ⟨[], fun args K => match args with
 | [.val true [.s (.int .i64 A), .s (.int .i64 B), .s (.int .i64 C), D, F, J], .val false [.s (.int .i64 a1)]] => withRow q5 D fun M => withRow q3 F fun N => withRow q5 J fun O => f A B C M N O a1 (fun r1 r2 r3 r4 r5 r6 => K ⟨[.val true [ri r1, ri r2, ri r3, .row .own q5 r4, .row .own q3 r5, .row .ro q5 r6]], []⟩)
 | _ => none⟩
structure Cs (R : Type) where
  none_ : Unit := ()
def G (g : Cs R) : Cons R := []
def H : List (Nat × Meet) := [(6, ⟨[(1, []), (2, [(3, q5), (4, q3), (5, q5)]), (4, [(3, q5), (4, q3), (5, q5)]), (5, [(3, q5), (4, q3), (5, q5)])], []⟩), (28, ⟨[(1, []), (2, [(3, q5), (4, q3), (5, q5)]), (4, [(3, q5), (4, q3), (5, q5)]), (5, [(3, q5), (4, q3), (5, q5)]), (19, [(0, q5)]), (20, []), (21, [])], []⟩), (58, ⟨[(1, []), (2, [(3, q5), (4, q3), (5, q5)]), (4, [(3, q5), (4, q3), (5, q5)]), (5, [(3, q5), (4, q3), (5, q5)]), (19, [(0, q5)]), (20, []), (21, [])], []⟩), (60, ⟨[(1, []), (4, [(3, q5), (4, q3), (5, q5)]), (5, [(3, q5), (4, q3), (5, q5)]), (37, [(0, q3)]), (38, []), (39, [])], []⟩), (63, ⟨[(4, [(3, q5), (4, q3), (5, q5)])], []⟩), (122, ⟨[(1, []), (4, [(3, q5), (4, q3), (5, q5)]), (5, [(3, q5), (4, q3), (5, q5)]), (37, [(0, q3)]), (38, []), (39, [])], []⟩), (933, ⟨[(1, []), (2, [(3, q5), (4, q3), (5, q5)]), (4, [(3, q5), (4, q3), (5, q5)]), (5, [(3, q5), (4, q3), (5, q5)])], []⟩), (935, ⟨[(1, []), (2, [(3, q5), (4, q3), (5, q5)]), (4, [(3, q5), (4, q3), (5, q5)]), (5, [(3, q5), (4, q3), (5, q5)]), (19, [(0, q5)]), (20, []), (21, [])], []⟩), (1957, ⟨[(4, [(3, q5), (4, q3), (5, q5)]), (5, [(3, q5), (4, q3), (5, q5)])], []⟩), (1959, ⟨[(1, []), (4, [(3, q5), (4, q3), (5, q5)]), (5, [(3, q5), (4, q3), (5, q5)]), (37, [(0, q3)]), (38, []), (39, [])], []⟩)]
abbrev S1 (x1 x2 x3 x4 : Int) (x5 : L5) (x6 : L3) (x7 : L5) : St := mkSt [(0, .agg [si x1, si x2, si x3, .sl 3, .sl 4, .sl 5]), (1, .c (si x4))] [(3, .row .ro q5 x5), (4, .row .ro q3 x6), (5, .row .ro q5 x7)]
abbrev S2 (x1 x2 x3 x4 x5 x6 x7 : Int) (x8 : L5) (x9 : L3) (x10 x11 : L5) (x12 : L3) (x13 x14 : L5) (x15 : L3) : St := mkSt [(1, .c (si x1)), (2, .c (.ptr 9002 0 0)), (4, .c (.ptr 9004 0 0)), (5, .c (.ptr 9005 0 0))] [(9002, .box [si x2, si x3, si x4, .sl 3, .sl 4, .sl 5]), (9004, .box [si x5, si x6, si x7, .sl 1039004, .sl 1049004, .sl 1059004]), (9005, .box [si x2, si x1, si x4, .sl 1039005, .sl 1049005, .sl 5]), (3, .row .ro q5 x8), (4, .row .ro q3 x9), (5, .row .ro q5 x10), (1039004, .row .own q5 x11), (1049004, .row .own q3 x12), (1059004, .row .own q5 x13), (1039005, .row .own q5 x14), (1049005, .row .own q3 x15)]
abbrev S3 (x1 x2 x3 x4 x5 x6 x7 x8 x9 : Int) (x10 : L5) (x11 : L3) (x12 x13 : L5) (x14 : L3) (x15 x16 : L5) (x17 : L3) : St := mkSt [(1, .c (si x1)), (2, .c (.ptr 9002 0 0)), (4, .c (.ptr 9004 0 0)), (5, .c (.ptr 9005 0 0)), (19, .c (.sl 3)), (20, .c (si x2)), (21, .c (si x3))] [(9002, .box [si x4, si x5, si x6, .sl 3, .sl 4, .sl 5]), (9004, .box [si x7, si x8, si x9, .sl 1039004, .sl 1049004, .sl 1059004]), (9005, .box [si x4, si x1, si x6, .sl 1039005, .sl 1049005, .sl 5]), (3, .row .ro q5 x10), (4, .row .ro q3 x11), (5, .row .ro q5 x12), (1039004, .row .own q5 x13), (1049004, .row .own q3 x14), (1059004, .row .own q5 x15), (1039005, .row .own q5 x16), (1049005, .row .own q3 x17)]
abbrev S4 (x1 x2 x3 x4 x5 x6 x7 x8 : Int) (x9 : L3) (x10 : L5) (x11 : L3) (x12 x13 : L5) (x14 : L3) (x15 : L5) : St := mkSt [(1, .c (si x1)), (4, .c (.ptr 9004 0 0)), (5, .c (.ptr 9005 0 0)), (37, .c (.sl 4)), (38, .c (si x2)), (39, .c (si x3))] [(9004, .box [si x4, si x5, si x6, .sl 1039004, .sl 1049004, .sl 1059004]), (9005, .box [si x7, si x1, si x8, .sl 1039005, .sl 1049005, .sl 5]), (4, .row .ro q3 x9), (1039004, .row .own q5 x10), (1049004, .row .own q3 x11), (1059004, .row .own q5 x12), (1039005, .row .own q5 x13), (1049005, .row .own q3 x14), (5, .row .ro q5 x15)]
abbrev S5 (x1 x2 x3 x4 x5 x6 : Int) (x7 : L5) (x8 : L3) (x9 x10 : L5) (x11 : L3) (x12 : L5) : St := mkSt [(4, .c (.ptr 9004 0 0)), (5, .c (.ptr 9005 0 0))] [(9004, .box [si x1, si x2, si x3, .sl 1039004, .sl 1049004, .sl 1059004]), (9005, .box [si x4, si x5, si x6, .sl 1039005, .sl 1049005, .sl 5]), (1039004, .row .own q5 x7), (1049004, .row .own q3 x8), (1059004, .row .own q5 x9), (1039005, .row .own q5 x10), (1049005, .row .own q3 x11), (5, .row .ro q5 x12)]
abbrev S6 (x1 x2 x3 : Int) (x4 : L5) (x5 : L3) (x6 : L5) : St := mkSt [(4, .c (.ptr 9004 0 0))] [(9004, .box [si x1, si x2, si x3, .sl 1039004, .sl 1049004, .sl 5]), (1039004, .row .own q5 x4), (1049004, .row .own q3 x5), (5, .row .ro q5 x6)]
noncomputable abbrev V (g : Cs R) (k : Nat) (K : Kont R) (b : List Bool) (p : Nat) (st : St) : Option R := ev E (G g) k H (nodeAt (bodyOf Tryz.f96) b) p st K
noncomputable abbrev U (g : Cs R) (k : Nat) (n : Nat) (b : List Bool) : Nat → St → (St → Option R) → Kont R → Option R := evPre E (G g) k H n (nodeAt (bodyOf Tryz.f96) b)
noncomputable abbrev W (g : Cs R) (k : Nat) (b : List Bool) (p : Nat) : St → Kont R → Option R := ev E (G g) k H (nodeAt (bodyOf Tryz.f96) b) p
variable (g : Cs R) (k : Nat)
def s1 (g : Cs R) (k : Nat) (A B C a1 : Int) (D : L5) (F : L3) (J : L5) (j : Int → Int → Int → (L5) → (L3) → (L5) → (L5) → (L3) → Option R) : Option R :=
 j 0 0 0 [] [] [] [] []
theorem s1_ev (A C B a1 : Int) (D : L5) (F : L3) (J : L5) (X : St → Option R) (K : Kont R) : U g k 2 [] 1 (S1 A C B a1 D F J) X K = s1 g k A C B a1 D F J (fun z0 z1 z2 z3 z4 z5 z6 z7 => X (S2 a1 A C B z0 z1 z2 D F J z3 z4 z5 z6 z7)) := by kernel_rfl
def s2 (g : Cs R) (k : Nat) (a1 B C D z0 z1 z2 : Int) (A : L5) (F : L3) (J z3 : L5) (z4 : L3) (z5 z6 : L5) (z7 : L3) (j : Int → Int → Option R) : Option R :=
 j (A.length : Int) 0
theorem s2_ev (a1 A C B z0 z1 z2 : Int) (D : L5) (F : L3) (J z3 : L5) (z4 : L3) (z5 z6 : L5) (z7 : L3) (X : St → Option R) (K : Kont R) : U g k 1 [true, true, false] 14 (S2 a1 A C B z0 z1 z2 D F J z3 z4 z5 z6 z7) X K = s2 g k a1 A C B z0 z1 z2 D F J z3 z4 z5 z6 z7 (fun z8 z9 => X (S3 a1 z8 z9 A C B z0 z1 z2 D F J z3 z4 z5 z6 z7)) := by kernel_rfl
def s3 (g : Cs R) (k : Nat) (a1 z8 z10 B C D z0 z1 z2 : Int) (A : L5) (F : L3) (J z3 : L5) (z4 : L3) (z5 z11 : L5) (z7 : L3) (j : Int → (L5) → Option R) (x0 : Option R) : Option R :=
 cond (decide (z10 < z8)) (cond (decide (0 ≤ z10) && decide (z10 < (A.length : Int))) (let y1 := (A.getD z10.toNat n5).2.2.2.1; cond (decide (a1 < y1)) (let y2 := ([((A.getD z10.toNat n5).1, (A.getD z10.toNat n5).2.1, (A.getD z10.toNat n5).2.2.1, (A.getD z10.toNat n5).2.2.2.1, (A.getD z10.toNat n5).2.2.2.2)] : L5); cond (Nat.ble (z11.length + y2.length) lim) (j (IntKind.wrap .i64 (z10 + 1)) (z11 ++ y2)) none) (j (IntKind.wrap .i64 (z10 + 1)) z11)) none) (x0)
theorem s3_ev (a1 z8 z10 A C B z0 z1 z2 : Int) (D : L5) (F : L3) (J z3 : L5) (z4 : L3) (z5 z11 : L5) (z7 : L3) (K : Kont R) : V g k K [true, true, false, true, false, false] 116 (S3 a1 z8 z10 A C B z0 z1 z2 D F J z3 z4 z5 z11 z7) = s3 g k a1 z8 z10 A C B z0 z1 z2 D F J z3 z4 z5 z11 z7 (fun z12 z13 => K .normal (S3 a1 z8 z12 A C B z0 z1 z2 D F J z3 z4 z5 z13 z7)) (K (.exit 0) (S2 a1 A C B z0 z1 z2 D F J z3 z4 z5 z11 z7)) := by kernel_rfl
def l4r (g : Cs R) (k : Nat) (a1 z8 A B C z0 z1 z2 : Int) (D : L5) (F : L3) (J z3 : L5) (z4 : L3) (z5 : L5) (z7 : L3) (x0 : (L5) → Option R) : Nat → Int → (L5) → Option R
 | 0, _, _ => none
 | n + 1, z10, z11 => s3 g k a1 z8 z10 A B C z0 z1 z2 D F J z3 z4 z5 z11 z7 (fun z12 z13 => l4r g k a1 z8 A B C z0 z1 z2 D F J z3 z4 z5 z7 x0 n z12 z13) (x0 z11)
def l4 (g : Cs R) (k : Nat) (a1 z8 z9 A B C z0 z1 z2 : Int) (D : L5) (F : L3) (J z3 : L5) (z4 : L3) (z5 z6 : L5) (z7 : L3) (x0 : (L5) → Option R) : Option R := l4r g k a1 z8 A B C z0 z1 z2 D F J z3 z4 z5 z7 x0 k z9 z6
theorem l4r_ev (a1 z8 A C B z0 z1 z2 : Int) (D : L5) (F : L3) (J z3 : L5) (z4 : L3) (z5 : L5) (z7 : L3) (K : Kont R) : ∀ (n : Nat) (z10 : Int) (z11 : L5), evLoop (W g k [true, true, false, true, false, false] 116) (atMeet H 58) K n (S3 a1 z8 z10 A C B z0 z1 z2 D F J z3 z4 z5 z11 z7) = l4r g k a1 z8 A C B z0 z1 z2 D F J z3 z4 z5 z7 (fun z14 => K (.exit 0) (S2 a1 A C B z0 z1 z2 D F J z3 z4 z5 z14 z7)) n z10 z11 := by
 intro n
 induction n with
 | zero => intros; rfl
 | succ n ih =>
  intro z10 z11
  exact Eq.trans (by kernel_rfl) ((s3_ev g k a1 z8 z10 A C B z0 z1 z2 D F J z3 z4 z5 z11 z7 (loopK (W g k [true, true, false, true, false, false] 116) (atMeet H 58) K n)).trans (Eq.trans (by kernel_rfl) (congrArg (fun f_ => s3 g k a1 z8 z10 A C B z0 z1 z2 D F J z3 z4 z5 z11 z7 f_ (K (.exit 0) (S2 a1 A C B z0 z1 z2 D F J z3 z4 z5 z11 z7))) (funext fun (z12 : Int) => (funext fun (z13 : L5) => (ih z12 z13))))))
theorem l4_ev (a1 z8 z9 A C B z0 z1 z2 : Int) (D : L5) (F : L3) (J z3 : L5) (z4 : L3) (z5 z6 : L5) (z7 : L3) (K : Kont R) : V g k K [true, true, false, true, false] 58 (S3 a1 z8 z9 A C B z0 z1 z2 D F J z3 z4 z5 z6 z7) = l4 g k a1 z8 z9 A C B z0 z1 z2 D F J z3 z4 z5 z6 z7 (fun z14 => K (.exit 0) (S2 a1 A C B z0 z1 z2 D F J z3 z4 z5 z14 z7)) :=
 Eq.trans (by kernel_rfl) (l4r_ev g k a1 z8 A C B z0 z1 z2 D F J z3 z4 z5 z7 K k z9 z6)
def b5 (g : Cs R) (k : Nat) (a1 z8 z9 A B C z0 z1 z2 : Int) (D : L5) (F : L3) (J z3 : L5) (z4 : L3) (z5 z6 : L5) (z7 : L3) (j : (L5) → Option R) : Option R :=
 l4 g k a1 z8 z9 A B C z0 z1 z2 D F J z3 z4 z5 z6 z7 (fun z14 => j z14)
theorem b5_ev (a1 z8 z9 A C B z0 z1 z2 : Int) (D : L5) (F : L3) (J z3 : L5) (z4 : L3) (z5 z6 : L5) (z7 : L3) (K : Kont R) : V g k K [true, true, false, true] 29 (S3 a1 z8 z9 A C B z0 z1 z2 D F J z3 z4 z5 z6 z7) = b5 g k a1 z8 z9 A C B z0 z1 z2 D F J z3 z4 z5 z6 z7 (fun z15 => K .normal (S2 a1 A C B z0 z1 z2 D F J z3 z4 z5 z15 z7)) :=
 Eq.trans (by kernel_rfl) ((l4_ev g k a1 z8 z9 A C B z0 z1 z2 D F J z3 z4 z5 z6 z7 (blockK 0 (fun st => K .normal (atMeet H 29 st)) K)).trans (by kernel_rfl))
def c6 (g : Cs R) (k : Nat) (a1 A B C z0 z1 z2 : Int) (D : L5) (F : L3) (J z3 : L5) (z4 : L3) (z5 z6 : L5) (z7 : L3) (j : (L5) → Option R) : Option R :=
 s2 g k a1 A B C z0 z1 z2 D F J z3 z4 z5 z6 z7 (fun z8 z9 => b5 g k a1 z8 z9 A B C z0 z1 z2 D F J z3 z4 z5 z6 z7 (fun z15 => j z15))
theorem c6_ev (a1 A C B z0 z1 z2 : Int) (D : L5) (F : L3) (J z3 : L5) (z4 : L3) (z5 z6 : L5) (z7 : L3) (K : Kont R) : V g k K [true, true, false] 14 (S2 a1 A C B z0 z1 z2 D F J z3 z4 z5 z6 z7) = c6 g k a1 A C B z0 z1 z2 D F J z3 z4 z5 z6 z7 (fun z16 => K .normal (S2 a1 A C B z0 z1 z2 D F J z3 z4 z5 z16 z7)) :=
 (Eq.trans (by kernel_rfl) (s2_ev g k a1 A C B z0 z1 z2 D F J z3 z4 z5 z6 z7 (V g k K [true, true, false, true] 29) K)).trans (congrArg (fun f_ => s2 g k a1 A C B z0 z1 z2 D F J z3 z4 z5 z6 z7 f_) (funext fun (z8 : Int) => (funext fun (z9 : Int) => (b5_ev g k a1 z8 z9 A C B z0 z1 z2 D F J z3 z4 z5 z6 z7 K))))
def s7 (g : Cs R) (k : Nat) (a1 B C D z0 z1 z2 : Int) (F : L5) (A : L3) (J z3 : L5) (z4 : L3) (z5 z16 : L5) (z7 : L3) (j : Int → Int → Option R) : Option R :=
 j (A.length : Int) 0
theorem s7_ev (a1 A F B z0 z1 z2 : Int) (J : L5) (C : L3) (D z3 : L5) (z4 : L3) (z5 z16 : L5) (z7 : L3) (X : St → Option R) (K : Kont R) : U g k 1 [true, true, true, false] 30 (S2 a1 A F B z0 z1 z2 J C D z3 z4 z5 z16 z7) X K = s7 g k a1 A F B z0 z1 z2 J C D z3 z4 z5 z16 z7 (fun z17 z18 => X (S4 a1 z17 z18 z0 z1 z2 A B C z3 z4 z5 z16 z7 D)) := by kernel_rfl
def s8 (g : Cs R) (k : Nat) (a1 z17 z19 z0 z1 z2 B C : Int) (A : L3) (z3 : L5) (z4 : L3) (z5 z16 : L5) (z20 : L3) (D : L5) (j : Int → (L3) → Option R) (x2 : Option R) : Option R :=
 cond (decide (z19 < z17)) (cond (decide (0 ≤ z19) && decide (z19 < (A.length : Int))) (let y1 := (A.getD z19.toNat n3).2.2; cond (decide (a1 < y1)) (let y2 := ([((A.getD z19.toNat n3).1, (A.getD z19.toNat n3).2.1, (A.getD z19.toNat n3).2.2)] : L3); cond (Nat.ble (z20.length + y2.length) lim) (j (IntKind.wrap .i64 (z19 + 1)) (z20 ++ y2)) none) (j (IntKind.wrap .i64 (z19 + 1)) z20)) none) (x2)
theorem s8_ev (a1 z17 z19 z0 z1 z2 A B : Int) (D : L3) (z3 : L5) (z4 : L3) (z5 z16 : L5) (z20 : L3) (C : L5) (K : Kont R) : V g k K [true, true, true, false, true, false, false] 244 (S4 a1 z17 z19 z0 z1 z2 A B D z3 z4 z5 z16 z20 C) = s8 g k a1 z17 z19 z0 z1 z2 A B D z3 z4 z5 z16 z20 C (fun z21 z22 => K .normal (S4 a1 z17 z21 z0 z1 z2 A B D z3 z4 z5 z16 z22 C)) (K (.exit 2) (S5 z0 z1 z2 A a1 B z3 z4 z5 z16 z20 C)) := by kernel_rfl
def l9r (g : Cs R) (k : Nat) (a1 z17 z0 z1 z2 A B : Int) (C : L3) (z3 : L5) (z4 : L3) (z5 z16 D : L5) (x2 : (L3) → Option R) : Nat → Int → (L3) → Option R
 | 0, _, _ => none
 | n + 1, z19, z20 => s8 g k a1 z17 z19 z0 z1 z2 A B C z3 z4 z5 z16 z20 D (fun z21 z22 => l9r g k a1 z17 z0 z1 z2 A B C z3 z4 z5 z16 D x2 n z21 z22) (x2 z20)
def l9 (g : Cs R) (k : Nat) (a1 z17 z18 z0 z1 z2 A B : Int) (C : L3) (z3 : L5) (z4 : L3) (z5 z16 : L5) (z7 : L3) (D : L5) (x2 : (L3) → Option R) : Option R := l9r g k a1 z17 z0 z1 z2 A B C z3 z4 z5 z16 D x2 k z18 z7
theorem l9r_ev (a1 z17 z0 z1 z2 A B : Int) (D : L3) (z3 : L5) (z4 : L3) (z5 z16 C : L5) (K : Kont R) : ∀ (n : Nat) (z19 : Int) (z20 : L3), evLoop (W g k [true, true, true, false, true, false, false] 244) (atMeet H 122) K n (S4 a1 z17 z19 z0 z1 z2 A B D z3 z4 z5 z16 z20 C) = l9r g k a1 z17 z0 z1 z2 A B D z3 z4 z5 z16 C (fun z23 => K (.exit 2) (S5 z0 z1 z2 A a1 B z3 z4 z5 z16 z23 C)) n z19 z20 := by
 intro n
 induction n with
 | zero => intros; rfl
 | succ n ih =>
  intro z19 z20
  exact Eq.trans (by kernel_rfl) ((s8_ev g k a1 z17 z19 z0 z1 z2 A B D z3 z4 z5 z16 z20 C (loopK (W g k [true, true, true, false, true, false, false] 244) (atMeet H 122) K n)).trans (Eq.trans (by kernel_rfl) (congrArg (fun f_ => s8 g k a1 z17 z19 z0 z1 z2 A B D z3 z4 z5 z16 z20 C f_ (K (.exit 2) (S5 z0 z1 z2 A a1 B z3 z4 z5 z16 z20 C))) (funext fun (z21 : Int) => (funext fun (z22 : L3) => (ih z21 z22))))))
theorem l9_ev (a1 z17 z18 z0 z1 z2 A B : Int) (D : L3) (z3 : L5) (z4 : L3) (z5 z16 : L5) (z7 : L3) (C : L5) (K : Kont R) : V g k K [true, true, true, false, true, false] 122 (S4 a1 z17 z18 z0 z1 z2 A B D z3 z4 z5 z16 z7 C) = l9 g k a1 z17 z18 z0 z1 z2 A B D z3 z4 z5 z16 z7 C (fun z23 => K (.exit 2) (S5 z0 z1 z2 A a1 B z3 z4 z5 z16 z23 C)) :=
 Eq.trans (by kernel_rfl) (l9r_ev g k a1 z17 z0 z1 z2 A B D z3 z4 z5 z16 C K k z18 z7)
def b10 (g : Cs R) (k : Nat) (a1 z17 z18 z0 z1 z2 A B : Int) (C : L3) (z3 : L5) (z4 : L3) (z5 z16 : L5) (z7 : L3) (D : L5) (j : (L3) → Option R) : Option R :=
 l9 g k a1 z17 z18 z0 z1 z2 A B C z3 z4 z5 z16 z7 D (fun z23 => j z23)
theorem b10_ev (a1 z17 z18 z0 z1 z2 A B : Int) (D : L3) (z3 : L5) (z4 : L3) (z5 z16 : L5) (z7 : L3) (C : L5) (K : Kont R) : V g k K [true, true, true, false, true] 61 (S4 a1 z17 z18 z0 z1 z2 A B D z3 z4 z5 z16 z7 C) = b10 g k a1 z17 z18 z0 z1 z2 A B D z3 z4 z5 z16 z7 C (fun z24 => K .normal (S5 z0 z1 z2 A a1 B z3 z4 z5 z16 z24 C)) :=
 Eq.trans (by kernel_rfl) ((l9_ev g k a1 z17 z18 z0 z1 z2 A B D z3 z4 z5 z16 z7 C (blockK 2 (fun st => K .normal (atMeet H 61 st)) K)).trans (by kernel_rfl))
def c11 (g : Cs R) (k : Nat) (a1 A F B z0 z1 z2 : Int) (J : L5) (C : L3) (D z3 : L5) (z4 : L3) (z5 z16 : L5) (z7 : L3) (j : (L3) → Option R) : Option R :=
 s7 g k a1 A F B z0 z1 z2 J C D z3 z4 z5 z16 z7 (fun z17 z18 => b10 g k a1 z17 z18 z0 z1 z2 A B C z3 z4 z5 z16 z7 D (fun z24 => j z24))
theorem c11_ev (a1 A F B z0 z1 z2 : Int) (J : L5) (D : L3) (C z3 : L5) (z4 : L3) (z5 z16 : L5) (z7 : L3) (K : Kont R) : V g k K [true, true, true, false] 30 (S2 a1 A F B z0 z1 z2 J D C z3 z4 z5 z16 z7) = c11 g k a1 A F B z0 z1 z2 J D C z3 z4 z5 z16 z7 (fun z25 => K .normal (S5 z0 z1 z2 A a1 B z3 z4 z5 z16 z25 C)) :=
 (Eq.trans (by kernel_rfl) (s7_ev g k a1 A F B z0 z1 z2 J D C z3 z4 z5 z16 z7 (V g k K [true, true, true, false, true] 61) K)).trans (congrArg (fun f_ => s7 g k a1 A F B z0 z1 z2 J D C z3 z4 z5 z16 z7 f_) (funext fun (z17 : Int) => (funext fun (z18 : Int) => (b10_ev g k a1 z17 z18 z0 z1 z2 A B D z3 z4 z5 z16 z7 C K))))
def s12 (g : Cs R) (k : Nat) (z0 z1 z2 A a1 B : Int) (z3 : L5) (z4 : L3) (z5 z16 : L5) (z25 : L3) (C : L5) (q : Option R) : Option R :=
 q
theorem s12_ev (z0 z1 z2 A a1 B : Int) (z3 : L5) (z4 : L3) (z5 z16 : L5) (z25 : L3) (C : L5) (K : Kont R) : V g k K [true, true, true, true] 31 (S5 z0 z1 z2 A a1 B z3 z4 z5 z16 z25 C) = s12 g k z0 z1 z2 A a1 B z3 z4 z5 z16 z25 C (K .ret (S6 A a1 B z16 z25 C)) := by kernel_rfl
def c13 (g : Cs R) (k : Nat) (a1 A D B z0 z1 z2 : Int) (F : L5) (J : L3) (C z3 : L5) (z4 : L3) (z5 z16 : L5) (z7 : L3) (q : (L3) → Option R) : Option R :=
 c11 g k a1 A D B z0 z1 z2 F J C z3 z4 z5 z16 z7 (fun z25 => s12 g k z0 z1 z2 A a1 B z3 z4 z5 z16 z25 C (q z25))
theorem c13_ev (a1 A D B z0 z1 z2 : Int) (F : L5) (J : L3) (C z3 : L5) (z4 : L3) (z5 z16 : L5) (z7 : L3) (K : Kont R) : V g k K [true, true, true] 15 (S2 a1 A D B z0 z1 z2 F J C z3 z4 z5 z16 z7) = c13 g k a1 A D B z0 z1 z2 F J C z3 z4 z5 z16 z7 (fun z26 => K .ret (S6 A a1 B z16 z26 C)) :=
 (Eq.trans (by kernel_rfl) (c11_ev g k a1 A D B z0 z1 z2 F J C z3 z4 z5 z16 z7 (seqK (V g k K [true, true, true, true] 31) K))).trans (congrArg (fun f_ => c11 g k a1 A D B z0 z1 z2 F J C z3 z4 z5 z16 z7 f_) (funext fun (z25 : L3) => (seqN (f := (V g k K [true, true, true, true] 31)) (K := K) (s12_ev g k z0 z1 z2 A a1 B z3 z4 z5 z16 z25 C K))))
def c14 (g : Cs R) (k : Nat) (a1 A B C z0 z1 z2 : Int) (D : L5) (F : L3) (J z3 : L5) (z4 : L3) (z5 z6 : L5) (z7 : L3) (q : (L5) → (L3) → Option R) : Option R :=
 c6 g k a1 A B C z0 z1 z2 D F J z3 z4 z5 z6 z7 (fun z16 => c13 g k a1 A B C z0 z1 z2 D F J z3 z4 z5 z16 z7 (fun z26 => q z16 z26))
theorem c14_ev (a1 A D B z0 z1 z2 : Int) (F : L5) (J : L3) (C z3 : L5) (z4 : L3) (z5 z6 : L5) (z7 : L3) (K : Kont R) : V g k K [true, true] 7 (S2 a1 A D B z0 z1 z2 F J C z3 z4 z5 z6 z7) = c14 g k a1 A D B z0 z1 z2 F J C z3 z4 z5 z6 z7 (fun z27 z28 => K .ret (S6 A a1 B z27 z28 C)) :=
 (Eq.trans (by kernel_rfl) (c6_ev g k a1 A D B z0 z1 z2 F J C z3 z4 z5 z6 z7 (seqK (V g k K [true, true, true] 15) K))).trans (congrArg (fun f_ => c6 g k a1 A D B z0 z1 z2 F J C z3 z4 z5 z6 z7 f_) (funext fun (z16 : L5) => (seqN (f := (V g k K [true, true, true] 15)) (K := K) (c13_ev g k a1 A D B z0 z1 z2 F J C z3 z4 z5 z16 z7 K))))
def c15 (g : Cs R) (k : Nat) (A B C a1 : Int) (D : L5) (F : L3) (J : L5) (q : (L5) → (L3) → Option R) : Option R :=
 s1 g k A B C a1 D F J (fun z0 z1 z2 z3 z4 z5 z6 z7 => c14 g k a1 A B C z0 z1 z2 D F J z3 z4 z5 z6 z7 (fun z27 z28 => q z27 z28))
theorem c15_ev (A D B a1 : Int) (F : L5) (J : L3) (C : L5) (K : Kont R) : V g k K [] 1 (S1 A D B a1 F J C) = c15 g k A D B a1 F J C (fun z29 z30 => K .ret (S6 A a1 B z29 z30 C)) :=
 (Eq.trans (by kernel_rfl) (s1_ev g k A D B a1 F J C (V g k K [true, true] 7) K)).trans (congrArg (fun f_ => s1 g k A D B a1 F J C f_) (funext fun (z0 : Int) => (funext fun (z1 : Int) => (funext fun (z2 : Int) => (funext fun (z3 : L5) => (funext fun (z4 : L3) => (funext fun (z5 : L5) => (funext fun (z6 : L5) => (funext fun (z7 : L3) => (c14_ev g k a1 A D B z0 z1 z2 F J C z3 z4 z5 z6 z7 K))))))))))
def b (g : Cs R) (k : Nat) (A D B : Int) (F : L5) (J : L3) (C : L5) (a1 : Int) (K : Int → Int → Int → (L5) → (L3) → (L5) → Option R) : Option R :=
 c15 g k A D B a1 F J C (fun z29 z30 => K A a1 B z29 z30 C)
theorem evs (A B C : Int) (D : L5) (F : L3) (J : L5) (a1 : Int) (KF : Ret → Option R) : evFunc E (G g) k H [] false Tryz.f96 [.val true [ri A, ri B, ri C, .row .ro q5 D, .row .ro q3 F, .row .ro q5 J], .val false [ri a1]] KF = b g k A B C D F J a1 (fun r1 r2 r3 r4 r5 r6 => KF ⟨[.val true [ri r1, ri r2, ri r3, .row .own q5 r4, .row .own q3 r5, .row .ro q5 r6]], []⟩) :=
 Eq.trans (by kernel_rfl) ((c15_ev g k A B C a1 D F J (fin E.P false Tryz.f96 [] KF)).trans (by kernel_rfl))
end impl_advance
namespace impl_advance
def g (k : Nat) : Cs R := ⟨()⟩
def c (k : Nat) : T R := b (g k) k
end impl_advance
/-! ### impl_doNum: function 60 -/
namespace impl_doNum
abbrev T (R : Type) : Type := Int → Int → Int → (L5) → (L3) → (L5) → ByteArray → Int → (Int → Int → Int → (L5) → (L3) → (L5) → Bool → Option R) → Option R
def con (f : T R) : Con R := ⟨[], fun args K => match args with
 | [.val true [.s (.int .i64 A), .s (.int .i64 B), .s (.int .i64 C), D, F, J], .val false [.s (.string a1)], .val false [.s (.int .i64 a2)]] => withRow q5 D fun M => withRow q3 F fun N => withRow q5 J fun O => f A B C M N O a1 a2 (fun r1 r2 r3 r4 r5 r6 r7 => K ⟨[.val true [ri r1, ri r2, ri r3, .row .ro q5 r4, .row .ro q3 r5, .row .ro q5 r6], .val false [.s (.bool r7)]], []⟩)
 | _ => none⟩
structure Cs (R : Type) where
  none_ : Unit := ()
  f96 : impl_advance.T R
def G (g : Cs R) : Cons R := [(96, impl_advance.con g.f96)]
def H : List (Nat × Meet) := []
variable (g : Cs R) (k : Nat)
def b (g : Cs R) (k : Nat) (B A C : Int) (D : L5) (F : L3) (J : L5) (a1 : ByteArray) (a2 : Int) (K : Int → Int → Int → (L5) → (L3) → (L5) → Bool → Option R) : Option R :=
 let y1 := (decide (a1 = (ByteArray.mk #[116, 105, 109, 101]))); cond y1 (cond (decide (A < a2)) (g.f96 B A C D F J a2 (fun r2 r3 r4 r5 r6 r7 => K r2 r3 r4 r5 r6 r7 true)) (let y8 := (decide (a1 = (ByteArray.mk #[110, 101, 120, 116]))); cond y8 (cond (decide (C < a2)) (K B A a2 D F J true) (K B A C D F J false)) (K B A C D F J false))) (let y9 := (decide (a1 = (ByteArray.mk #[110, 101, 120, 116]))); cond y9 (cond (decide (C < a2)) (K B A a2 D F J true) (K B A C D F J false)) (K B A C D F J false))
theorem evs (A B C : Int) (D : L5) (F : L3) (J : L5) (a1 : ByteArray) (a2 : Int) (KF : Ret → Option R) : evFunc E (G g) k H [] true Tryz.f60 [.val true [ri A, ri B, ri C, .row .ro q5 D, .row .ro q3 F, .row .ro q5 J], .val false [.s (.string a1)], .val false [ri a2]] KF = b g k A B C D F J a1 a2 (fun r1 r2 r3 r4 r5 r6 r7 => KF ⟨[.val true [ri r1, ri r2, ri r3, .row .ro q5 r4, .row .ro q3 r5, .row .ro q5 r6], .val false [.s (.bool r7)]], []⟩) :=
 by kernel_rfl
end impl_doNum
namespace impl_doNum
def g (k : Nat) : Cs R := ⟨(), impl_advance.c k⟩
def c (k : Nat) : T R := b (g k) k
end impl_doNum
/-! ### impl_naturals: function 63 -/
namespace impl_naturals
abbrev T (R : Type) : Type := List ByteArray → (List Int → Bool → Option R) → Option R
def con (f : T R) : Con R := ⟨[], fun args K => match args with
 | [.val false [pa0]] => withRow [.str] pa0 fun a0 => f a0 (fun r1 r2 => K ⟨[.val false [.row .own [.int .i64] r1], .val false [.s (.bool r2)]], []⟩)
 | _ => none⟩
structure Cs (R : Type) where
  none_ : Unit := ()
  f59 : impl_natural.T R
def G (g : Cs R) : Cons R := [(59, impl_natural.con g.f59)]
def H : List (Nat × Meet) := [(6, ⟨[(0, [(0, [.str])]), (4, [(0, [.int .i64])])], []⟩), (28, ⟨[(4, [(0, [.int .i64])]), (9, [(0, [.str])]), (10, []), (11, [])], []⟩), (31, ⟨[(2, [(0, [.int .i64])]), (3, [])], []⟩), (58, ⟨[(4, [(0, [.int .i64])]), (9, [(0, [.str])]), (10, []), (11, [])], []⟩), (933, ⟨[(4, [(0, [.int .i64])])], []⟩), (935, ⟨[(4, [(0, [.int .i64])]), (9, [(0, [.str])]), (10, []), (11, [])], []⟩), (119605, ⟨[(2, [(0, [.int .i64])]), (3, [])], []⟩)]
abbrev S1 (x1 : List ByteArray) (x2 : List Int) : St := mkSt [(0, .c (.sl 0)), (4, .c (.sl 9004))] [(0, .row .ro [.str] x1), (9004, .row .own [.int .i64] x2)]
abbrev S2 (x1 x2 : Int) (x3 : List Int) (x4 : List ByteArray) : St := mkSt [(4, .c (.sl 9004)), (9, .c (.sl 0)), (10, .c (si x1)), (11, .c (si x2))] [(9004, .row .own [.int .i64] x3), (0, .row .ro [.str] x4)]
abbrev S3 (x1 : List Int) : St := mkSt [(4, .c (.sl 9004))] [(9004, .row .own [.int .i64] x1)]
abbrev S4 (x1 : Bool) (x2 : List Int) : St := mkSt [(2, .c (.sl 9002)), (3, .c (.s (.bool x1)))] [(9002, .row .own [.int .i64] x2)]
noncomputable abbrev V (g : Cs R) (k : Nat) (K : Kont R) (b : List Bool) (p : Nat) (st : St) : Option R := ev E (G g) k H (nodeAt (bodyOf Tryz.f63) b) p st K
noncomputable abbrev U (g : Cs R) (k : Nat) (n : Nat) (b : List Bool) : Nat → St → (St → Option R) → Kont R → Option R := evPre E (G g) k H n (nodeAt (bodyOf Tryz.f63) b)
noncomputable abbrev W (g : Cs R) (k : Nat) (b : List Bool) (p : Nat) : St → Kont R → Option R := ev E (G g) k H (nodeAt (bodyOf Tryz.f63) b) p
variable (g : Cs R) (k : Nat)
def s1 (g : Cs R) (k : Nat) (a0 : List ByteArray) (j : List Int → Option R) : Option R :=
 j []
theorem s1_ev (a0 : List ByteArray) (X : St → Option R) (K : Kont R) : U g k 2 [] 1 (mkSt [(0, .c (.sl 0))] [(0, .row .ro [.str] a0)]) X K = s1 g k a0 (fun z0 => X (S1 a0 z0)) := by kernel_rfl
def s2 (g : Cs R) (k : Nat) (a0 : List ByteArray) (z0 : List Int) (j : Int → Int → Option R) : Option R :=
 j (a0.length : Int) 0
theorem s2_ev (a0 : List ByteArray) (z0 : List Int) (X : St → Option R) (K : Kont R) : U g k 1 [true, true, false] 14 (S1 a0 z0) X K = s2 g k a0 z0 (fun z1 z2 => X (S2 z1 z2 z0 a0)) := by kernel_rfl
def s3 (g : Cs R) (k : Nat) (z1 z3 : Int) (z4 : List Int) (a0 : List ByteArray) (j : Int → List Int → Option R) (x0 : Option R) (q : Bool → List Int → Option R) : Option R :=
 cond (decide (z3 < z1)) (cond (decide (0 ≤ z3) && decide (z3 < (a0.length : Int))) (g.f59 (a0.getD z3.toNat ByteArray.empty) (fun r1 r2 => cond (!r2) (q false []) (cond (Nat.ble (z4.length + ([r1] : List Int).length) lim) (j (IntKind.wrap .i64 (z3 + 1)) (z4 ++ ([r1] : List Int))) none))) none) (x0)
theorem s3_ev (z1 z3 : Int) (z4 : List Int) (a0 : List ByteArray) (K : Kont R) : V g k K [true, true, false, true, false, false] 116 (S2 z1 z3 z4 a0) = s3 g k z1 z3 z4 a0 (fun z5 z6 => K .normal (S2 z1 z5 z6 a0)) (K (.exit 0) (S3 z4)) (fun z7 z8 => K .ret (S4 z7 z8)) := by kernel_rfl
def l4r (g : Cs R) (k : Nat) (z1 : Int) (a0 : List ByteArray) (x0 : List Int → Option R) (q : Bool → List Int → Option R) : Nat → Int → List Int → Option R
 | 0, _, _ => none
 | n + 1, z3, z4 => s3 g k z1 z3 z4 a0 (fun z5 z6 => l4r g k z1 a0 x0 q n z5 z6) (x0 z4) (fun z7 z8 => q z7 z8)
def l4 (g : Cs R) (k : Nat) (z1 z2 : Int) (z0 : List Int) (a0 : List ByteArray) (x0 : List Int → Option R) (q : Bool → List Int → Option R) : Option R := l4r g k z1 a0 x0 q k z2 z0
theorem l4r_ev (z1 : Int) (a0 : List ByteArray) (K : Kont R) : ∀ (n : Nat) (z3 : Int) (z4 : List Int), evLoop (W g k [true, true, false, true, false, false] 116) (atMeet H 58) K n (S2 z1 z3 z4 a0) = l4r g k z1 a0 (fun z9 => K (.exit 0) (S3 z9)) (fun z10 z11 => K .ret (S4 z10 z11)) n z3 z4 := by
 intro n
 induction n with
 | zero => intros; rfl
 | succ n ih =>
  intro z3 z4
  exact Eq.trans (by kernel_rfl) ((s3_ev g k z1 z3 z4 a0 (loopK (W g k [true, true, false, true, false, false] 116) (atMeet H 58) K n)).trans (Eq.trans (by kernel_rfl) (congrArg (fun f_ => s3 g k z1 z3 z4 a0 f_ (K (.exit 0) (S3 z4)) (fun z7 z8 => K .ret (S4 z7 z8))) (funext fun (z5 : Int) => (funext fun (z6 : List Int) => (ih z5 z6))))))
theorem l4_ev (z1 z2 : Int) (z0 : List Int) (a0 : List ByteArray) (K : Kont R) : V g k K [true, true, false, true, false] 58 (S2 z1 z2 z0 a0) = l4 g k z1 z2 z0 a0 (fun z9 => K (.exit 0) (S3 z9)) (fun z10 z11 => K .ret (S4 z10 z11)) :=
 Eq.trans (by kernel_rfl) (l4r_ev g k z1 a0 K k z2 z0)
def b5 (g : Cs R) (k : Nat) (z1 z2 : Int) (z0 : List Int) (a0 : List ByteArray) (j : List Int → Option R) (q : Bool → List Int → Option R) : Option R :=
 l4 g k z1 z2 z0 a0 (fun z9 => j z9) (fun z10 z11 => q z10 z11)
theorem b5_ev (z1 z2 : Int) (z0 : List Int) (a0 : List ByteArray) (K : Kont R) : V g k K [true, true, false, true] 29 (S2 z1 z2 z0 a0) = b5 g k z1 z2 z0 a0 (fun z12 => K .normal (S3 z12)) (fun z13 z14 => K .ret (S4 z13 z14)) :=
 Eq.trans (by kernel_rfl) ((l4_ev g k z1 z2 z0 a0 (blockK 0 (fun st => K .normal (atMeet H 29 st)) K)).trans (by kernel_rfl))
def c6 (g : Cs R) (k : Nat) (a0 : List ByteArray) (z0 : List Int) (j : List Int → Option R) (q : Bool → List Int → Option R) : Option R :=
 s2 g k a0 z0 (fun z1 z2 => b5 g k z1 z2 z0 a0 (fun z12 => j z12) (fun z13 z14 => q z13 z14))
theorem c6_ev (a0 : List ByteArray) (z0 : List Int) (K : Kont R) : V g k K [true, true, false] 14 (S1 a0 z0) = c6 g k a0 z0 (fun z15 => K .normal (S3 z15)) (fun z16 z17 => K .ret (S4 z16 z17)) :=
 (Eq.trans (by kernel_rfl) (s2_ev g k a0 z0 (V g k K [true, true, false, true] 29) K)).trans (congrArg (fun f_ => s2 g k a0 z0 f_) (funext fun (z1 : Int) => (funext fun (z2 : Int) => (b5_ev g k z1 z2 z0 a0 K))))
def s7 (g : Cs R) (k : Nat) (z15 : List Int) (q : Bool → Option R) : Option R :=
 q true
theorem s7_ev (z15 : List Int) (K : Kont R) : V g k K [true, true, true] 15 (S3 z15) = s7 g k z15 (fun z18 => K .ret (S4 z18 z15)) := by kernel_rfl
def c8 (g : Cs R) (k : Nat) (a0 : List ByteArray) (z0 : List Int) (q : Bool → List Int → Option R) : Option R :=
 c6 g k a0 z0 (fun z15 => s7 g k z15 (fun z18 => q z18 z15)) (fun z16 z17 => q z16 z17)
theorem c8_ev (a0 : List ByteArray) (z0 : List Int) (K : Kont R) : V g k K [true, true] 7 (S1 a0 z0) = c8 g k a0 z0 (fun z19 z20 => K .ret (S4 z19 z20)) :=
 (Eq.trans (by kernel_rfl) (c6_ev g k a0 z0 (seqK (V g k K [true, true, true] 15) K))).trans (congrArg (fun f_ => c6 g k a0 z0 f_ (fun z16 z17 => K .ret (S4 z16 z17))) (funext fun (z15 : List Int) => (seqN (f := (V g k K [true, true, true] 15)) (K := K) (s7_ev g k z15 K))))
def c9 (g : Cs R) (k : Nat) (a0 : List ByteArray) (q : Bool → List Int → Option R) : Option R :=
 s1 g k a0 (fun z0 => c8 g k a0 z0 (fun z19 z20 => q z19 z20))
theorem c9_ev (a0 : List ByteArray) (K : Kont R) : V g k K [] 1 (mkSt [(0, .c (.sl 0))] [(0, .row .ro [.str] a0)]) = c9 g k a0 (fun z21 z22 => K .ret (S4 z21 z22)) :=
 (Eq.trans (by kernel_rfl) (s1_ev g k a0 (V g k K [true, true] 7) K)).trans (congrArg (fun f_ => s1 g k a0 f_) (funext fun (z0 : List Int) => (c8_ev g k a0 z0 K)))
def b (g : Cs R) (k : Nat) (a0 : List ByteArray) (K : List Int → Bool → Option R) : Option R :=
 c9 g k a0 (fun z21 z22 => K z22 z21)
theorem evs (a0 : List ByteArray) (KF : Ret → Option R) : evFunc E (G g) k H [] false Tryz.f63 [.val false [.row .ro [.str] a0]] KF = b g k a0 (fun r1 r2 => KF ⟨[.val false [.row .own [.int .i64] r1], .val false [.s (.bool r2)]], []⟩) :=
 Eq.trans (by kernel_rfl) ((c9_ev g k a0 (fin E.P false Tryz.f63 [] KF)).trans (by kernel_rfl))
end impl_naturals
namespace impl_naturals
def g (k : Nat) : Cs R := ⟨(), impl_natural.c k⟩
def c (k : Nat) : T R := b (g k) k
end impl_naturals
/-! ### strings_SplitN: function 97, of Go's library -/
namespace strings_SplitN
abbrev T (R : Type) : Type := ByteArray → ByteArray → Int → (List ByteArray → Option R) → Option R
def con (f : T R) : Con R := ⟨[], fun args K => match args with
 | [.val false [.s (.string a0)], .val false [.s (.string a1)], .val false [.s (.int .i64 a2)]] => f a0 a1 a2 (fun r1 => K ⟨[.val false [.row .own [.str] r1]], []⟩)
 | _ => none⟩
def c (k : Nat) : T R := fun a0 a1 a2 K => cond ((decide (a0.size < 4294967281) && decide (1 ≤ a1.size)) && (decide (1 ≤ a2) && decide (a2 ≤ 9223372036854775807))) (K (Go.Lib.splitB a1 0 (min a2.toNat (a0.size + 1) - 1) a0)) none
end strings_SplitN
/-! ### strconv_Itoa: function 109, of Go's library -/
namespace strconv_Itoa
abbrev T (R : Type) : Type := Int → (ByteArray → Option R) → Option R
def con (f : T R) : Con R := ⟨[], fun args K => match args with
 | [.val false [.s (.int .i64 a0)]] => f a0 (fun r1 => K ⟨[.val false [.s (.string r1)]], []⟩)
 | _ => none⟩
def c (k : Nat) : T R := fun a0 K => cond (decide (-9223372036854775808 ≤ a0) && decide (a0 ≤ 9223372036854775807)) (K (ByteArray.mk (Go.Lib.itoa a0).toArray)) none
end strconv_Itoa
/-! ### impl_NoteWrite: function 98 -/
namespace impl_NoteWrite
abbrev T (R : Type) : Type := Int → Int → Int → Int → ByteArray → (ByteArray → Option R) → Option R
def con (f : T R) : Con R := ⟨[], fun args K => match args with
 | [.val true [.s (.int .i64 A), .s (.int .i64 B), .s (.int .i64 C), .s (.int .i64 D), .s (.string F)]] => f A B C D F (fun r1 => K ⟨[.val false [.s (.string r1)]], []⟩)
 | _ => none⟩
structure Cs (R : Type) where
  none_ : Unit := ()
  f92 : impl_NoteOk.T R
  f109 : strconv_Itoa.T R
def G (g : Cs R) : Cons R := [(92, impl_NoteOk.con g.f92), (109, strconv_Itoa.con g.f109)]
def H : List (Nat × Meet) := []
variable (g : Cs R) (k : Nat)
def b (g : Cs R) (k : Nat) (B C D F : Int) (A : ByteArray) (K : ByteArray → Option R) : Option R :=
 g.f92 B C D F A (fun r1 => cond (!r1) (K (ByteArray.mk #[])) (g.f109 B (fun r2 => cond (decide (r2.size + (ByteArray.mk #[32]).size ≤ 9223372036854775807)) (g.f109 C (fun r3 => cond (decide ((r2 ++ (ByteArray.mk #[32])).size + r3.size ≤ 9223372036854775807)) (cond (decide (((r2 ++ (ByteArray.mk #[32])) ++ r3).size + (ByteArray.mk #[32]).size ≤ 9223372036854775807)) (let y4 := (((r2 ++ (ByteArray.mk #[32])) ++ r3) ++ (ByteArray.mk #[32])); g.f109 D (fun r5 => cond (decide (y4.size + r5.size ≤ 9223372036854775807)) (cond (decide ((y4 ++ r5).size + (ByteArray.mk #[32]).size ≤ 9223372036854775807)) (g.f109 F (fun r6 => cond (decide (((y4 ++ r5) ++ (ByteArray.mk #[32])).size + r6.size ≤ 9223372036854775807)) (cond (decide ((((y4 ++ r5) ++ (ByteArray.mk #[32])) ++ r6).size + (ByteArray.mk #[32]).size ≤ 9223372036854775807)) (let y7 := ((((y4 ++ r5) ++ (ByteArray.mk #[32])) ++ r6) ++ (ByteArray.mk #[32])); cond (decide (y7.size + A.size ≤ 9223372036854775807)) (K (y7 ++ A)) none) none) none)) none) none)) none) none)) none)))
theorem evs (A B C D : Int) (F : ByteArray) (KF : Ret → Option R) : evFunc E (G g) k H [] false Tryz.f98 [.val true [ri A, ri B, ri C, ri D, .s (.string F)]] KF = b g k A B C D F (fun r1 => KF ⟨[.val false [.s (.string r1)]], []⟩) :=
 by kernel_rfl
end impl_NoteWrite
namespace impl_NoteWrite
def g (k : Nat) : Cs R := ⟨(), impl_NoteOk.c k, strconv_Itoa.c k⟩
def c (k : Nat) : T R := b (g k) k
end impl_NoteWrite
/-! ### impl_NoteRead: function 61 -/
namespace impl_NoteRead
abbrev T (R : Type) : Type := ByteArray → (Int → Int → Int → Int → ByteArray → Bool → Option R) → Option R
def con (f : T R) : Con R := ⟨[], fun args K => match args with
 | [.val false [.s (.string a0)]] => f a0 (fun r1 r2 r3 r4 r5 r6 => K ⟨[.val true [ri r1, ri r2, ri r3, ri r4, .s (.string r5)], .val false [.s (.bool r6)]], []⟩)
 | _ => none⟩
structure Cs (R : Type) where
  none_ : Unit := ()
  f97 : strings_SplitN.T R
  f63 : impl_naturals.T R
  f92 : impl_NoteOk.T R
  f98 : impl_NoteWrite.T R
def G (g : Cs R) : Cons R := [(97, strings_SplitN.con g.f97), (63, impl_naturals.con g.f63), (92, impl_NoteOk.con g.f92), (98, impl_NoteWrite.con g.f98)]
def H : List (Nat × Meet) := []
variable (g : Cs R) (k : Nat)
def b (g : Cs R) (k : Nat) (a0 : ByteArray) (K : Int → Int → Int → Int → ByteArray → Bool → Option R) : Option R :=
 g.f97 a0 (ByteArray.mk #[32]) 5 (fun r1 => cond (!decide ((r1.length : Int) = 5)) (K 0 0 0 0 (ByteArray.mk #[]) false) (cond (decide (0 ≤ (4 : Int)) && decide ((4 : Int) ≤ (r1.length : Int))) (g.f63 (part (cs := [.str]) r1 0 4) (fun r2 r3 => cond (!r3) (K 0 0 0 0 (ByteArray.mk #[]) false) (cond (decide (0 ≤ (0 : Int)) && decide ((0 : Int) < (r2.length : Int))) (cond (decide (0 ≤ (1 : Int)) && decide ((1 : Int) < (r2.length : Int))) (cond (decide (0 ≤ (2 : Int)) && decide ((2 : Int) < (r2.length : Int))) (cond (decide (0 ≤ (3 : Int)) && decide ((3 : Int) < (r2.length : Int))) (cond (decide (0 ≤ (4 : Int)) && decide ((4 : Int) < (r1.length : Int))) (g.f92 (r2.getD 0 (0 : Int)) (r2.getD 1 (0 : Int)) (r2.getD 2 (0 : Int)) (r2.getD 3 (0 : Int)) (r1.getD 4 ByteArray.empty) (fun r4 => cond (!r4) (K 0 0 0 0 (ByteArray.mk #[]) false) (g.f98 (r2.getD 0 (0 : Int)) (r2.getD 1 (0 : Int)) (r2.getD 2 (0 : Int)) (r2.getD 3 (0 : Int)) (r1.getD 4 ByteArray.empty) (fun r5 => cond (!decide (r5 = a0)) (K 0 0 0 0 (ByteArray.mk #[]) false) (K (r2.getD 0 (0 : Int)) (r2.getD 1 (0 : Int)) (r2.getD 2 (0 : Int)) (r2.getD 3 (0 : Int)) (r1.getD 4 ByteArray.empty) true))))) none) none) none) none) none))) none))
theorem evs (a0 : ByteArray) (KF : Ret → Option R) : evFunc E (G g) k H [] false Tryz.f61 [.val false [.s (.string a0)]] KF = b g k a0 (fun r1 r2 r3 r4 r5 r6 => KF ⟨[.val true [ri r1, ri r2, ri r3, ri r4, .s (.string r5)], .val false [.s (.bool r6)]], []⟩) :=
 by kernel_rfl
end impl_NoteRead
namespace impl_NoteRead
def g (k : Nat) : Cs R := ⟨(), strings_SplitN.c k, impl_naturals.c k, impl_NoteOk.c k, impl_NoteWrite.c k⟩
def c (k : Nat) : T R := b (g k) k
end impl_NoteRead
/-! ### impl_noteAt: function 100 -/
namespace impl_noteAt
abbrev T (R : Type) : Type := (L5) → Int → Int → (Int → Option R) → Option R
def con (f : T R) : Con R := ⟨[], fun args K => match args with
 | [.val false [pa0], .val false [.s (.int .i64 a1)], .val false [.s (.int .i64 a2)]] => withRow q5 pa0 fun a0 => f a0 a1 a2 (fun r1 => K ⟨[.val false [ri r1]], []⟩)
 | _ => none⟩
structure Cs (R : Type) where
  none_ : Unit := ()
def G (g : Cs R) : Cons R := []
def H : List (Nat × Meet) := [(2, ⟨[(0, [(0, q5)]), (1, []), (2, [])], []⟩), (12, ⟨[(1, []), (2, []), (9, [(0, q5)]), (10, []), (11, [])], []⟩), (15, ⟨[(6, [])], []⟩), (26, ⟨[(1, []), (2, []), (9, [(0, q5)]), (10, []), (11, [])], []⟩), (421, ⟨[], []⟩), (423, ⟨[(1, []), (2, []), (9, [(0, q5)]), (10, []), (11, [])], []⟩), (13517, ⟨[(6, [])], []⟩)]
abbrev S1 (x1 x2 : Int) (x3 : L5) : St := mkSt [(0, .c (.sl 0)), (1, .c (si x1)), (2, .c (si x2))] [(0, .row .ro q5 x3)]
abbrev S2 (x1 x2 x3 x4 : Int) (x5 : L5) : St := mkSt [(1, .c (si x1)), (2, .c (si x2)), (9, .c (.sl 0)), (10, .c (si x3)), (11, .c (si x4))] [(0, .row .ro q5 x5)]
abbrev S3 : St := mkSt [] []
abbrev S4 (x1 : Int) : St := mkSt [(6, .c (si x1))] []
noncomputable abbrev V (g : Cs R) (k : Nat) (K : Kont R) (b : List Bool) (p : Nat) (st : St) : Option R := ev E (G g) k H (nodeAt (bodyOf Tryz.f100) b) p st K
noncomputable abbrev U (g : Cs R) (k : Nat) (n : Nat) (b : List Bool) : Nat → St → (St → Option R) → Kont R → Option R := evPre E (G g) k H n (nodeAt (bodyOf Tryz.f100) b)
noncomputable abbrev W (g : Cs R) (k : Nat) (b : List Bool) (p : Nat) : St → Kont R → Option R := ev E (G g) k H (nodeAt (bodyOf Tryz.f100) b) p
variable (g : Cs R) (k : Nat)
def s1 (g : Cs R) (k : Nat) (a1 a2 : Int) (a0 : L5) (j : Option R) : Option R :=
 j
theorem s1_ev (a1 a2 : Int) (a0 : L5) (X : St → Option R) (K : Kont R) : U g k 1 [] 1 (S1 a1 a2 a0) X K = s1 g k a1 a2 a0 (X (S1 a1 a2 a0)) := by kernel_rfl
def s2 (g : Cs R) (k : Nat) (a1 a2 : Int) (a0 : L5) (j : Int → Int → Option R) : Option R :=
 j (a0.length : Int) 0
theorem s2_ev (a1 a2 : Int) (a0 : L5) (X : St → Option R) (K : Kont R) : U g k 1 [true, false] 6 (S1 a1 a2 a0) X K = s2 g k a1 a2 a0 (fun z0 z1 => X (S2 a1 a2 z0 z1 a0)) := by kernel_rfl
def s3 (g : Cs R) (k : Nat) (a1 a2 z0 z2 : Int) (a0 : L5) (j : Int → Option R) (x0 : Option R) (q : Option R) : Option R :=
 cond (decide (z2 < z0)) (cond (decide (0 ≤ z2) && decide (z2 < (a0.length : Int))) (let y1 := (a0.getD z2.toNat n5).1; cond (decide (y1 = a1)) (let y2 := (a0.getD z2.toNat n5).2.1; cond (decide (y2 = a2)) (q) (j (IntKind.wrap .i64 (z2 + 1)))) (j (IntKind.wrap .i64 (z2 + 1)))) none) (x0)
theorem s3_ev (a1 a2 z0 z2 : Int) (a0 : L5) (K : Kont R) : V g k K [true, false, true, false, false] 52 (S2 a1 a2 z0 z2 a0) = s3 g k a1 a2 z0 z2 a0 (fun z3 => K .normal (S2 a1 a2 z0 z3 a0)) (K (.exit 0) S3) (K .ret (S4 z2)) := by kernel_rfl
def l4r (g : Cs R) (k : Nat) (a1 a2 z0 : Int) (a0 : L5) (x0 : Option R) (q : Int → Option R) : Nat → Int → Option R
 | 0, _ => none
 | n + 1, z2 => s3 g k a1 a2 z0 z2 a0 (fun z3 => l4r g k a1 a2 z0 a0 x0 q n z3) (x0) (q z2)
def l4 (g : Cs R) (k : Nat) (a1 a2 z0 z1 : Int) (a0 : L5) (x0 : Option R) (q : Int → Option R) : Option R := l4r g k a1 a2 z0 a0 x0 q k z1
theorem l4r_ev (a1 a2 z0 : Int) (a0 : L5) (K : Kont R) : ∀ (n : Nat) (z2 : Int), evLoop (W g k [true, false, true, false, false] 52) (atMeet H 26) K n (S2 a1 a2 z0 z2 a0) = l4r g k a1 a2 z0 a0 (K (.exit 0) S3) (fun z4 => K .ret (S4 z4)) n z2 := by
 intro n
 induction n with
 | zero => intros; rfl
 | succ n ih =>
  intro z2
  exact Eq.trans (by kernel_rfl) ((s3_ev g k a1 a2 z0 z2 a0 (loopK (W g k [true, false, true, false, false] 52) (atMeet H 26) K n)).trans (Eq.trans (by kernel_rfl) (congrArg (fun f_ => s3 g k a1 a2 z0 z2 a0 f_ (K (.exit 0) S3) (K .ret (S4 z2))) (funext fun (z3 : Int) => (ih z3)))))
theorem l4_ev (a1 a2 z0 z1 : Int) (a0 : L5) (K : Kont R) : V g k K [true, false, true, false] 26 (S2 a1 a2 z0 z1 a0) = l4 g k a1 a2 z0 z1 a0 (K (.exit 0) S3) (fun z4 => K .ret (S4 z4)) :=
 Eq.trans (by kernel_rfl) (l4r_ev g k a1 a2 z0 a0 K k z1)
def b5 (g : Cs R) (k : Nat) (a1 a2 z0 z1 : Int) (a0 : L5) (j : Option R) (q : Int → Option R) : Option R :=
 l4 g k a1 a2 z0 z1 a0 (j) (fun z4 => q z4)
theorem b5_ev (a1 a2 z0 z1 : Int) (a0 : L5) (K : Kont R) : V g k K [true, false, true] 13 (S2 a1 a2 z0 z1 a0) = b5 g k a1 a2 z0 z1 a0 (K .normal S3) (fun z5 => K .ret (S4 z5)) :=
 Eq.trans (by kernel_rfl) ((l4_ev g k a1 a2 z0 z1 a0 (blockK 0 (fun st => K .normal (atMeet H 13 st)) K)).trans (by kernel_rfl))
def c6 (g : Cs R) (k : Nat) (a1 a2 : Int) (a0 : L5) (j : Option R) (q : Int → Option R) : Option R :=
 s2 g k a1 a2 a0 (fun z0 z1 => b5 g k a1 a2 z0 z1 a0 (j) (fun z5 => q z5))
theorem c6_ev (a1 a2 : Int) (a0 : L5) (K : Kont R) : V g k K [true, false] 6 (S1 a1 a2 a0) = c6 g k a1 a2 a0 (K .normal S3) (fun z6 => K .ret (S4 z6)) :=
 (Eq.trans (by kernel_rfl) (s2_ev g k a1 a2 a0 (V g k K [true, false, true] 13) K)).trans (congrArg (fun f_ => s2 g k a1 a2 a0 f_) (funext fun (z0 : Int) => (funext fun (z1 : Int) => (b5_ev g k a1 a2 z0 z1 a0 K))))
def s7 (g : Cs R) (k : Nat)  (q : Int → Option R) : Option R :=
 q (-1)
theorem s7_ev  (K : Kont R) : V g k K [true, true] 7 S3 = s7 g k (fun z7 => K .ret (S4 z7)) := by kernel_rfl
def c8 (g : Cs R) (k : Nat) (a1 a2 : Int) (a0 : L5) (q : Int → Option R) : Option R :=
 c6 g k a1 a2 a0 (s7 g k (fun z7 => q z7)) (fun z6 => q z6)
theorem c8_ev (a1 a2 : Int) (a0 : L5) (K : Kont R) : V g k K [true] 3 (S1 a1 a2 a0) = c8 g k a1 a2 a0 (fun z8 => K .ret (S4 z8)) :=
 (Eq.trans (by kernel_rfl) (c6_ev g k a1 a2 a0 (seqK (V g k K [true, true] 7) K))).trans (congrArg (fun f_ => c6 g k a1 a2 a0 f_ (fun z6 => K .ret (S4 z6))) (seqN (f := (V g k K [true, true] 7)) (K := K) (s7_ev g k K)))
def c9 (g : Cs R) (k : Nat) (a1 a2 : Int) (a0 : L5) (q : Int → Option R) : Option R :=
 s1 g k a1 a2 a0 (c8 g k a1 a2 a0 (fun z8 => q z8))
theorem c9_ev (a1 a2 : Int) (a0 : L5) (K : Kont R) : V g k K [] 1 (S1 a1 a2 a0) = c9 g k a1 a2 a0 (fun z9 => K .ret (S4 z9)) :=
 (Eq.trans (by kernel_rfl) (s1_ev g k a1 a2 a0 (V g k K [true] 3) K)).trans (congrArg (fun f_ => s1 g k a1 a2 a0 f_) (c8_ev g k a1 a2 a0 K))
def b (g : Cs R) (k : Nat) (a0 : L5) (a1 a2 : Int) (K : Int → Option R) : Option R :=
 c9 g k a1 a2 a0 (fun z9 => K z9)
theorem evs (a0 : L5) (a1 a2 : Int) (KF : Ret → Option R) : evFunc E (G g) k H [] false Tryz.f100 [.val false [.row .ro q5 a0], .val false [ri a1], .val false [ri a2]] KF = b g k a0 a1 a2 (fun r1 => KF ⟨[.val false [ri r1]], []⟩) :=
 Eq.trans (by kernel_rfl) ((c9_ev g k a1 a2 a0 (fin E.P false Tryz.f100 [] KF)).trans (by kernel_rfl))
end impl_noteAt
namespace impl_noteAt
def g (k : Nat) : Cs R := ⟨()⟩
def c (k : Nat) : T R := b (g k) k
end impl_noteAt
/-! ### impl_noteIn: function 101 -/
namespace impl_noteIn
abbrev T (R : Type) : Type := (L5) → Int → Int → Int → Int → ByteArray → ((L5) → Option R) → Option R
def con (f : T R) : Con R := ⟨[], fun args K => match args with
 | [.val false [pa0], .val true [.s (.int .i64 A), .s (.int .i64 B), .s (.int .i64 C), .s (.int .i64 D), .s (.string F)]] => withRow q5 pa0 fun a0 => f a0 A B C D F (fun r1 => K ⟨[.val false [.row .own q5 r1]], []⟩)
 | _ => none⟩
structure Cs (R : Type) where
  none_ : Unit := ()
  f93 : impl_before.T R
def G (g : Cs R) : Cons R := [(93, impl_before.con g.f93)]
def H : List (Nat × Meet) := [(6, ⟨[(0, [(0, q5)]), (3, []), (5, [])], []⟩), (28, ⟨[(0, [(0, q5)]), (3, []), (5, [])], []⟩), (31, ⟨[(4, [(0, q5)])], []⟩), (113, ⟨[(0, [(0, q5)]), (3, []), (5, [])], []⟩), (451, ⟨[(0, [(0, q5)]), (3, []), (5, [])], []⟩)]
abbrev S1 (x1 : Int) (x2 : L5) (x3 x4 x5 x6 : Int) (x7 : ByteArray) : St := mkSt [(0, .c (.sl 0)), (3, .c (.ptr 9003 0 0)), (5, .c (si x1))] [(0, .row .ro q5 x2), (9003, .box [si x3, si x4, si x5, si x6, .s (.string x7)])]
abbrev S2 (x1 : L5) : St := mkSt [(4, .c (.sl 9004))] [(9004, .row .own q5 x1)]
noncomputable abbrev V (g : Cs R) (k : Nat) (K : Kont R) (b : List Bool) (p : Nat) (st : St) : Option R := ev E (G g) k H (nodeAt (bodyOf Tryz.f101) b) p st K
noncomputable abbrev U (g : Cs R) (k : Nat) (n : Nat) (b : List Bool) : Nat → St → (St → Option R) → Kont R → Option R := evPre E (G g) k H n (nodeAt (bodyOf Tryz.f101) b)
noncomputable abbrev W (g : Cs R) (k : Nat) (b : List Bool) (p : Nat) : St → Kont R → Option R := ev E (G g) k H (nodeAt (bodyOf Tryz.f101) b) p
variable (g : Cs R) (k : Nat)
def s1 (g : Cs R) (k : Nat) (A B C D : Int) (F : ByteArray) (a0 : L5) (j : Int → Option R) : Option R :=
 j 0
theorem s1_ev (A B C D : Int) (F : ByteArray) (a0 : L5) (X : St → Option R) (K : Kont R) : U g k 2 [] 1 (mkSt [(0, .c (.sl 0)), (1, .agg [si A, si B, si C, si D, .s (.string F)])] [(0, .row .ro q5 a0)]) X K = s1 g k A B C D F a0 (fun z0 => X (S1 z0 a0 A B C D F)) := by kernel_rfl
def s2 (g : Cs R) (k : Nat) (z1 : Int) (a0 : L5) (A B C D : Int) (F : ByteArray) (j : Int → Option R) (x0 : Option R) : Option R :=
 cond (decide (z1 < (a0.length : Int))) (cond (decide (0 ≤ z1) && decide (z1 < (a0.length : Int))) (let y1 := (a0.getD z1.toNat n5).1; cond (decide (0 ≤ z1) && decide (z1 < (a0.length : Int))) (let y2 := (a0.getD z1.toNat n5).2.1; g.f93 y1 y2 A B (fun r3 => cond r3 (j (IntKind.wrap .i64 (z1 + 1))) (x0))) none) none) (x0)
theorem s2_ev (z1 : Int) (a0 : L5) (A B C D : Int) (F : ByteArray) (K : Kont R) : V g k K [true, true, false, false, false] 56 (S1 z1 a0 A B C D F) = s2 g k z1 a0 A B C D F (fun z2 => K .normal (S1 z2 a0 A B C D F)) (K (.exit 0) (S1 z1 a0 A B C D F)) := by kernel_rfl
def l3r (g : Cs R) (k : Nat) (a0 : L5) (A B C D : Int) (F : ByteArray) (x0 : Int → Option R) : Nat → Int → Option R
 | 0, _ => none
 | n + 1, z1 => s2 g k z1 a0 A B C D F (fun z2 => l3r g k a0 A B C D F x0 n z2) (x0 z1)
def l3 (g : Cs R) (k : Nat) (z0 : Int) (a0 : L5) (A B C D : Int) (F : ByteArray) (x0 : Int → Option R) : Option R := l3r g k a0 A B C D F x0 k z0
theorem l3r_ev (a0 : L5) (A B C D : Int) (F : ByteArray) (K : Kont R) : ∀ (n : Nat) (z1 : Int), evLoop (W g k [true, true, false, false, false] 56) (atMeet H 28) K n (S1 z1 a0 A B C D F) = l3r g k a0 A B C D F (fun z3 => K (.exit 0) (S1 z3 a0 A B C D F)) n z1 := by
 intro n
 induction n with
 | zero => intros; rfl
 | succ n ih =>
  intro z1
  exact Eq.trans (by kernel_rfl) ((s2_ev g k z1 a0 A B C D F (loopK (W g k [true, true, false, false, false] 56) (atMeet H 28) K n)).trans (Eq.trans (by kernel_rfl) (congrArg (fun f_ => s2 g k z1 a0 A B C D F f_ (K (.exit 0) (S1 z1 a0 A B C D F))) (funext fun (z2 : Int) => (ih z2)))))
theorem l3_ev (z0 : Int) (a0 : L5) (A B C D : Int) (F : ByteArray) (K : Kont R) : V g k K [true, true, false, false] 28 (S1 z0 a0 A B C D F) = l3 g k z0 a0 A B C D F (fun z3 => K (.exit 0) (S1 z3 a0 A B C D F)) :=
 Eq.trans (by kernel_rfl) (l3r_ev g k a0 A B C D F K k z0)
def b4 (g : Cs R) (k : Nat) (z0 : Int) (a0 : L5) (A B C D : Int) (F : ByteArray) (j : Int → Option R) : Option R :=
 l3 g k z0 a0 A B C D F (fun z3 => j z3)
theorem b4_ev (z0 : Int) (a0 : L5) (A B C D : Int) (F : ByteArray) (K : Kont R) : V g k K [true, true, false] 14 (S1 z0 a0 A B C D F) = b4 g k z0 a0 A B C D F (fun z4 => K .normal (S1 z4 a0 A B C D F)) :=
 Eq.trans (by kernel_rfl) ((l3_ev g k z0 a0 A B C D F (blockK 0 (fun st => K .normal (atMeet H 14 st)) K)).trans (by kernel_rfl))
def s5 (g : Cs R) (k : Nat) (z4 : Int) (a0 : L5) (A B C D : Int) (F : ByteArray) (q : (L5) → Option R) : Option R :=
 cond (decide (0 ≤ z4) && decide (z4 ≤ (a0.length : Int))) (cond (Nat.ble (([] : L5).length + (part (cs := q5) a0 0 z4.toNat).length) lim) (let y1 := (([] : L5) ++ (part (cs := q5) a0 0 z4.toNat)); let y2 := ([(A, B, C, D, F)] : L5); cond (Nat.ble (y1.length + y2.length) lim) (cond (decide (0 ≤ z4) && decide (z4 ≤ (a0.length : Int))) (cond (Nat.ble ((y1 ++ y2).length + (part (cs := q5) a0 z4.toNat (a0.length - z4.toNat)).length) lim) (let y3 := ((y1 ++ y2) ++ (part (cs := q5) a0 z4.toNat (a0.length - z4.toNat))); q y3) none) none) none) none) none
theorem s5_ev (z4 : Int) (a0 : L5) (A B C D : Int) (F : ByteArray) (K : Kont R) : V g k K [true, true, true] 15 (S1 z4 a0 A B C D F) = s5 g k z4 a0 A B C D F (fun z5 => K .ret (S2 z5)) := by kernel_rfl
def c6 (g : Cs R) (k : Nat) (z0 : Int) (a0 : L5) (A B C D : Int) (F : ByteArray) (q : (L5) → Option R) : Option R :=
 b4 g k z0 a0 A B C D F (fun z4 => s5 g k z4 a0 A B C D F (fun z5 => q z5))
theorem c6_ev (z0 : Int) (a0 : L5) (A B C D : Int) (F : ByteArray) (K : Kont R) : V g k K [true, true] 7 (S1 z0 a0 A B C D F) = c6 g k z0 a0 A B C D F (fun z6 => K .ret (S2 z6)) :=
 (Eq.trans (by kernel_rfl) (b4_ev g k z0 a0 A B C D F (seqK (V g k K [true, true, true] 15) K))).trans (congrArg (fun f_ => b4 g k z0 a0 A B C D F f_) (funext fun (z4 : Int) => (seqN (f := (V g k K [true, true, true] 15)) (K := K) (s5_ev g k z4 a0 A B C D F K))))
def c7 (g : Cs R) (k : Nat) (A B C D : Int) (F : ByteArray) (a0 : L5) (q : (L5) → Option R) : Option R :=
 s1 g k A B C D F a0 (fun z0 => c6 g k z0 a0 A B C D F (fun z6 => q z6))
theorem c7_ev (A B C D : Int) (F : ByteArray) (a0 : L5) (K : Kont R) : V g k K [] 1 (mkSt [(0, .c (.sl 0)), (1, .agg [si A, si B, si C, si D, .s (.string F)])] [(0, .row .ro q5 a0)]) = c7 g k A B C D F a0 (fun z7 => K .ret (S2 z7)) :=
 (Eq.trans (by kernel_rfl) (s1_ev g k A B C D F a0 (V g k K [true, true] 7) K)).trans (congrArg (fun f_ => s1 g k A B C D F a0 f_) (funext fun (z0 : Int) => (c6_ev g k z0 a0 A B C D F K)))
def b (g : Cs R) (k : Nat) (a0 : L5) (A B C D : Int) (F : ByteArray) (K : (L5) → Option R) : Option R :=
 c7 g k A B C D F a0 (fun z7 => K z7)
theorem evs (a0 : L5) (A B C D : Int) (F : ByteArray) (KF : Ret → Option R) : evFunc E (G g) k H [] false Tryz.f101 [.val false [.row .ro q5 a0], .val true [ri A, ri B, ri C, ri D, .s (.string F)]] KF = b g k a0 A B C D F (fun r1 => KF ⟨[.val false [.row .own q5 r1]], []⟩) :=
 Eq.trans (by kernel_rfl) ((c7_ev g k A B C D F a0 (fin E.P false Tryz.f101 [] KF)).trans (by kernel_rfl))
end impl_noteIn
namespace impl_noteIn
def g (k : Nat) : Cs R := ⟨(), impl_before.c k⟩
def c (k : Nat) : T R := b (g k) k
end impl_noteIn
/-! ### impl_markIn: function 104 -/
namespace impl_markIn
abbrev T (R : Type) : Type := (L3) → Int → Int → Int → ((L3) → Option R) → Option R
def con (f : T R) : Con R := ⟨[], fun args K => match args with
 | [.val false [pa0], .val true [.s (.int .i64 A), .s (.int .i64 B), .s (.int .i64 C)]] => withRow q3 pa0 fun a0 => f a0 A B C (fun r1 => K ⟨[.val false [.row .own q3 r1]], []⟩)
 | _ => none⟩
structure Cs (R : Type) where
  none_ : Unit := ()
  f93 : impl_before.T R
def G (g : Cs R) : Cons R := [(93, impl_before.con g.f93)]
def H : List (Nat × Meet) := [(6, ⟨[(0, [(0, q3)]), (3, []), (5, [])], []⟩), (28, ⟨[(0, [(0, q3)]), (3, []), (5, [])], []⟩), (31, ⟨[(4, [(0, q3)])], []⟩), (113, ⟨[(0, [(0, q3)]), (3, []), (5, [])], []⟩), (451, ⟨[(0, [(0, q3)]), (3, []), (5, [])], []⟩)]
abbrev S1 (x1 x2 x3 : Int) (x4 : L3) : St := mkSt [(0, .c (.sl 0)), (1, .agg [si x1, si x2, si x3])] [(0, .row .ro q3 x4)]
abbrev S2 (x1 : Int) (x2 : L3) (x3 x4 x5 : Int) : St := mkSt [(0, .c (.sl 0)), (3, .c (.ptr 9003 0 0)), (5, .c (si x1))] [(0, .row .ro q3 x2), (9003, .box [si x3, si x4, si x5])]
abbrev S3 (x1 : L3) : St := mkSt [(4, .c (.sl 9004))] [(9004, .row .own q3 x1)]
noncomputable abbrev V (g : Cs R) (k : Nat) (K : Kont R) (b : List Bool) (p : Nat) (st : St) : Option R := ev E (G g) k H (nodeAt (bodyOf Tryz.f104) b) p st K
noncomputable abbrev U (g : Cs R) (k : Nat) (n : Nat) (b : List Bool) : Nat → St → (St → Option R) → Kont R → Option R := evPre E (G g) k H n (nodeAt (bodyOf Tryz.f104) b)
noncomputable abbrev W (g : Cs R) (k : Nat) (b : List Bool) (p : Nat) : St → Kont R → Option R := ev E (G g) k H (nodeAt (bodyOf Tryz.f104) b) p
variable (g : Cs R) (k : Nat)
def s1 (g : Cs R) (k : Nat) (A B C : Int) (a0 : L3) (j : Int → Option R) : Option R :=
 j 0
theorem s1_ev (A B C : Int) (a0 : L3) (X : St → Option R) (K : Kont R) : U g k 2 [] 1 (S1 A B C a0) X K = s1 g k A B C a0 (fun z0 => X (S2 z0 a0 A B C)) := by kernel_rfl
def s2 (g : Cs R) (k : Nat) (z1 : Int) (a0 : L3) (A B C : Int) (j : Int → Option R) (x0 : Option R) : Option R :=
 cond (decide (z1 < (a0.length : Int))) (cond (decide (0 ≤ z1) && decide (z1 < (a0.length : Int))) (let y1 := (a0.getD z1.toNat n3).1; cond (decide (0 ≤ z1) && decide (z1 < (a0.length : Int))) (let y2 := (a0.getD z1.toNat n3).2.1; g.f93 y1 y2 A B (fun r3 => cond r3 (j (IntKind.wrap .i64 (z1 + 1))) (x0))) none) none) (x0)
theorem s2_ev (z1 : Int) (a0 : L3) (A B C : Int) (K : Kont R) : V g k K [true, true, false, false, false] 56 (S2 z1 a0 A B C) = s2 g k z1 a0 A B C (fun z2 => K .normal (S2 z2 a0 A B C)) (K (.exit 0) (S2 z1 a0 A B C)) := by kernel_rfl
def l3r (g : Cs R) (k : Nat) (a0 : L3) (A B C : Int) (x0 : Int → Option R) : Nat → Int → Option R
 | 0, _ => none
 | n + 1, z1 => s2 g k z1 a0 A B C (fun z2 => l3r g k a0 A B C x0 n z2) (x0 z1)
def l3 (g : Cs R) (k : Nat) (z0 : Int) (a0 : L3) (A B C : Int) (x0 : Int → Option R) : Option R := l3r g k a0 A B C x0 k z0
theorem l3r_ev (a0 : L3) (A B C : Int) (K : Kont R) : ∀ (n : Nat) (z1 : Int), evLoop (W g k [true, true, false, false, false] 56) (atMeet H 28) K n (S2 z1 a0 A B C) = l3r g k a0 A B C (fun z3 => K (.exit 0) (S2 z3 a0 A B C)) n z1 := by
 intro n
 induction n with
 | zero => intros; rfl
 | succ n ih =>
  intro z1
  exact Eq.trans (by kernel_rfl) ((s2_ev g k z1 a0 A B C (loopK (W g k [true, true, false, false, false] 56) (atMeet H 28) K n)).trans (Eq.trans (by kernel_rfl) (congrArg (fun f_ => s2 g k z1 a0 A B C f_ (K (.exit 0) (S2 z1 a0 A B C))) (funext fun (z2 : Int) => (ih z2)))))
theorem l3_ev (z0 : Int) (a0 : L3) (A B C : Int) (K : Kont R) : V g k K [true, true, false, false] 28 (S2 z0 a0 A B C) = l3 g k z0 a0 A B C (fun z3 => K (.exit 0) (S2 z3 a0 A B C)) :=
 Eq.trans (by kernel_rfl) (l3r_ev g k a0 A B C K k z0)
def b4 (g : Cs R) (k : Nat) (z0 : Int) (a0 : L3) (A B C : Int) (j : Int → Option R) : Option R :=
 l3 g k z0 a0 A B C (fun z3 => j z3)
theorem b4_ev (z0 : Int) (a0 : L3) (A B C : Int) (K : Kont R) : V g k K [true, true, false] 14 (S2 z0 a0 A B C) = b4 g k z0 a0 A B C (fun z4 => K .normal (S2 z4 a0 A B C)) :=
 Eq.trans (by kernel_rfl) ((l3_ev g k z0 a0 A B C (blockK 0 (fun st => K .normal (atMeet H 14 st)) K)).trans (by kernel_rfl))
def s5 (g : Cs R) (k : Nat) (z4 : Int) (a0 : L3) (A B C : Int) (q : (L3) → Option R) : Option R :=
 cond (decide (0 ≤ z4) && decide (z4 ≤ (a0.length : Int))) (cond (Nat.ble (([] : L3).length + (part (cs := q3) a0 0 z4.toNat).length) lim) (let y1 := (([] : L3) ++ (part (cs := q3) a0 0 z4.toNat)); cond (Nat.ble (y1.length + ([(A, B, C)] : L3).length) lim) (let y2 := (y1 ++ ([(A, B, C)] : L3)); cond (decide (0 ≤ z4) && decide (z4 ≤ (a0.length : Int))) (cond (Nat.ble (y2.length + (part (cs := q3) a0 z4.toNat (a0.length - z4.toNat)).length) lim) (let y3 := (y2 ++ (part (cs := q3) a0 z4.toNat (a0.length - z4.toNat))); q y3) none) none) none) none) none
theorem s5_ev (z4 : Int) (a0 : L3) (A B C : Int) (K : Kont R) : V g k K [true, true, true] 15 (S2 z4 a0 A B C) = s5 g k z4 a0 A B C (fun z5 => K .ret (S3 z5)) := by kernel_rfl
def c6 (g : Cs R) (k : Nat) (z0 : Int) (a0 : L3) (A B C : Int) (q : (L3) → Option R) : Option R :=
 b4 g k z0 a0 A B C (fun z4 => s5 g k z4 a0 A B C (fun z5 => q z5))
theorem c6_ev (z0 : Int) (a0 : L3) (A B C : Int) (K : Kont R) : V g k K [true, true] 7 (S2 z0 a0 A B C) = c6 g k z0 a0 A B C (fun z6 => K .ret (S3 z6)) :=
 (Eq.trans (by kernel_rfl) (b4_ev g k z0 a0 A B C (seqK (V g k K [true, true, true] 15) K))).trans (congrArg (fun f_ => b4 g k z0 a0 A B C f_) (funext fun (z4 : Int) => (seqN (f := (V g k K [true, true, true] 15)) (K := K) (s5_ev g k z4 a0 A B C K))))
def c7 (g : Cs R) (k : Nat) (A B C : Int) (a0 : L3) (q : (L3) → Option R) : Option R :=
 s1 g k A B C a0 (fun z0 => c6 g k z0 a0 A B C (fun z6 => q z6))
theorem c7_ev (A B C : Int) (a0 : L3) (K : Kont R) : V g k K [] 1 (S1 A B C a0) = c7 g k A B C a0 (fun z7 => K .ret (S3 z7)) :=
 (Eq.trans (by kernel_rfl) (s1_ev g k A B C a0 (V g k K [true, true] 7) K)).trans (congrArg (fun f_ => s1 g k A B C a0 f_) (funext fun (z0 : Int) => (c6_ev g k z0 a0 A B C K)))
def b (g : Cs R) (k : Nat) (a0 : L3) (A B C : Int) (K : (L3) → Option R) : Option R :=
 c7 g k A B C a0 (fun z7 => K z7)
theorem evs (a0 : L3) (A B C : Int) (KF : Ret → Option R) : evFunc E (G g) k H [] false Tryz.f104 [.val false [.row .ro q3 a0], .val true [ri A, ri B, ri C]] KF = b g k a0 A B C (fun r1 => KF ⟨[.val false [.row .own q3 r1]], []⟩) :=
 Eq.trans (by kernel_rfl) ((c7_ev g k A B C a0 (fin E.P false Tryz.f104 [] KF)).trans (by kernel_rfl))
end impl_markIn
namespace impl_markIn
def g (k : Nat) : Cs R := ⟨(), impl_before.c k⟩
def c (k : Nat) : T R := b (g k) k
end impl_markIn
/-! ### impl_accept: function 99 -/
namespace impl_accept
abbrev T (R : Type) : Type := Int → Int → Int → (L5) → (L3) → (L5) → Int → Int → Int → Int → ByteArray → (Int → Int → Int → (L5) → (L3) → (L5) → Bool → Option R) → Option R
def con (f : T R) : Con R := ⟨[], fun args K => match args with
 | [.val true [.s (.int .i64 A), .s (.int .i64 B), .s (.int .i64 C), D, F, J], .val true [.s (.int .i64 M), .s (.int .i64 N), .s (.int .i64 O), .s (.int .i64 P), .s (.string Q)]] => withRow q5 D fun S => withRow q3 F fun U => withRow q5 J fun W => f A B C S U W M N O P Q (fun r1 r2 r3 r4 r5 r6 r7 => K ⟨[.val true [ri r1, ri r2, ri r3, .row .ro q5 r4, .row .ro q3 r5, .row .ro q5 r6], .val false [.s (.bool r7)]], []⟩)
 | _ => none⟩
structure Cs (R : Type) where
  none_ : Unit := ()
  f92 : impl_NoteOk.T R
  f100 : impl_noteAt.T R
  f57 : impl_markAt.T R
  f101 : impl_noteIn.T R
  f104 : impl_markIn.T R
def G (g : Cs R) : Cons R := [(92, impl_NoteOk.con g.f92), (100, impl_noteAt.con g.f100), (57, impl_markAt.con g.f57), (101, impl_noteIn.con g.f101), (104, impl_markIn.con g.f104)]
def H : List (Nat × Meet) := []
variable (g : Cs R) (k : Nat)
def b (g : Cs R) (k : Nat) (C D J : Int) (A : L5) (B : L3) (F : L5) (M N P O : Int) (Q : ByteArray) (K : Int → Int → Int → (L5) → (L3) → (L5) → Bool → Option R) : Option R :=
 g.f92 M N P O Q (fun r1 => cond (!r1) (K C D J A B F false) (cond (decide (O ≤ D)) (K C D J A B F false) (g.f100 A M N (fun r2 => cond (decide ((0 : Int) ≤ r2)) (K C D J A B F false) (g.f100 F M N (fun r3 => cond (decide ((0 : Int) ≤ r3)) (K C D J A B F false) (g.f57 B M N (fun r4 => cond (decide ((0 : Int) ≤ r4)) (K C D J A B F false) (let y5 := (IntKind.wrap .i64 ((A.length : Int) + (B.length : Int))); let y6 := (decide ((12 : Int) < (IntKind.wrap .i64 (y5 + 1)))); cond y6 (K C D J A B F false) (cond (decide (P = C)) (g.f101 F M N P O Q (fun r7 => g.f104 B M N O (fun r8 => K C D J A r8 r7 true))) (g.f101 A M N P O Q (fun r9 => K C D J r9 B F true))))))))))))
theorem evs (A B C : Int) (D : L5) (F : L3) (J : L5) (M N O P : Int) (Q : ByteArray) (KF : Ret → Option R) : evFunc E (G g) k H [] true Tryz.f99 [.val true [ri A, ri B, ri C, .row .ro q5 D, .row .ro q3 F, .row .ro q5 J], .val true [ri M, ri N, ri O, ri P, .s (.string Q)]] KF = b g k A B C D F J M N O P Q (fun r1 r2 r3 r4 r5 r6 r7 => KF ⟨[.val true [ri r1, ri r2, ri r3, .row .ro q5 r4, .row .ro q3 r5, .row .ro q5 r6], .val false [.s (.bool r7)]], []⟩) :=
 by kernel_rfl
end impl_accept
namespace impl_accept
def g (k : Nat) : Cs R := ⟨(), impl_NoteOk.c k, impl_noteAt.c k, impl_markAt.c k, impl_noteIn.c k, impl_markIn.c k⟩
def c (k : Nat) : T R := b (g k) k
end impl_accept
/-! ### impl_doNote: function 62 -/
namespace impl_doNote
abbrev T (R : Type) : Type := Int → Int → Int → (L5) → (L3) → (L5) → ByteArray → Int → Int → Int → Int → ByteArray → (Int → Int → Int → (L5) → (L3) → (L5) → Bool → Option R) → Option R
def con (f : T R) : Con R := ⟨[], fun args K => match args with
 | [.val true [.s (.int .i64 A), .s (.int .i64 B), .s (.int .i64 C), D, F, J], .val false [.s (.string a1)], .val true [.s (.int .i64 M), .s (.int .i64 N), .s (.int .i64 O), .s (.int .i64 P), .s (.string Q)]] => withRow q5 D fun S => withRow q3 F fun U => withRow q5 J fun W => f A B C S U W a1 M N O P Q (fun r1 r2 r3 r4 r5 r6 r7 => K ⟨[.val true [ri r1, ri r2, ri r3, .row .ro q5 r4, .row .ro q3 r5, .row .ro q5 r6], .val false [.s (.bool r7)]], []⟩)
 | _ => none⟩
structure Cs (R : Type) where
  none_ : Unit := ()
  f99 : impl_accept.T R
  f100 : impl_noteAt.T R
  f101 : impl_noteIn.T R
def G (g : Cs R) : Cons R := [(99, impl_accept.con g.f99), (100, impl_noteAt.con g.f100), (101, impl_noteIn.con g.f101)]
def H : List (Nat × Meet) := []
variable (g : Cs R) (k : Nat)
def b (g : Cs R) (k : Nat) (C F D : Int) (A : L5) (J : L3) (B : L5) (a1 : ByteArray) (M N O P : Int) (Q : ByteArray) (K : Int → Int → Int → (L5) → (L3) → (L5) → Bool → Option R) : Option R :=
 cond (decide (a1 = (ByteArray.mk #[111, 119, 110]))) (cond (decide (M = C)) (cond (decide (N = D)) (g.f99 C F (IntKind.wrap .i64 (D + 1)) A J B M N O P Q (fun r1 r2 r3 r4 r5 r6 r7 => K r1 r2 r3 r4 r5 r6 r7)) (let y8 := (decide (a1 = (ByteArray.mk #[116, 97, 107, 101]))); cond y8 (cond (!decide (M = C)) (g.f99 C F D A J B M N O P Q (fun r9 r10 r11 r12 r13 r14 r15 => K r9 r10 r11 r12 r13 r14 r15)) (g.f100 A M N (fun r16 => cond (decide ((0 : Int) ≤ r16)) (K C F D A J B false) (g.f100 B M N (fun r17 => cond (decide ((0 : Int) ≤ r17)) (K C F D A J B false) (let y18 := (decide (a1 = (ByteArray.mk #[104, 101, 108, 100]))); cond y18 (g.f101 A M N O P Q (fun r19 => K C F D r19 J B true)) (let y20 := (decide (a1 = (ByteArray.mk #[105, 110, 98, 111, 120]))); cond y20 (g.f101 B M N O P Q (fun r21 => K C F D A J r21 true)) (K C F D A J B false)))))))) (g.f100 A M N (fun r22 => cond (decide ((0 : Int) ≤ r22)) (K C F D A J B false) (g.f100 B M N (fun r23 => cond (decide ((0 : Int) ≤ r23)) (K C F D A J B false) (let y24 := (decide (a1 = (ByteArray.mk #[104, 101, 108, 100]))); cond y24 (g.f101 A M N O P Q (fun r25 => K C F D r25 J B true)) (let y26 := (decide (a1 = (ByteArray.mk #[105, 110, 98, 111, 120]))); cond y26 (g.f101 B M N O P Q (fun r27 => K C F D A J r27 true)) (K C F D A J B false))))))))) (let y28 := (decide (a1 = (ByteArray.mk #[116, 97, 107, 101]))); cond y28 (cond (!decide (M = C)) (g.f99 C F D A J B M N O P Q (fun r29 r30 r31 r32 r33 r34 r35 => K r29 r30 r31 r32 r33 r34 r35)) (g.f100 A M N (fun r36 => cond (decide ((0 : Int) ≤ r36)) (K C F D A J B false) (g.f100 B M N (fun r37 => cond (decide ((0 : Int) ≤ r37)) (K C F D A J B false) (let y38 := (decide (a1 = (ByteArray.mk #[104, 101, 108, 100]))); cond y38 (g.f101 A M N O P Q (fun r39 => K C F D r39 J B true)) (let y40 := (decide (a1 = (ByteArray.mk #[105, 110, 98, 111, 120]))); cond y40 (g.f101 B M N O P Q (fun r41 => K C F D A J r41 true)) (K C F D A J B false)))))))) (g.f100 A M N (fun r42 => cond (decide ((0 : Int) ≤ r42)) (K C F D A J B false) (g.f100 B M N (fun r43 => cond (decide ((0 : Int) ≤ r43)) (K C F D A J B false) (let y44 := (decide (a1 = (ByteArray.mk #[104, 101, 108, 100]))); cond y44 (g.f101 A M N O P Q (fun r45 => K C F D r45 J B true)) (let y46 := (decide (a1 = (ByteArray.mk #[105, 110, 98, 111, 120]))); cond y46 (g.f101 B M N O P Q (fun r47 => K C F D A J r47 true)) (K C F D A J B false))))))))) (let y48 := (decide (a1 = (ByteArray.mk #[116, 97, 107, 101]))); cond y48 (cond (!decide (M = C)) (g.f99 C F D A J B M N O P Q (fun r49 r50 r51 r52 r53 r54 r55 => K r49 r50 r51 r52 r53 r54 r55)) (g.f100 A M N (fun r56 => cond (decide ((0 : Int) ≤ r56)) (K C F D A J B false) (g.f100 B M N (fun r57 => cond (decide ((0 : Int) ≤ r57)) (K C F D A J B false) (let y58 := (decide (a1 = (ByteArray.mk #[104, 101, 108, 100]))); cond y58 (g.f101 A M N O P Q (fun r59 => K C F D r59 J B true)) (let y60 := (decide (a1 = (ByteArray.mk #[105, 110, 98, 111, 120]))); cond y60 (g.f101 B M N O P Q (fun r61 => K C F D A J r61 true)) (K C F D A J B false)))))))) (g.f100 A M N (fun r62 => cond (decide ((0 : Int) ≤ r62)) (K C F D A J B false) (g.f100 B M N (fun r63 => cond (decide ((0 : Int) ≤ r63)) (K C F D A J B false) (let y64 := (decide (a1 = (ByteArray.mk #[104, 101, 108, 100]))); cond y64 (g.f101 A M N O P Q (fun r65 => K C F D r65 J B true)) (let y66 := (decide (a1 = (ByteArray.mk #[105, 110, 98, 111, 120]))); cond y66 (g.f101 B M N O P Q (fun r67 => K C F D A J r67 true)) (K C F D A J B false))))))))
theorem evs (A B C : Int) (D : L5) (F : L3) (J : L5) (a1 : ByteArray) (M N O P : Int) (Q : ByteArray) (KF : Ret → Option R) : evFunc E (G g) k H [] true Tryz.f62 [.val true [ri A, ri B, ri C, .row .ro q5 D, .row .ro q3 F, .row .ro q5 J], .val false [.s (.string a1)], .val true [ri M, ri N, ri O, ri P, .s (.string Q)]] KF = b g k A B C D F J a1 M N O P Q (fun r1 r2 r3 r4 r5 r6 r7 => KF ⟨[.val true [ri r1, ri r2, ri r3, .row .ro q5 r4, .row .ro q3 r5, .row .ro q5 r6], .val false [.s (.bool r7)]], []⟩) :=
 by kernel_rfl
end impl_doNote
namespace impl_doNote
def g (k : Nat) : Cs R := ⟨(), impl_accept.c k, impl_noteAt.c k, impl_noteIn.c k⟩
def c (k : Nat) : T R := b (g k) k
end impl_doNote
/-! ### strings_Split: function 64, of Go's library -/
namespace strings_Split
abbrev T (R : Type) : Type := ByteArray → ByteArray → (List ByteArray → Option R) → Option R
def con (f : T R) : Con R := ⟨[], fun args K => match args with
 | [.val false [.s (.string a0)], .val false [.s (.string a1)]] => f a0 a1 (fun r1 => K ⟨[.val false [.row .own [.str] r1]], []⟩)
 | _ => none⟩
def c (k : Nat) : T R := fun a0 a1 K => cond (decide (a0.size < 4294967281) && decide (1 ≤ a1.size)) (K (Go.Lib.splitB a1 0 (Go.Lib.countB a0 a1) a0)) none
end strings_Split
/-! ### impl_noteOut: function 103 -/
namespace impl_noteOut
abbrev T (R : Type) : Type := (L5) → Int → ((L5) → Option R) → Option R
def con (f : T R) : Con R := ⟨[], fun args K => match args with
 | [.val false [pa0], .val false [.s (.int .i64 a1)]] => withRow q5 pa0 fun a0 => f a0 a1 (fun r1 => K ⟨[.val false [.row .own q5 r1]], []⟩)
 | _ => none⟩
structure Cs (R : Type) where
  none_ : Unit := ()
def G (g : Cs R) : Cons R := []
def H : List (Nat × Meet) := []
variable (g : Cs R) (k : Nat)
def b (g : Cs R) (k : Nat) (a0 : L5) (a1 : Int) (K : (L5) → Option R) : Option R :=
 cond (decide (0 ≤ a1) && decide (a1 ≤ (a0.length : Int))) (cond (Nat.ble (([] : L5).length + (part (cs := q5) a0 0 a1.toNat).length) lim) (let y1 := (([] : L5) ++ (part (cs := q5) a0 0 a1.toNat)); cond (decide (0 ≤ (IntKind.wrap .i64 (a1 + 1))) && decide ((IntKind.wrap .i64 (a1 + 1)) ≤ (a0.length : Int))) (cond (Nat.ble (y1.length + (part (cs := q5) a0 ((IntKind.wrap .i64 (a1 + 1)).toNat) (a0.length - (IntKind.wrap .i64 (a1 + 1)).toNat)).length) lim) (let y2 := (y1 ++ (part (cs := q5) a0 ((IntKind.wrap .i64 (a1 + 1)).toNat) (a0.length - (IntKind.wrap .i64 (a1 + 1)).toNat))); K y2) none) none) none) none
theorem evs (a0 : L5) (a1 : Int) (KF : Ret → Option R) : evFunc E (G g) k H [] false Tryz.f103 [.val false [.row .ro q5 a0], .val false [ri a1]] KF = b g k a0 a1 (fun r1 => KF ⟨[.val false [.row .own q5 r1]], []⟩) :=
 by kernel_rfl
end impl_noteOut
namespace impl_noteOut
def g (k : Nat) : Cs R := ⟨()⟩
def c (k : Nat) : T R := b (g k) k
end impl_noteOut
/-! ### impl_doMark: function 65 -/
namespace impl_doMark
abbrev T (R : Type) : Type := Int → Int → Int → (L5) → (L3) → (L5) → ByteArray → Int → Int → Int → (Int → Int → Int → (L5) → (L3) → (L5) → Bool → Option R) → Option R
def con (f : T R) : Con R := ⟨[], fun args K => match args with
 | [.val true [.s (.int .i64 A), .s (.int .i64 B), .s (.int .i64 C), D, F, J], .val false [.s (.string a1)], .val true [.s (.int .i64 M), .s (.int .i64 N), .s (.int .i64 O)]] => withRow q5 D fun P => withRow q3 F fun Q => withRow q5 J fun S => f A B C P Q S a1 M N O (fun r1 r2 r3 r4 r5 r6 r7 => K ⟨[.val true [ri r1, ri r2, ri r3, .row .ro q5 r4, .row .ro q3 r5, .row .ro q5 r6], .val false [.s (.bool r7)]], []⟩)
 | _ => none⟩
structure Cs (R : Type) where
  none_ : Unit := ()
  f100 : impl_noteAt.T R
  f57 : impl_markAt.T R
  f103 : impl_noteOut.T R
  f104 : impl_markIn.T R
def G (g : Cs R) : Cons R := [(100, impl_noteAt.con g.f100), (57, impl_markAt.con g.f57), (103, impl_noteOut.con g.f103), (104, impl_markIn.con g.f104)]
def H : List (Nat × Meet) := []
variable (g : Cs R) (k : Nat)
def b (g : Cs R) (k : Nat) (D F J : Int) (B : L5) (C : L3) (A : L5) (a1 : ByteArray) (N O M : Int) (K : Int → Int → Int → (L5) → (L3) → (L5) → Bool → Option R) : Option R :=
 g.f100 B N O (fun r1 => g.f100 A N O (fun r2 => g.f57 C N O (fun r3 => cond (decide (a1 = (ByteArray.mk #[108, 101, 116]))) (cond (decide ((0 : Int) ≤ r1)) (cond (decide (0 ≤ r1) && decide (r1 < (B.length : Int))) (let y4 := (B.getD r1.toNat n5).2.2.2.1; cond (decide (y4 = M)) (g.f103 B r1 (fun r5 => g.f104 C N O M (fun r6 => K D F J r5 r6 A true))) (cond (decide (a1 = (ByteArray.mk #[101, 97, 116]))) (cond (decide ((0 : Int) ≤ r2)) (cond (decide (0 ≤ r2) && decide (r2 < (A.length : Int))) (let y7 := (A.getD r2.toNat n5).2.2.2.1; cond (decide (y7 = M)) (g.f103 A r2 (fun r8 => K D F J B C r8 true)) (let y9 := (decide (a1 = (ByteArray.mk #[109, 97, 114, 107]))); cond y9 (cond (!(decide ((0 : Int) ≤ r3))) (g.f104 C N O M (fun r10 => K D F J B r10 A true)) (K D F J B C A false)) (K D F J B C A false))) none) (let y11 := (decide (a1 = (ByteArray.mk #[109, 97, 114, 107]))); cond y11 (cond (!(decide ((0 : Int) ≤ r3))) (g.f104 C N O M (fun r12 => K D F J B r12 A true)) (K D F J B C A false)) (K D F J B C A false))) (let y13 := (decide (a1 = (ByteArray.mk #[109, 97, 114, 107]))); cond y13 (cond (!(decide ((0 : Int) ≤ r3))) (g.f104 C N O M (fun r14 => K D F J B r14 A true)) (K D F J B C A false)) (K D F J B C A false)))) none) (cond (decide (a1 = (ByteArray.mk #[101, 97, 116]))) (cond (decide ((0 : Int) ≤ r2)) (cond (decide (0 ≤ r2) && decide (r2 < (A.length : Int))) (let y15 := (A.getD r2.toNat n5).2.2.2.1; cond (decide (y15 = M)) (g.f103 A r2 (fun r16 => K D F J B C r16 true)) (let y17 := (decide (a1 = (ByteArray.mk #[109, 97, 114, 107]))); cond y17 (cond (!(decide ((0 : Int) ≤ r3))) (g.f104 C N O M (fun r18 => K D F J B r18 A true)) (K D F J B C A false)) (K D F J B C A false))) none) (let y19 := (decide (a1 = (ByteArray.mk #[109, 97, 114, 107]))); cond y19 (cond (!(decide ((0 : Int) ≤ r3))) (g.f104 C N O M (fun r20 => K D F J B r20 A true)) (K D F J B C A false)) (K D F J B C A false))) (let y21 := (decide (a1 = (ByteArray.mk #[109, 97, 114, 107]))); cond y21 (cond (!(decide ((0 : Int) ≤ r3))) (g.f104 C N O M (fun r22 => K D F J B r22 A true)) (K D F J B C A false)) (K D F J B C A false)))) (cond (decide (a1 = (ByteArray.mk #[101, 97, 116]))) (cond (decide ((0 : Int) ≤ r2)) (cond (decide (0 ≤ r2) && decide (r2 < (A.length : Int))) (let y23 := (A.getD r2.toNat n5).2.2.2.1; cond (decide (y23 = M)) (g.f103 A r2 (fun r24 => K D F J B C r24 true)) (let y25 := (decide (a1 = (ByteArray.mk #[109, 97, 114, 107]))); cond y25 (cond (!(decide ((0 : Int) ≤ r3))) (g.f104 C N O M (fun r26 => K D F J B r26 A true)) (K D F J B C A false)) (K D F J B C A false))) none) (let y27 := (decide (a1 = (ByteArray.mk #[109, 97, 114, 107]))); cond y27 (cond (!(decide ((0 : Int) ≤ r3))) (g.f104 C N O M (fun r28 => K D F J B r28 A true)) (K D F J B C A false)) (K D F J B C A false))) (let y29 := (decide (a1 = (ByteArray.mk #[109, 97, 114, 107]))); cond y29 (cond (!(decide ((0 : Int) ≤ r3))) (g.f104 C N O M (fun r30 => K D F J B r30 A true)) (K D F J B C A false)) (K D F J B C A false))))))
theorem evs (A B C : Int) (D : L5) (F : L3) (J : L5) (a1 : ByteArray) (M N O : Int) (KF : Ret → Option R) : evFunc E (G g) k H [] true Tryz.f65 [.val true [ri A, ri B, ri C, .row .ro q5 D, .row .ro q3 F, .row .ro q5 J], .val false [.s (.string a1)], .val true [ri M, ri N, ri O]] KF = b g k A B C D F J a1 M N O (fun r1 r2 r3 r4 r5 r6 r7 => KF ⟨[.val true [ri r1, ri r2, ri r3, .row .ro q5 r4, .row .ro q3 r5, .row .ro q5 r6], .val false [.s (.bool r7)]], []⟩) :=
 by kernel_rfl
end impl_doMark
namespace impl_doMark
def g (k : Nat) : Cs R := ⟨(), impl_noteAt.c k, impl_markAt.c k, impl_noteOut.c k, impl_markIn.c k⟩
def c (k : Nat) : T R := b (g k) k
end impl_doMark
/-! ### impl_apply: function 31 -/
namespace impl_apply
abbrev T (R : Type) : Type := Int → Int → Int → (L5) → (L3) → (L5) → ByteArray → (Int → Int → Int → (L5) → (L3) → (L5) → Bool → Option R) → Option R
def con (f : T R) : Con R := ⟨[], fun args K => match args with
 | [.val true [.s (.int .i64 A), .s (.int .i64 B), .s (.int .i64 C), D, F, J], .val false [.s (.string a1)]] => withRow q5 D fun M => withRow q3 F fun N => withRow q5 J fun O => f A B C M N O a1 (fun r1 r2 r3 r4 r5 r6 r7 => K ⟨[.val true [ri r1, ri r2, ri r3, .row .ro q5 r4, .row .ro q3 r5, .row .ro q5 r6], .val false [.s (.bool r7)]], []⟩)
 | _ => none⟩
structure Cs (R : Type) where
  none_ : Unit := ()
  f58 : strings_Cut.T R
  f59 : impl_natural.T R
  f60 : impl_doNum.T R
  f61 : impl_NoteRead.T R
  f62 : impl_doNote.T R
  f64 : strings_Split.T R
  f63 : impl_naturals.T R
  f65 : impl_doMark.T R
def G (g : Cs R) : Cons R := [(58, strings_Cut.con g.f58), (59, impl_natural.con g.f59), (60, impl_doNum.con g.f60), (61, impl_NoteRead.con g.f61), (62, impl_doNote.con g.f62), (64, strings_Split.con g.f64), (63, impl_naturals.con g.f63), (65, impl_doMark.con g.f65)]
def H : List (Nat × Meet) := []
variable (g : Cs R) (k : Nat)
def b (g : Cs R) (k : Nat) (A B C : Int) (D : L5) (F : L3) (J : L5) (a1 : ByteArray) (K : Int → Int → Int → (L5) → (L3) → (L5) → Bool → Option R) : Option R :=
 g.f58 a1 (ByteArray.mk #[32]) (fun r1 r2 r3 => cond (!r3) (K A B C D F J false) (let y4 := (decide (r1 = (ByteArray.mk #[116, 105, 109, 101]))); cond y4 (cond y4 (g.f59 r2 (fun r5 r6 => cond r6 (g.f60 A B C D F J r1 r5 (fun r7 r8 r9 r10 r11 r12 r13 => K r7 r8 r9 r10 r11 r12 r13)) (K A B C D F J false))) (cond (decide (r1 = (ByteArray.mk #[111, 119, 110]))) (cond (decide (r1 = (ByteArray.mk #[111, 119, 110]))) (g.f61 r2 (fun r14 r15 r16 r17 r18 r19 => cond r19 (g.f62 A B C D F J r1 r14 r15 r16 r17 r18 (fun r20 r21 r22 r23 r24 r25 r26 => K r20 r21 r22 r23 r24 r25 r26)) (K A B C D F J false))) (cond (decide (r1 = (ByteArray.mk #[108, 101, 116]))) (cond (decide (r1 = (ByteArray.mk #[108, 101, 116]))) (g.f64 r2 (ByteArray.mk #[32]) (fun r27 => g.f63 r27 (fun r28 r29 => cond r29 (cond (decide ((r28.length : Int) = 3)) (cond (decide (0 ≤ (0 : Int)) && decide ((0 : Int) < (r28.length : Int))) (cond (decide (0 ≤ (1 : Int)) && decide ((1 : Int) < (r28.length : Int))) (cond (decide (0 ≤ (2 : Int)) && decide ((2 : Int) < (r28.length : Int))) (g.f65 A B C D F J r1 (r28.getD 0 (0 : Int)) (r28.getD 1 (0 : Int)) (r28.getD 2 (0 : Int)) (fun r30 r31 r32 r33 r34 r35 r36 => K r30 r31 r32 r33 r34 r35 r36)) none) none) none) (K A B C D F J false)) (K A B C D F J false)))) (K A B C D F J false)) (cond (decide (r1 = (ByteArray.mk #[101, 97, 116]))) (cond (decide (r1 = (ByteArray.mk #[101, 97, 116]))) (g.f64 r2 (ByteArray.mk #[32]) (fun r37 => g.f63 r37 (fun r38 r39 => cond r39 (cond (decide ((r38.length : Int) = 3)) (cond (decide (0 ≤ (0 : Int)) && decide ((0 : Int) < (r38.length : Int))) (cond (decide (0 ≤ (1 : Int)) && decide ((1 : Int) < (r38.length : Int))) (cond (decide (0 ≤ (2 : Int)) && decide ((2 : Int) < (r38.length : Int))) (g.f65 A B C D F J r1 (r38.getD 0 (0 : Int)) (r38.getD 1 (0 : Int)) (r38.getD 2 (0 : Int)) (fun r40 r41 r42 r43 r44 r45 r46 => K r40 r41 r42 r43 r44 r45 r46)) none) none) none) (K A B C D F J false)) (K A B C D F J false)))) (K A B C D F J false)) (let y47 := (decide (r1 = (ByteArray.mk #[109, 97, 114, 107]))); cond y47 (g.f64 r2 (ByteArray.mk #[32]) (fun r48 => g.f63 r48 (fun r49 r50 => cond r50 (cond (decide ((r49.length : Int) = 3)) (cond (decide (0 ≤ (0 : Int)) && decide ((0 : Int) < (r49.length : Int))) (cond (decide (0 ≤ (1 : Int)) && decide ((1 : Int) < (r49.length : Int))) (cond (decide (0 ≤ (2 : Int)) && decide ((2 : Int) < (r49.length : Int))) (g.f65 A B C D F J r1 (r49.getD 0 (0 : Int)) (r49.getD 1 (0 : Int)) (r49.getD 2 (0 : Int)) (fun r51 r52 r53 r54 r55 r56 r57 => K r51 r52 r53 r54 r55 r56 r57)) none) none) none) (K A B C D F J false)) (K A B C D F J false)))) (K A B C D F J false))))) (let y58 := (decide (r1 = (ByteArray.mk #[116, 97, 107, 101]))); cond y58 (cond y58 (g.f61 r2 (fun r59 r60 r61 r62 r63 r64 => cond r64 (g.f62 A B C D F J r1 r59 r60 r61 r62 r63 (fun r65 r66 r67 r68 r69 r70 r71 => K r65 r66 r67 r68 r69 r70 r71)) (K A B C D F J false))) (cond (decide (r1 = (ByteArray.mk #[108, 101, 116]))) (cond (decide (r1 = (ByteArray.mk #[108, 101, 116]))) (g.f64 r2 (ByteArray.mk #[32]) (fun r72 => g.f63 r72 (fun r73 r74 => cond r74 (cond (decide ((r73.length : Int) = 3)) (cond (decide (0 ≤ (0 : Int)) && decide ((0 : Int) < (r73.length : Int))) (cond (decide (0 ≤ (1 : Int)) && decide ((1 : Int) < (r73.length : Int))) (cond (decide (0 ≤ (2 : Int)) && decide ((2 : Int) < (r73.length : Int))) (g.f65 A B C D F J r1 (r73.getD 0 (0 : Int)) (r73.getD 1 (0 : Int)) (r73.getD 2 (0 : Int)) (fun r75 r76 r77 r78 r79 r80 r81 => K r75 r76 r77 r78 r79 r80 r81)) none) none) none) (K A B C D F J false)) (K A B C D F J false)))) (K A B C D F J false)) (cond (decide (r1 = (ByteArray.mk #[101, 97, 116]))) (cond (decide (r1 = (ByteArray.mk #[101, 97, 116]))) (g.f64 r2 (ByteArray.mk #[32]) (fun r82 => g.f63 r82 (fun r83 r84 => cond r84 (cond (decide ((r83.length : Int) = 3)) (cond (decide (0 ≤ (0 : Int)) && decide ((0 : Int) < (r83.length : Int))) (cond (decide (0 ≤ (1 : Int)) && decide ((1 : Int) < (r83.length : Int))) (cond (decide (0 ≤ (2 : Int)) && decide ((2 : Int) < (r83.length : Int))) (g.f65 A B C D F J r1 (r83.getD 0 (0 : Int)) (r83.getD 1 (0 : Int)) (r83.getD 2 (0 : Int)) (fun r85 r86 r87 r88 r89 r90 r91 => K r85 r86 r87 r88 r89 r90 r91)) none) none) none) (K A B C D F J false)) (K A B C D F J false)))) (K A B C D F J false)) (let y92 := (decide (r1 = (ByteArray.mk #[109, 97, 114, 107]))); cond y92 (g.f64 r2 (ByteArray.mk #[32]) (fun r93 => g.f63 r93 (fun r94 r95 => cond r95 (cond (decide ((r94.length : Int) = 3)) (cond (decide (0 ≤ (0 : Int)) && decide ((0 : Int) < (r94.length : Int))) (cond (decide (0 ≤ (1 : Int)) && decide ((1 : Int) < (r94.length : Int))) (cond (decide (0 ≤ (2 : Int)) && decide ((2 : Int) < (r94.length : Int))) (g.f65 A B C D F J r1 (r94.getD 0 (0 : Int)) (r94.getD 1 (0 : Int)) (r94.getD 2 (0 : Int)) (fun r96 r97 r98 r99 r100 r101 r102 => K r96 r97 r98 r99 r100 r101 r102)) none) none) none) (K A B C D F J false)) (K A B C D F J false)))) (K A B C D F J false))))) (let y103 := (decide (r1 = (ByteArray.mk #[104, 101, 108, 100]))); cond y103 (cond y103 (g.f61 r2 (fun r104 r105 r106 r107 r108 r109 => cond r109 (g.f62 A B C D F J r1 r104 r105 r106 r107 r108 (fun r110 r111 r112 r113 r114 r115 r116 => K r110 r111 r112 r113 r114 r115 r116)) (K A B C D F J false))) (cond (decide (r1 = (ByteArray.mk #[108, 101, 116]))) (cond (decide (r1 = (ByteArray.mk #[108, 101, 116]))) (g.f64 r2 (ByteArray.mk #[32]) (fun r117 => g.f63 r117 (fun r118 r119 => cond r119 (cond (decide ((r118.length : Int) = 3)) (cond (decide (0 ≤ (0 : Int)) && decide ((0 : Int) < (r118.length : Int))) (cond (decide (0 ≤ (1 : Int)) && decide ((1 : Int) < (r118.length : Int))) (cond (decide (0 ≤ (2 : Int)) && decide ((2 : Int) < (r118.length : Int))) (g.f65 A B C D F J r1 (r118.getD 0 (0 : Int)) (r118.getD 1 (0 : Int)) (r118.getD 2 (0 : Int)) (fun r120 r121 r122 r123 r124 r125 r126 => K r120 r121 r122 r123 r124 r125 r126)) none) none) none) (K A B C D F J false)) (K A B C D F J false)))) (K A B C D F J false)) (cond (decide (r1 = (ByteArray.mk #[101, 97, 116]))) (cond (decide (r1 = (ByteArray.mk #[101, 97, 116]))) (g.f64 r2 (ByteArray.mk #[32]) (fun r127 => g.f63 r127 (fun r128 r129 => cond r129 (cond (decide ((r128.length : Int) = 3)) (cond (decide (0 ≤ (0 : Int)) && decide ((0 : Int) < (r128.length : Int))) (cond (decide (0 ≤ (1 : Int)) && decide ((1 : Int) < (r128.length : Int))) (cond (decide (0 ≤ (2 : Int)) && decide ((2 : Int) < (r128.length : Int))) (g.f65 A B C D F J r1 (r128.getD 0 (0 : Int)) (r128.getD 1 (0 : Int)) (r128.getD 2 (0 : Int)) (fun r130 r131 r132 r133 r134 r135 r136 => K r130 r131 r132 r133 r134 r135 r136)) none) none) none) (K A B C D F J false)) (K A B C D F J false)))) (K A B C D F J false)) (let y137 := (decide (r1 = (ByteArray.mk #[109, 97, 114, 107]))); cond y137 (g.f64 r2 (ByteArray.mk #[32]) (fun r138 => g.f63 r138 (fun r139 r140 => cond r140 (cond (decide ((r139.length : Int) = 3)) (cond (decide (0 ≤ (0 : Int)) && decide ((0 : Int) < (r139.length : Int))) (cond (decide (0 ≤ (1 : Int)) && decide ((1 : Int) < (r139.length : Int))) (cond (decide (0 ≤ (2 : Int)) && decide ((2 : Int) < (r139.length : Int))) (g.f65 A B C D F J r1 (r139.getD 0 (0 : Int)) (r139.getD 1 (0 : Int)) (r139.getD 2 (0 : Int)) (fun r141 r142 r143 r144 r145 r146 r147 => K r141 r142 r143 r144 r145 r146 r147)) none) none) none) (K A B C D F J false)) (K A B C D F J false)))) (K A B C D F J false))))) (let y148 := (decide (r1 = (ByteArray.mk #[105, 110, 98, 111, 120]))); cond y148 (g.f61 r2 (fun r149 r150 r151 r152 r153 r154 => cond r154 (g.f62 A B C D F J r1 r149 r150 r151 r152 r153 (fun r155 r156 r157 r158 r159 r160 r161 => K r155 r156 r157 r158 r159 r160 r161)) (K A B C D F J false))) (cond (decide (r1 = (ByteArray.mk #[108, 101, 116]))) (cond (decide (r1 = (ByteArray.mk #[108, 101, 116]))) (g.f64 r2 (ByteArray.mk #[32]) (fun r162 => g.f63 r162 (fun r163 r164 => cond r164 (cond (decide ((r163.length : Int) = 3)) (cond (decide (0 ≤ (0 : Int)) && decide ((0 : Int) < (r163.length : Int))) (cond (decide (0 ≤ (1 : Int)) && decide ((1 : Int) < (r163.length : Int))) (cond (decide (0 ≤ (2 : Int)) && decide ((2 : Int) < (r163.length : Int))) (g.f65 A B C D F J r1 (r163.getD 0 (0 : Int)) (r163.getD 1 (0 : Int)) (r163.getD 2 (0 : Int)) (fun r165 r166 r167 r168 r169 r170 r171 => K r165 r166 r167 r168 r169 r170 r171)) none) none) none) (K A B C D F J false)) (K A B C D F J false)))) (K A B C D F J false)) (cond (decide (r1 = (ByteArray.mk #[101, 97, 116]))) (cond (decide (r1 = (ByteArray.mk #[101, 97, 116]))) (g.f64 r2 (ByteArray.mk #[32]) (fun r172 => g.f63 r172 (fun r173 r174 => cond r174 (cond (decide ((r173.length : Int) = 3)) (cond (decide (0 ≤ (0 : Int)) && decide ((0 : Int) < (r173.length : Int))) (cond (decide (0 ≤ (1 : Int)) && decide ((1 : Int) < (r173.length : Int))) (cond (decide (0 ≤ (2 : Int)) && decide ((2 : Int) < (r173.length : Int))) (g.f65 A B C D F J r1 (r173.getD 0 (0 : Int)) (r173.getD 1 (0 : Int)) (r173.getD 2 (0 : Int)) (fun r175 r176 r177 r178 r179 r180 r181 => K r175 r176 r177 r178 r179 r180 r181)) none) none) none) (K A B C D F J false)) (K A B C D F J false)))) (K A B C D F J false)) (let y182 := (decide (r1 = (ByteArray.mk #[109, 97, 114, 107]))); cond y182 (g.f64 r2 (ByteArray.mk #[32]) (fun r183 => g.f63 r183 (fun r184 r185 => cond r185 (cond (decide ((r184.length : Int) = 3)) (cond (decide (0 ≤ (0 : Int)) && decide ((0 : Int) < (r184.length : Int))) (cond (decide (0 ≤ (1 : Int)) && decide ((1 : Int) < (r184.length : Int))) (cond (decide (0 ≤ (2 : Int)) && decide ((2 : Int) < (r184.length : Int))) (g.f65 A B C D F J r1 (r184.getD 0 (0 : Int)) (r184.getD 1 (0 : Int)) (r184.getD 2 (0 : Int)) (fun r186 r187 r188 r189 r190 r191 r192 => K r186 r187 r188 r189 r190 r191 r192)) none) none) none) (K A B C D F J false)) (K A B C D F J false)))) (K A B C D F J false))))))))) (let y193 := (decide (r1 = (ByteArray.mk #[110, 101, 120, 116]))); cond y193 (g.f59 r2 (fun r194 r195 => cond r195 (g.f60 A B C D F J r1 r194 (fun r196 r197 r198 r199 r200 r201 r202 => K r196 r197 r198 r199 r200 r201 r202)) (K A B C D F J false))) (cond (decide (r1 = (ByteArray.mk #[111, 119, 110]))) (cond (decide (r1 = (ByteArray.mk #[111, 119, 110]))) (g.f61 r2 (fun r203 r204 r205 r206 r207 r208 => cond r208 (g.f62 A B C D F J r1 r203 r204 r205 r206 r207 (fun r209 r210 r211 r212 r213 r214 r215 => K r209 r210 r211 r212 r213 r214 r215)) (K A B C D F J false))) (cond (decide (r1 = (ByteArray.mk #[108, 101, 116]))) (cond (decide (r1 = (ByteArray.mk #[108, 101, 116]))) (g.f64 r2 (ByteArray.mk #[32]) (fun r216 => g.f63 r216 (fun r217 r218 => cond r218 (cond (decide ((r217.length : Int) = 3)) (cond (decide (0 ≤ (0 : Int)) && decide ((0 : Int) < (r217.length : Int))) (cond (decide (0 ≤ (1 : Int)) && decide ((1 : Int) < (r217.length : Int))) (cond (decide (0 ≤ (2 : Int)) && decide ((2 : Int) < (r217.length : Int))) (g.f65 A B C D F J r1 (r217.getD 0 (0 : Int)) (r217.getD 1 (0 : Int)) (r217.getD 2 (0 : Int)) (fun r219 r220 r221 r222 r223 r224 r225 => K r219 r220 r221 r222 r223 r224 r225)) none) none) none) (K A B C D F J false)) (K A B C D F J false)))) (K A B C D F J false)) (cond (decide (r1 = (ByteArray.mk #[101, 97, 116]))) (cond (decide (r1 = (ByteArray.mk #[101, 97, 116]))) (g.f64 r2 (ByteArray.mk #[32]) (fun r226 => g.f63 r226 (fun r227 r228 => cond r228 (cond (decide ((r227.length : Int) = 3)) (cond (decide (0 ≤ (0 : Int)) && decide ((0 : Int) < (r227.length : Int))) (cond (decide (0 ≤ (1 : Int)) && decide ((1 : Int) < (r227.length : Int))) (cond (decide (0 ≤ (2 : Int)) && decide ((2 : Int) < (r227.length : Int))) (g.f65 A B C D F J r1 (r227.getD 0 (0 : Int)) (r227.getD 1 (0 : Int)) (r227.getD 2 (0 : Int)) (fun r229 r230 r231 r232 r233 r234 r235 => K r229 r230 r231 r232 r233 r234 r235)) none) none) none) (K A B C D F J false)) (K A B C D F J false)))) (K A B C D F J false)) (let y236 := (decide (r1 = (ByteArray.mk #[109, 97, 114, 107]))); cond y236 (g.f64 r2 (ByteArray.mk #[32]) (fun r237 => g.f63 r237 (fun r238 r239 => cond r239 (cond (decide ((r238.length : Int) = 3)) (cond (decide (0 ≤ (0 : Int)) && decide ((0 : Int) < (r238.length : Int))) (cond (decide (0 ≤ (1 : Int)) && decide ((1 : Int) < (r238.length : Int))) (cond (decide (0 ≤ (2 : Int)) && decide ((2 : Int) < (r238.length : Int))) (g.f65 A B C D F J r1 (r238.getD 0 (0 : Int)) (r238.getD 1 (0 : Int)) (r238.getD 2 (0 : Int)) (fun r240 r241 r242 r243 r244 r245 r246 => K r240 r241 r242 r243 r244 r245 r246)) none) none) none) (K A B C D F J false)) (K A B C D F J false)))) (K A B C D F J false))))) (let y247 := (decide (r1 = (ByteArray.mk #[116, 97, 107, 101]))); cond y247 (cond y247 (g.f61 r2 (fun r248 r249 r250 r251 r252 r253 => cond r253 (g.f62 A B C D F J r1 r248 r249 r250 r251 r252 (fun r254 r255 r256 r257 r258 r259 r260 => K r254 r255 r256 r257 r258 r259 r260)) (K A B C D F J false))) (cond (decide (r1 = (ByteArray.mk #[108, 101, 116]))) (cond (decide (r1 = (ByteArray.mk #[108, 101, 116]))) (g.f64 r2 (ByteArray.mk #[32]) (fun r261 => g.f63 r261 (fun r262 r263 => cond r263 (cond (decide ((r262.length : Int) = 3)) (cond (decide (0 ≤ (0 : Int)) && decide ((0 : Int) < (r262.length : Int))) (cond (decide (0 ≤ (1 : Int)) && decide ((1 : Int) < (r262.length : Int))) (cond (decide (0 ≤ (2 : Int)) && decide ((2 : Int) < (r262.length : Int))) (g.f65 A B C D F J r1 (r262.getD 0 (0 : Int)) (r262.getD 1 (0 : Int)) (r262.getD 2 (0 : Int)) (fun r264 r265 r266 r267 r268 r269 r270 => K r264 r265 r266 r267 r268 r269 r270)) none) none) none) (K A B C D F J false)) (K A B C D F J false)))) (K A B C D F J false)) (cond (decide (r1 = (ByteArray.mk #[101, 97, 116]))) (cond (decide (r1 = (ByteArray.mk #[101, 97, 116]))) (g.f64 r2 (ByteArray.mk #[32]) (fun r271 => g.f63 r271 (fun r272 r273 => cond r273 (cond (decide ((r272.length : Int) = 3)) (cond (decide (0 ≤ (0 : Int)) && decide ((0 : Int) < (r272.length : Int))) (cond (decide (0 ≤ (1 : Int)) && decide ((1 : Int) < (r272.length : Int))) (cond (decide (0 ≤ (2 : Int)) && decide ((2 : Int) < (r272.length : Int))) (g.f65 A B C D F J r1 (r272.getD 0 (0 : Int)) (r272.getD 1 (0 : Int)) (r272.getD 2 (0 : Int)) (fun r274 r275 r276 r277 r278 r279 r280 => K r274 r275 r276 r277 r278 r279 r280)) none) none) none) (K A B C D F J false)) (K A B C D F J false)))) (K A B C D F J false)) (let y281 := (decide (r1 = (ByteArray.mk #[109, 97, 114, 107]))); cond y281 (g.f64 r2 (ByteArray.mk #[32]) (fun r282 => g.f63 r282 (fun r283 r284 => cond r284 (cond (decide ((r283.length : Int) = 3)) (cond (decide (0 ≤ (0 : Int)) && decide ((0 : Int) < (r283.length : Int))) (cond (decide (0 ≤ (1 : Int)) && decide ((1 : Int) < (r283.length : Int))) (cond (decide (0 ≤ (2 : Int)) && decide ((2 : Int) < (r283.length : Int))) (g.f65 A B C D F J r1 (r283.getD 0 (0 : Int)) (r283.getD 1 (0 : Int)) (r283.getD 2 (0 : Int)) (fun r285 r286 r287 r288 r289 r290 r291 => K r285 r286 r287 r288 r289 r290 r291)) none) none) none) (K A B C D F J false)) (K A B C D F J false)))) (K A B C D F J false))))) (let y292 := (decide (r1 = (ByteArray.mk #[104, 101, 108, 100]))); cond y292 (cond y292 (g.f61 r2 (fun r293 r294 r295 r296 r297 r298 => cond r298 (g.f62 A B C D F J r1 r293 r294 r295 r296 r297 (fun r299 r300 r301 r302 r303 r304 r305 => K r299 r300 r301 r302 r303 r304 r305)) (K A B C D F J false))) (cond (decide (r1 = (ByteArray.mk #[108, 101, 116]))) (cond (decide (r1 = (ByteArray.mk #[108, 101, 116]))) (g.f64 r2 (ByteArray.mk #[32]) (fun r306 => g.f63 r306 (fun r307 r308 => cond r308 (cond (decide ((r307.length : Int) = 3)) (cond (decide (0 ≤ (0 : Int)) && decide ((0 : Int) < (r307.length : Int))) (cond (decide (0 ≤ (1 : Int)) && decide ((1 : Int) < (r307.length : Int))) (cond (decide (0 ≤ (2 : Int)) && decide ((2 : Int) < (r307.length : Int))) (g.f65 A B C D F J r1 (r307.getD 0 (0 : Int)) (r307.getD 1 (0 : Int)) (r307.getD 2 (0 : Int)) (fun r309 r310 r311 r312 r313 r314 r315 => K r309 r310 r311 r312 r313 r314 r315)) none) none) none) (K A B C D F J false)) (K A B C D F J false)))) (K A B C D F J false)) (cond (decide (r1 = (ByteArray.mk #[101, 97, 116]))) (cond (decide (r1 = (ByteArray.mk #[101, 97, 116]))) (g.f64 r2 (ByteArray.mk #[32]) (fun r316 => g.f63 r316 (fun r317 r318 => cond r318 (cond (decide ((r317.length : Int) = 3)) (cond (decide (0 ≤ (0 : Int)) && decide ((0 : Int) < (r317.length : Int))) (cond (decide (0 ≤ (1 : Int)) && decide ((1 : Int) < (r317.length : Int))) (cond (decide (0 ≤ (2 : Int)) && decide ((2 : Int) < (r317.length : Int))) (g.f65 A B C D F J r1 (r317.getD 0 (0 : Int)) (r317.getD 1 (0 : Int)) (r317.getD 2 (0 : Int)) (fun r319 r320 r321 r322 r323 r324 r325 => K r319 r320 r321 r322 r323 r324 r325)) none) none) none) (K A B C D F J false)) (K A B C D F J false)))) (K A B C D F J false)) (let y326 := (decide (r1 = (ByteArray.mk #[109, 97, 114, 107]))); cond y326 (g.f64 r2 (ByteArray.mk #[32]) (fun r327 => g.f63 r327 (fun r328 r329 => cond r329 (cond (decide ((r328.length : Int) = 3)) (cond (decide (0 ≤ (0 : Int)) && decide ((0 : Int) < (r328.length : Int))) (cond (decide (0 ≤ (1 : Int)) && decide ((1 : Int) < (r328.length : Int))) (cond (decide (0 ≤ (2 : Int)) && decide ((2 : Int) < (r328.length : Int))) (g.f65 A B C D F J r1 (r328.getD 0 (0 : Int)) (r328.getD 1 (0 : Int)) (r328.getD 2 (0 : Int)) (fun r330 r331 r332 r333 r334 r335 r336 => K r330 r331 r332 r333 r334 r335 r336)) none) none) none) (K A B C D F J false)) (K A B C D F J false)))) (K A B C D F J false))))) (let y337 := (decide (r1 = (ByteArray.mk #[105, 110, 98, 111, 120]))); cond y337 (g.f61 r2 (fun r338 r339 r340 r341 r342 r343 => cond r343 (g.f62 A B C D F J r1 r338 r339 r340 r341 r342 (fun r344 r345 r346 r347 r348 r349 r350 => K r344 r345 r346 r347 r348 r349 r350)) (K A B C D F J false))) (cond (decide (r1 = (ByteArray.mk #[108, 101, 116]))) (cond (decide (r1 = (ByteArray.mk #[108, 101, 116]))) (g.f64 r2 (ByteArray.mk #[32]) (fun r351 => g.f63 r351 (fun r352 r353 => cond r353 (cond (decide ((r352.length : Int) = 3)) (cond (decide (0 ≤ (0 : Int)) && decide ((0 : Int) < (r352.length : Int))) (cond (decide (0 ≤ (1 : Int)) && decide ((1 : Int) < (r352.length : Int))) (cond (decide (0 ≤ (2 : Int)) && decide ((2 : Int) < (r352.length : Int))) (g.f65 A B C D F J r1 (r352.getD 0 (0 : Int)) (r352.getD 1 (0 : Int)) (r352.getD 2 (0 : Int)) (fun r354 r355 r356 r357 r358 r359 r360 => K r354 r355 r356 r357 r358 r359 r360)) none) none) none) (K A B C D F J false)) (K A B C D F J false)))) (K A B C D F J false)) (cond (decide (r1 = (ByteArray.mk #[101, 97, 116]))) (cond (decide (r1 = (ByteArray.mk #[101, 97, 116]))) (g.f64 r2 (ByteArray.mk #[32]) (fun r361 => g.f63 r361 (fun r362 r363 => cond r363 (cond (decide ((r362.length : Int) = 3)) (cond (decide (0 ≤ (0 : Int)) && decide ((0 : Int) < (r362.length : Int))) (cond (decide (0 ≤ (1 : Int)) && decide ((1 : Int) < (r362.length : Int))) (cond (decide (0 ≤ (2 : Int)) && decide ((2 : Int) < (r362.length : Int))) (g.f65 A B C D F J r1 (r362.getD 0 (0 : Int)) (r362.getD 1 (0 : Int)) (r362.getD 2 (0 : Int)) (fun r364 r365 r366 r367 r368 r369 r370 => K r364 r365 r366 r367 r368 r369 r370)) none) none) none) (K A B C D F J false)) (K A B C D F J false)))) (K A B C D F J false)) (let y371 := (decide (r1 = (ByteArray.mk #[109, 97, 114, 107]))); cond y371 (g.f64 r2 (ByteArray.mk #[32]) (fun r372 => g.f63 r372 (fun r373 r374 => cond r374 (cond (decide ((r373.length : Int) = 3)) (cond (decide (0 ≤ (0 : Int)) && decide ((0 : Int) < (r373.length : Int))) (cond (decide (0 ≤ (1 : Int)) && decide ((1 : Int) < (r373.length : Int))) (cond (decide (0 ≤ (2 : Int)) && decide ((2 : Int) < (r373.length : Int))) (g.f65 A B C D F J r1 (r373.getD 0 (0 : Int)) (r373.getD 1 (0 : Int)) (r373.getD 2 (0 : Int)) (fun r375 r376 r377 r378 r379 r380 r381 => K r375 r376 r377 r378 r379 r380 r381)) none) none) none) (K A B C D F J false)) (K A B C D F J false)))) (K A B C D F J false)))))))))))
theorem evs (A B C : Int) (D : L5) (F : L3) (J : L5) (a1 : ByteArray) (KF : Ret → Option R) : evFunc E (G g) k H [] false Tryz.f31 [.val true [ri A, ri B, ri C, .row .ro q5 D, .row .ro q3 F, .row .ro q5 J], .val false [.s (.string a1)]] KF = b g k A B C D F J a1 (fun r1 r2 r3 r4 r5 r6 r7 => KF ⟨[.val true [ri r1, ri r2, ri r3, .row .ro q5 r4, .row .ro q3 r5, .row .ro q5 r6], .val false [.s (.bool r7)]], []⟩) :=
 by kernel_rfl
end impl_apply
namespace impl_apply
def g (k : Nat) : Cs R := ⟨(), strings_Cut.c k, impl_natural.c k, impl_doNum.c k, impl_NoteRead.c k, impl_doNote.c k, strings_Split.c k, impl_naturals.c k, impl_doMark.c k⟩
def c (k : Nat) : T R := b (g k) k
end impl_apply
/-! ### impl_Note: function 66 -/
namespace impl_Note
abbrev T (R : Type) : Type := (L5) → ((L5) → Option R) → Option R
def con (f : T R) : Con R := ⟨[], fun args K => match args with
 | [.val false [pa0]] => withRow q5 pa0 fun a0 => f a0 (fun r1 => K ⟨[.val false [.row .own q5 r1]], []⟩)
 | _ => none⟩
structure Cs (R : Type) where
  none_ : Unit := ()
def G (g : Cs R) : Cons R := []
def H : List (Nat × Meet) := []
variable (g : Cs R) (k : Nat)
def b (g : Cs R) (k : Nat) (a0 : L5) (K : (L5) → Option R) : Option R :=
 cond (decide ((a0.length : Int) = 0)) (K []) (cond (decide (0 ≤ (a0.length : Int)) && decide ((a0.length : Int) = (a0.length : Int)) && Nat.ble ((a0.length : Int).toNat) lim) (let y1 := (List.replicate ((a0.length : Int).toNat) n5); K (a0.take y1.length ++ y1.drop a0.length)) none)
theorem evs (a0 : L5) (KF : Ret → Option R) : evFunc E (G g) k H [] false Tryz.f66 [.val false [.row .ro q5 a0]] KF = b g k a0 (fun r1 => KF ⟨[.val false [.row .own q5 r1]], []⟩) :=
 by kernel_rfl
end impl_Note
namespace impl_Note
def g (k : Nat) : Cs R := ⟨()⟩
def c (k : Nat) : T R := b (g k) k
end impl_Note
/-! ### impl_Mark: function 67 -/
namespace impl_Mark
abbrev T (R : Type) : Type := (L3) → ((L3) → Option R) → Option R
def con (f : T R) : Con R := ⟨[], fun args K => match args with
 | [.val false [pa0]] => withRow q3 pa0 fun a0 => f a0 (fun r1 => K ⟨[.val false [.row .own q3 r1]], []⟩)
 | _ => none⟩
structure Cs (R : Type) where
  none_ : Unit := ()
def G (g : Cs R) : Cons R := []
def H : List (Nat × Meet) := []
variable (g : Cs R) (k : Nat)
def b (g : Cs R) (k : Nat) (a0 : L3) (K : (L3) → Option R) : Option R :=
 cond (decide ((a0.length : Int) = 0)) (K []) (cond (decide (0 ≤ (a0.length : Int)) && decide ((a0.length : Int) = (a0.length : Int)) && Nat.ble ((a0.length : Int).toNat) lim) (let y1 := (List.replicate ((a0.length : Int).toNat) n3); K (a0.take y1.length ++ y1.drop a0.length)) none)
theorem evs (a0 : L3) (KF : Ret → Option R) : evFunc E (G g) k H [] false Tryz.f67 [.val false [.row .ro q3 a0]] KF = b g k a0 (fun r1 => KF ⟨[.val false [.row .own q3 r1]], []⟩) :=
 by kernel_rfl
end impl_Mark
namespace impl_Mark
def g (k : Nat) : Cs R := ⟨()⟩
def c (k : Nat) : T R := b (g k) k
end impl_Mark
/-! ### impl_keepCopy: function 32 -/
namespace impl_keepCopy
abbrev T (R : Type) : Type := Int → Int → Int → (L5) → (L3) → (L5) → (Int → Int → Int → (L5) → (L3) → (L5) → Option R) → Option R
def con (f : T R) : Con R := ⟨[], fun args K => match args with
 | [.val true [.s (.int .i64 A), .s (.int .i64 B), .s (.int .i64 C), D, F, J]] => withRow q5 D fun M => withRow q3 F fun N => withRow q5 J fun O => f A B C M N O (fun r1 r2 r3 r4 r5 r6 => K ⟨[.val true [ri r1, ri r2, ri r3, .row .own q5 r4, .row .own q3 r5, .row .own q5 r6]], []⟩)
 | _ => none⟩
structure Cs (R : Type) where
  none_ : Unit := ()
  f66 : impl_Note.T R
  f67 : impl_Mark.T R
def G (g : Cs R) : Cons R := [(66, impl_Note.con g.f66), (67, impl_Mark.con g.f67)]
def H : List (Nat × Meet) := []
variable (g : Cs R) (k : Nat)
def b (g : Cs R) (k : Nat) (A B C : Int) (D : L5) (F : L3) (J : L5) (K : Int → Int → Int → (L5) → (L3) → (L5) → Option R) : Option R :=
 g.f66 D (fun r1 => g.f67 F (fun r2 => g.f66 J (fun r3 => K A B C r1 r2 r3)))
theorem evs (A B C : Int) (D : L5) (F : L3) (J : L5) (KF : Ret → Option R) : evFunc E (G g) k H [] false Tryz.f32 [.val true [ri A, ri B, ri C, .row .ro q5 D, .row .ro q3 F, .row .ro q5 J]] KF = b g k A B C D F J (fun r1 r2 r3 r4 r5 r6 => KF ⟨[.val true [ri r1, ri r2, ri r3, .row .own q5 r4, .row .own q3 r5, .row .own q5 r6]], []⟩) :=
 by kernel_rfl
end impl_keepCopy
namespace impl_keepCopy
def g (k : Nat) : Cs R := ⟨(), impl_Note.c k, impl_Mark.c k⟩
def c (k : Nat) : T R := b (g k) k
end impl_keepCopy
/-! ### impl_KeepDo: function 10 -/
namespace impl_KeepDo
abbrev T (R : Type) : Type := Int → Int → Int → (L5) → (L3) → (L5) → ByteArray → (Int → Int → Int → (L5) → (L3) → (L5) → Bool → Option R) → Option R
def con (f : T R) : Con R := ⟨[], fun args K => match args with
 | [.val true [.s (.int .i64 A), .s (.int .i64 B), .s (.int .i64 C), D, F, J], .val false [.s (.string a1)]] => withRow q5 D fun M => withRow q3 F fun N => withRow q5 J fun O => f A B C M N O a1 (fun r1 r2 r3 r4 r5 r6 r7 => K ⟨[.val true [ri r1, ri r2, ri r3, .row .own q5 r4, .row .own q3 r5, .row .own q5 r6], .val false [.s (.bool r7)]], []⟩)
 | _ => none⟩
structure Cs (R : Type) where
  none_ : Unit := ()
  f30 : impl_KeepOk.T R
  f32 : impl_keepCopy.T R
  f31 : impl_apply.T R
def G (g : Cs R) : Cons R := [(30, impl_KeepOk.con g.f30), (32, impl_keepCopy.con g.f32), (31, impl_apply.con g.f31)]
def H : List (Nat × Meet) := []
variable (g : Cs R) (k : Nat)
def b (g : Cs R) (k : Nat) (A B C : Int) (D : L5) (F : L3) (J : L5) (a1 : ByteArray) (K : Int → Int → Int → (L5) → (L3) → (L5) → Bool → Option R) : Option R :=
 g.f30 A B C D F J (fun r1 => cond (!r1) (K 0 0 0 [] [] [] false) (g.f32 A B C D F J (fun r2 r3 r4 r5 r6 r7 => g.f31 r2 r3 r4 r5 r6 r7 a1 (fun r8 r9 r10 r11 r12 r13 r14 => cond (!r14) (g.f32 A B C D F J (fun r15 r16 r17 r18 r19 r20 => K r15 r16 r17 r18 r19 r20 false)) (g.f30 r8 r9 r10 r11 r12 r13 (fun r21 => cond (!r21) (g.f32 A B C D F J (fun r22 r23 r24 r25 r26 r27 => K r22 r23 r24 r25 r26 r27 false)) (g.f32 r8 r9 r10 r11 r12 r13 (fun r28 r29 r30 r31 r32 r33 => K r28 r29 r30 r31 r32 r33 true))))))))
theorem evs (A B C : Int) (D : L5) (F : L3) (J : L5) (a1 : ByteArray) (KF : Ret → Option R) : evFunc E (G g) k H [] false Tryz.f10 [.val true [ri A, ri B, ri C, .row .ro q5 D, .row .ro q3 F, .row .ro q5 J], .val false [.s (.string a1)]] KF = b g k A B C D F J a1 (fun r1 r2 r3 r4 r5 r6 r7 => KF ⟨[.val true [ri r1, ri r2, ri r3, .row .own q5 r4, .row .own q3 r5, .row .own q5 r6], .val false [.s (.bool r7)]], []⟩) :=
 by kernel_rfl
end impl_KeepDo
namespace impl_KeepDo
def g (k : Nat) : Cs R := ⟨(), impl_KeepOk.c k, impl_keepCopy.c k, impl_apply.c k⟩
def c (k : Nat) : T R := b (g k) k
end impl_KeepDo
/-! ### laws_eqNote: function 68 -/
namespace laws_eqNote
abbrev T (R : Type) : Type := Int → Int → Int → Int → ByteArray → Int → Int → Int → Int → ByteArray → (Bool → Option R) → Option R
def con (f : T R) : Con R := ⟨[], fun args K => match args with
 | [.val true [.s (.int .i64 A), .s (.int .i64 B), .s (.int .i64 C), .s (.int .i64 D), .s (.string F)], .val true [.s (.int .i64 J), .s (.int .i64 M), .s (.int .i64 N), .s (.int .i64 O), .s (.string P)]] => f A B C D F J M N O P (fun r1 => K ⟨[.val false [.s (.bool r1)]], []⟩)
 | _ => none⟩
structure Cs (R : Type) where
  none_ : Unit := ()
def G (g : Cs R) : Cons R := []
def H : List (Nat × Meet) := []
variable (g : Cs R) (k : Nat)
def b (g : Cs R) (k : Nat) (A B C D : Int) (F : ByteArray) (J M N O : Int) (P : ByteArray) (K : Bool → Option R) : Option R :=
 cond (!decide (A = J)) (K false) (cond (!decide (B = M)) (K false) (cond (!decide (C = N)) (K false) (cond (!decide (D = O)) (K false) (cond (!decide (F = P)) (K false) (K true)))))
theorem evs (A B C D : Int) (F : ByteArray) (J M N O : Int) (P : ByteArray) (KF : Ret → Option R) : evFunc E (G g) k H [] false Tryz.f68 [.val true [ri A, ri B, ri C, ri D, .s (.string F)], .val true [ri J, ri M, ri N, ri O, .s (.string P)]] KF = b g k A B C D F J M N O P (fun r1 => KF ⟨[.val false [.s (.bool r1)]], []⟩) :=
 by kernel_rfl
end laws_eqNote
namespace laws_eqNote
def g (k : Nat) : Cs R := ⟨()⟩
def c (k : Nat) : T R := b (g k) k
end laws_eqNote
/-! ### laws_eqNoteS: function 33 -/
namespace laws_eqNoteS
abbrev T (R : Type) : Type := (L5) → (L5) → (Bool → Option R) → Option R
def con (f : T R) : Con R := ⟨[], fun args K => match args with
 | [.val false [pa0], .val false [pa1]] => withRow q5 pa0 fun a0 => withRow q5 pa1 fun a1 => f a0 a1 (fun r1 => K ⟨[.val false [.s (.bool r1)]], []⟩)
 | _ => none⟩
structure Cs (R : Type) where
  none_ : Unit := ()
  f68 : laws_eqNote.T R
def G (g : Cs R) : Cons R := [(68, laws_eqNote.con g.f68)]
def H : List (Nat × Meet) := [(13, ⟨[(0, [(0, q5)]), (1, [(0, q5)])], []⟩), (28, ⟨[(0, [(0, q5)]), (1, [(0, q5)]), (5, [])], []⟩), (31, ⟨[(4, [])], []⟩), (53, ⟨[(4, [])], []⟩), (58, ⟨[(0, [(0, q5)]), (1, [(0, q5)]), (5, [])], []⟩), (467, ⟨[(0, [(0, q5)]), (1, [(0, q5)]), (5, [])], []⟩), (931, ⟨[], []⟩), (7461, ⟨[(4, [])], []⟩)]
abbrev S1 (x1 x2 : L5) : St := mkSt [(0, .c (.sl 0)), (1, .c (.sl 32))] [(0, .row .ro q5 x1), (32, .row .ro q5 x2)]
abbrev S2 (x1 : Bool) : St := mkSt [(4, .c (.s (.bool x1)))] []
abbrev S3 (x1 : Int) (x2 x3 : L5) : St := mkSt [(0, .c (.sl 0)), (1, .c (.sl 32)), (5, .c (si x1))] [(0, .row .ro q5 x2), (32, .row .ro q5 x3)]
abbrev S4 : St := mkSt [] []
noncomputable abbrev V (g : Cs R) (k : Nat) (K : Kont R) (b : List Bool) (p : Nat) (st : St) : Option R := ev E (G g) k H (nodeAt (bodyOf Tryz.f33) b) p st K
noncomputable abbrev U (g : Cs R) (k : Nat) (n : Nat) (b : List Bool) : Nat → St → (St → Option R) → Kont R → Option R := evPre E (G g) k H n (nodeAt (bodyOf Tryz.f33) b)
noncomputable abbrev W (g : Cs R) (k : Nat) (b : List Bool) (p : Nat) : St → Kont R → Option R := ev E (G g) k H (nodeAt (bodyOf Tryz.f33) b) p
variable (g : Cs R) (k : Nat)
def s1 (g : Cs R) (k : Nat) (a0 a1 : L5) (j : Option R) (q : Bool → Option R) : Option R :=
 let y1 := (!decide ((a0.length : Int) = (a1.length : Int))); cond y1 (q false) (j)
theorem s1_ev (a0 a1 : L5) (X : St → Option R) (K : Kont R) : U g k 2 [] 1 (S1 a0 a1) X K = s1 g k a0 a1 (X (S1 a0 a1)) (fun z0 => K .ret (S2 z0)) := by kernel_rfl
def s2 (g : Cs R) (k : Nat) (a0 a1 : L5) (j : Int → Option R) : Option R :=
 j 0
theorem s2_ev (a0 a1 : L5) (X : St → Option R) (K : Kont R) : U g k 1 [true, true, false] 14 (S1 a0 a1) X K = s2 g k a0 a1 (fun z1 => X (S3 z1 a0 a1)) := by kernel_rfl
def s3 (g : Cs R) (k : Nat) (z2 : Int) (a0 a1 : L5) (j : Int → Option R) (x0 : Option R) (q : Bool → Option R) : Option R :=
 cond (decide (z2 < (a0.length : Int))) (cond (decide (0 ≤ z2) && decide (z2 < (a0.length : Int))) (cond (decide (0 ≤ z2) && decide (z2 < (a1.length : Int))) (g.f68 ((a0.getD z2.toNat n5).1) ((a0.getD z2.toNat n5).2.1) ((a0.getD z2.toNat n5).2.2.1) ((a0.getD z2.toNat n5).2.2.2.1) ((a0.getD z2.toNat n5).2.2.2.2) ((a1.getD z2.toNat n5).1) ((a1.getD z2.toNat n5).2.1) ((a1.getD z2.toNat n5).2.2.1) ((a1.getD z2.toNat n5).2.2.2.1) ((a1.getD z2.toNat n5).2.2.2.2) (fun r1 => cond (!r1) (q false) (j (IntKind.wrap .i64 (z2 + 1))))) none) none) (x0)
theorem s3_ev (z2 : Int) (a0 a1 : L5) (K : Kont R) : V g k K [true, true, false, true, false, false] 116 (S3 z2 a0 a1) = s3 g k z2 a0 a1 (fun z3 => K .normal (S3 z3 a0 a1)) (K (.exit 0) S4) (fun z4 => K .ret (S2 z4)) := by kernel_rfl
def l4r (g : Cs R) (k : Nat) (a0 a1 : L5) (x0 : Option R) (q : Bool → Option R) : Nat → Int → Option R
 | 0, _ => none
 | n + 1, z2 => s3 g k z2 a0 a1 (fun z3 => l4r g k a0 a1 x0 q n z3) (x0) (fun z4 => q z4)
def l4 (g : Cs R) (k : Nat) (z1 : Int) (a0 a1 : L5) (x0 : Option R) (q : Bool → Option R) : Option R := l4r g k a0 a1 x0 q k z1
theorem l4r_ev (a0 a1 : L5) (K : Kont R) : ∀ (n : Nat) (z2 : Int), evLoop (W g k [true, true, false, true, false, false] 116) (atMeet H 58) K n (S3 z2 a0 a1) = l4r g k a0 a1 (K (.exit 0) S4) (fun z5 => K .ret (S2 z5)) n z2 := by
 intro n
 induction n with
 | zero => intros; rfl
 | succ n ih =>
  intro z2
  exact Eq.trans (by kernel_rfl) ((s3_ev g k z2 a0 a1 (loopK (W g k [true, true, false, true, false, false] 116) (atMeet H 58) K n)).trans (Eq.trans (by kernel_rfl) (congrArg (fun f_ => s3 g k z2 a0 a1 f_ (K (.exit 0) S4) (fun z4 => K .ret (S2 z4))) (funext fun (z3 : Int) => (ih z3)))))
theorem l4_ev (z1 : Int) (a0 a1 : L5) (K : Kont R) : V g k K [true, true, false, true, false] 58 (S3 z1 a0 a1) = l4 g k z1 a0 a1 (K (.exit 0) S4) (fun z5 => K .ret (S2 z5)) :=
 Eq.trans (by kernel_rfl) (l4r_ev g k a0 a1 K k z1)
def b5 (g : Cs R) (k : Nat) (z1 : Int) (a0 a1 : L5) (j : Option R) (q : Bool → Option R) : Option R :=
 l4 g k z1 a0 a1 (j) (fun z5 => q z5)
theorem b5_ev (z1 : Int) (a0 a1 : L5) (K : Kont R) : V g k K [true, true, false, true] 29 (S3 z1 a0 a1) = b5 g k z1 a0 a1 (K .normal S4) (fun z6 => K .ret (S2 z6)) :=
 Eq.trans (by kernel_rfl) ((l4_ev g k z1 a0 a1 (blockK 0 (fun st => K .normal (atMeet H 29 st)) K)).trans (by kernel_rfl))
def c6 (g : Cs R) (k : Nat) (a0 a1 : L5) (j : Option R) (q : Bool → Option R) : Option R :=
 s2 g k a0 a1 (fun z1 => b5 g k z1 a0 a1 (j) (fun z6 => q z6))
theorem c6_ev (a0 a1 : L5) (K : Kont R) : V g k K [true, true, false] 14 (S1 a0 a1) = c6 g k a0 a1 (K .normal S4) (fun z7 => K .ret (S2 z7)) :=
 (Eq.trans (by kernel_rfl) (s2_ev g k a0 a1 (V g k K [true, true, false, true] 29) K)).trans (congrArg (fun f_ => s2 g k a0 a1 f_) (funext fun (z1 : Int) => (b5_ev g k z1 a0 a1 K)))
def s7 (g : Cs R) (k : Nat)  (q : Bool → Option R) : Option R :=
 q true
theorem s7_ev  (K : Kont R) : V g k K [true, true, true] 15 S4 = s7 g k (fun z8 => K .ret (S2 z8)) := by kernel_rfl
def c8 (g : Cs R) (k : Nat) (a0 a1 : L5) (q : Bool → Option R) : Option R :=
 c6 g k a0 a1 (s7 g k (fun z8 => q z8)) (fun z7 => q z7)
theorem c8_ev (a0 a1 : L5) (K : Kont R) : V g k K [true, true] 7 (S1 a0 a1) = c8 g k a0 a1 (fun z9 => K .ret (S2 z9)) :=
 (Eq.trans (by kernel_rfl) (c6_ev g k a0 a1 (seqK (V g k K [true, true, true] 15) K))).trans (congrArg (fun f_ => c6 g k a0 a1 f_ (fun z7 => K .ret (S2 z7))) (seqN (f := (V g k K [true, true, true] 15)) (K := K) (s7_ev g k K)))
def c9 (g : Cs R) (k : Nat) (a0 a1 : L5) (q : Bool → Option R) : Option R :=
 s1 g k a0 a1 (c8 g k a0 a1 (fun z9 => q z9)) (fun z0 => q z0)
theorem c9_ev (a0 a1 : L5) (K : Kont R) : V g k K [] 1 (S1 a0 a1) = c9 g k a0 a1 (fun z10 => K .ret (S2 z10)) :=
 (Eq.trans (by kernel_rfl) (s1_ev g k a0 a1 (V g k K [true, true] 7) K)).trans (congrArg (fun f_ => s1 g k a0 a1 f_ (fun z0 => K .ret (S2 z0))) (c8_ev g k a0 a1 K))
def b (g : Cs R) (k : Nat) (a0 a1 : L5) (K : Bool → Option R) : Option R :=
 c9 g k a0 a1 (fun z10 => K z10)
theorem evs (a0 a1 : L5) (KF : Ret → Option R) : evFunc E (G g) k H [] false Tryz.f33 [.val false [.row .ro q5 a0], .val false [.row .ro q5 a1]] KF = b g k a0 a1 (fun r1 => KF ⟨[.val false [.s (.bool r1)]], []⟩) :=
 Eq.trans (by kernel_rfl) ((c9_ev g k a0 a1 (fin E.P false Tryz.f33 [] KF)).trans (by kernel_rfl))
end laws_eqNoteS
namespace laws_eqNoteS
def g (k : Nat) : Cs R := ⟨(), laws_eqNote.c k⟩
def c (k : Nat) : T R := b (g k) k
end laws_eqNoteS
/-! ### laws_eqMark: function 69 -/
namespace laws_eqMark
abbrev T (R : Type) : Type := Int → Int → Int → Int → Int → Int → (Bool → Option R) → Option R
def con (f : T R) : Con R := ⟨[], fun args K => match args with
 | [.val true [.s (.int .i64 A), .s (.int .i64 B), .s (.int .i64 C)], .val true [.s (.int .i64 D), .s (.int .i64 F), .s (.int .i64 J)]] => f A B C D F J (fun r1 => K ⟨[.val false [.s (.bool r1)]], []⟩)
 | _ => none⟩
structure Cs (R : Type) where
  none_ : Unit := ()
def G (g : Cs R) : Cons R := []
def H : List (Nat × Meet) := []
variable (g : Cs R) (k : Nat)
def b (g : Cs R) (k : Nat) (A B C D F J : Int) (K : Bool → Option R) : Option R :=
 cond (!decide (A = D)) (K false) (cond (!decide (B = F)) (K false) (cond (!decide (C = J)) (K false) (K true)))
theorem evs (A B C D F J : Int) (KF : Ret → Option R) : evFunc E (G g) k H [] false Tryz.f69 [.val true [ri A, ri B, ri C], .val true [ri D, ri F, ri J]] KF = b g k A B C D F J (fun r1 => KF ⟨[.val false [.s (.bool r1)]], []⟩) :=
 by kernel_rfl
end laws_eqMark
namespace laws_eqMark
def g (k : Nat) : Cs R := ⟨()⟩
def c (k : Nat) : T R := b (g k) k
end laws_eqMark
/-! ### laws_eqMarkS: function 34 -/
namespace laws_eqMarkS
abbrev T (R : Type) : Type := (L3) → (L3) → (Bool → Option R) → Option R
def con (f : T R) : Con R := ⟨[], fun args K => match args with
 | [.val false [pa0], .val false [pa1]] => withRow q3 pa0 fun a0 => withRow q3 pa1 fun a1 => f a0 a1 (fun r1 => K ⟨[.val false [.s (.bool r1)]], []⟩)
 | _ => none⟩
structure Cs (R : Type) where
  none_ : Unit := ()
  f69 : laws_eqMark.T R
def G (g : Cs R) : Cons R := [(69, laws_eqMark.con g.f69)]
def H : List (Nat × Meet) := [(13, ⟨[(0, [(0, q3)]), (1, [(0, q3)])], []⟩), (28, ⟨[(0, [(0, q3)]), (1, [(0, q3)]), (5, [])], []⟩), (31, ⟨[(4, [])], []⟩), (53, ⟨[(4, [])], []⟩), (58, ⟨[(0, [(0, q3)]), (1, [(0, q3)]), (5, [])], []⟩), (467, ⟨[(0, [(0, q3)]), (1, [(0, q3)]), (5, [])], []⟩), (931, ⟨[], []⟩), (7461, ⟨[(4, [])], []⟩)]
abbrev S1 (x1 x2 : L3) : St := mkSt [(0, .c (.sl 0)), (1, .c (.sl 32))] [(0, .row .ro q3 x1), (32, .row .ro q3 x2)]
abbrev S2 (x1 : Bool) : St := mkSt [(4, .c (.s (.bool x1)))] []
abbrev S3 (x1 : Int) (x2 x3 : L3) : St := mkSt [(0, .c (.sl 0)), (1, .c (.sl 32)), (5, .c (si x1))] [(0, .row .ro q3 x2), (32, .row .ro q3 x3)]
abbrev S4 : St := mkSt [] []
noncomputable abbrev V (g : Cs R) (k : Nat) (K : Kont R) (b : List Bool) (p : Nat) (st : St) : Option R := ev E (G g) k H (nodeAt (bodyOf Tryz.f34) b) p st K
noncomputable abbrev U (g : Cs R) (k : Nat) (n : Nat) (b : List Bool) : Nat → St → (St → Option R) → Kont R → Option R := evPre E (G g) k H n (nodeAt (bodyOf Tryz.f34) b)
noncomputable abbrev W (g : Cs R) (k : Nat) (b : List Bool) (p : Nat) : St → Kont R → Option R := ev E (G g) k H (nodeAt (bodyOf Tryz.f34) b) p
variable (g : Cs R) (k : Nat)
def s1 (g : Cs R) (k : Nat) (a0 a1 : L3) (j : Option R) (q : Bool → Option R) : Option R :=
 let y1 := (!decide ((a0.length : Int) = (a1.length : Int))); cond y1 (q false) (j)
theorem s1_ev (a0 a1 : L3) (X : St → Option R) (K : Kont R) : U g k 2 [] 1 (S1 a0 a1) X K = s1 g k a0 a1 (X (S1 a0 a1)) (fun z0 => K .ret (S2 z0)) := by kernel_rfl
def s2 (g : Cs R) (k : Nat) (a0 a1 : L3) (j : Int → Option R) : Option R :=
 j 0
theorem s2_ev (a0 a1 : L3) (X : St → Option R) (K : Kont R) : U g k 1 [true, true, false] 14 (S1 a0 a1) X K = s2 g k a0 a1 (fun z1 => X (S3 z1 a0 a1)) := by kernel_rfl
def s3 (g : Cs R) (k : Nat) (z2 : Int) (a0 a1 : L3) (j : Int → Option R) (x0 : Option R) (q : Bool → Option R) : Option R :=
 cond (decide (z2 < (a0.length : Int))) (cond (decide (0 ≤ z2) && decide (z2 < (a0.length : Int))) (cond (decide (0 ≤ z2) && decide (z2 < (a1.length : Int))) (g.f69 ((a0.getD z2.toNat n3).1) ((a0.getD z2.toNat n3).2.1) ((a0.getD z2.toNat n3).2.2) ((a1.getD z2.toNat n3).1) ((a1.getD z2.toNat n3).2.1) ((a1.getD z2.toNat n3).2.2) (fun r1 => cond (!r1) (q false) (j (IntKind.wrap .i64 (z2 + 1))))) none) none) (x0)
theorem s3_ev (z2 : Int) (a0 a1 : L3) (K : Kont R) : V g k K [true, true, false, true, false, false] 116 (S3 z2 a0 a1) = s3 g k z2 a0 a1 (fun z3 => K .normal (S3 z3 a0 a1)) (K (.exit 0) S4) (fun z4 => K .ret (S2 z4)) := by kernel_rfl
def l4r (g : Cs R) (k : Nat) (a0 a1 : L3) (x0 : Option R) (q : Bool → Option R) : Nat → Int → Option R
 | 0, _ => none
 | n + 1, z2 => s3 g k z2 a0 a1 (fun z3 => l4r g k a0 a1 x0 q n z3) (x0) (fun z4 => q z4)
def l4 (g : Cs R) (k : Nat) (z1 : Int) (a0 a1 : L3) (x0 : Option R) (q : Bool → Option R) : Option R := l4r g k a0 a1 x0 q k z1
theorem l4r_ev (a0 a1 : L3) (K : Kont R) : ∀ (n : Nat) (z2 : Int), evLoop (W g k [true, true, false, true, false, false] 116) (atMeet H 58) K n (S3 z2 a0 a1) = l4r g k a0 a1 (K (.exit 0) S4) (fun z5 => K .ret (S2 z5)) n z2 := by
 intro n
 induction n with
 | zero => intros; rfl
 | succ n ih =>
  intro z2
  exact Eq.trans (by kernel_rfl) ((s3_ev g k z2 a0 a1 (loopK (W g k [true, true, false, true, false, false] 116) (atMeet H 58) K n)).trans (Eq.trans (by kernel_rfl) (congrArg (fun f_ => s3 g k z2 a0 a1 f_ (K (.exit 0) S4) (fun z4 => K .ret (S2 z4))) (funext fun (z3 : Int) => (ih z3)))))
theorem l4_ev (z1 : Int) (a0 a1 : L3) (K : Kont R) : V g k K [true, true, false, true, false] 58 (S3 z1 a0 a1) = l4 g k z1 a0 a1 (K (.exit 0) S4) (fun z5 => K .ret (S2 z5)) :=
 Eq.trans (by kernel_rfl) (l4r_ev g k a0 a1 K k z1)
def b5 (g : Cs R) (k : Nat) (z1 : Int) (a0 a1 : L3) (j : Option R) (q : Bool → Option R) : Option R :=
 l4 g k z1 a0 a1 (j) (fun z5 => q z5)
theorem b5_ev (z1 : Int) (a0 a1 : L3) (K : Kont R) : V g k K [true, true, false, true] 29 (S3 z1 a0 a1) = b5 g k z1 a0 a1 (K .normal S4) (fun z6 => K .ret (S2 z6)) :=
 Eq.trans (by kernel_rfl) ((l4_ev g k z1 a0 a1 (blockK 0 (fun st => K .normal (atMeet H 29 st)) K)).trans (by kernel_rfl))
def c6 (g : Cs R) (k : Nat) (a0 a1 : L3) (j : Option R) (q : Bool → Option R) : Option R :=
 s2 g k a0 a1 (fun z1 => b5 g k z1 a0 a1 (j) (fun z6 => q z6))
theorem c6_ev (a0 a1 : L3) (K : Kont R) : V g k K [true, true, false] 14 (S1 a0 a1) = c6 g k a0 a1 (K .normal S4) (fun z7 => K .ret (S2 z7)) :=
 (Eq.trans (by kernel_rfl) (s2_ev g k a0 a1 (V g k K [true, true, false, true] 29) K)).trans (congrArg (fun f_ => s2 g k a0 a1 f_) (funext fun (z1 : Int) => (b5_ev g k z1 a0 a1 K)))
def s7 (g : Cs R) (k : Nat)  (q : Bool → Option R) : Option R :=
 q true
theorem s7_ev  (K : Kont R) : V g k K [true, true, true] 15 S4 = s7 g k (fun z8 => K .ret (S2 z8)) := by kernel_rfl
def c8 (g : Cs R) (k : Nat) (a0 a1 : L3) (q : Bool → Option R) : Option R :=
 c6 g k a0 a1 (s7 g k (fun z8 => q z8)) (fun z7 => q z7)
theorem c8_ev (a0 a1 : L3) (K : Kont R) : V g k K [true, true] 7 (S1 a0 a1) = c8 g k a0 a1 (fun z9 => K .ret (S2 z9)) :=
 (Eq.trans (by kernel_rfl) (c6_ev g k a0 a1 (seqK (V g k K [true, true, true] 15) K))).trans (congrArg (fun f_ => c6 g k a0 a1 f_ (fun z7 => K .ret (S2 z7))) (seqN (f := (V g k K [true, true, true] 15)) (K := K) (s7_ev g k K)))
def c9 (g : Cs R) (k : Nat) (a0 a1 : L3) (q : Bool → Option R) : Option R :=
 s1 g k a0 a1 (c8 g k a0 a1 (fun z9 => q z9)) (fun z0 => q z0)
theorem c9_ev (a0 a1 : L3) (K : Kont R) : V g k K [] 1 (S1 a0 a1) = c9 g k a0 a1 (fun z10 => K .ret (S2 z10)) :=
 (Eq.trans (by kernel_rfl) (s1_ev g k a0 a1 (V g k K [true, true] 7) K)).trans (congrArg (fun f_ => s1 g k a0 a1 f_ (fun z0 => K .ret (S2 z0))) (c8_ev g k a0 a1 K))
def b (g : Cs R) (k : Nat) (a0 a1 : L3) (K : Bool → Option R) : Option R :=
 c9 g k a0 a1 (fun z10 => K z10)
theorem evs (a0 a1 : L3) (KF : Ret → Option R) : evFunc E (G g) k H [] false Tryz.f34 [.val false [.row .ro q3 a0], .val false [.row .ro q3 a1]] KF = b g k a0 a1 (fun r1 => KF ⟨[.val false [.s (.bool r1)]], []⟩) :=
 Eq.trans (by kernel_rfl) ((c9_ev g k a0 a1 (fin E.P false Tryz.f34 [] KF)).trans (by kernel_rfl))
end laws_eqMarkS
namespace laws_eqMarkS
def g (k : Nat) : Cs R := ⟨(), laws_eqMark.c k⟩
def c (k : Nat) : T R := b (g k) k
end laws_eqMarkS
/-! ### laws_eqKeep: function 15 -/
namespace laws_eqKeep
abbrev T (R : Type) : Type := Int → Int → Int → (L5) → (L3) → (L5) → Int → Int → Int → (L5) → (L3) → (L5) → (Bool → Option R) → Option R
def con (f : T R) : Con R := ⟨[], fun args K => match args with
 | [.val true [.s (.int .i64 A), .s (.int .i64 B), .s (.int .i64 C), D, F, J], .val true [.s (.int .i64 M), .s (.int .i64 N), .s (.int .i64 O), P, Q, S]] => withRow q5 D fun U => withRow q3 F fun W => withRow q5 J fun X => withRow q5 P fun Y => withRow q3 Q fun Z => withRow q5 S fun aA => f A B C U W X M N O Y Z aA (fun r1 => K ⟨[.val false [.s (.bool r1)]], []⟩)
 | _ => none⟩
structure Cs (R : Type) where
  none_ : Unit := ()
  f33 : laws_eqNoteS.T R
  f34 : laws_eqMarkS.T R
def G (g : Cs R) : Cons R := [(33, laws_eqNoteS.con g.f33), (34, laws_eqMarkS.con g.f34)]
def H : List (Nat × Meet) := []
variable (g : Cs R) (k : Nat)
def b (g : Cs R) (k : Nat) (A B C : Int) (D : L5) (F : L3) (J : L5) (M N O : Int) (P : L5) (Q : L3) (S : L5) (K : Bool → Option R) : Option R :=
 cond (!decide (A = M)) (K false) (cond (!decide (B = N)) (K false) (cond (!decide (C = O)) (K false) (g.f33 D P (fun r1 => cond (!r1) (K false) (g.f34 F Q (fun r2 => cond (!r2) (K false) (g.f33 J S (fun r3 => cond (!r3) (K false) (K true)))))))))
theorem evs (A B C : Int) (D : L5) (F : L3) (J : L5) (M N O : Int) (P : L5) (Q : L3) (S : L5) (KF : Ret → Option R) : evFunc E (G g) k H [] false Tryz.f15 [.val true [ri A, ri B, ri C, .row .ro q5 D, .row .ro q3 F, .row .ro q5 J], .val true [ri M, ri N, ri O, .row .ro q5 P, .row .ro q3 Q, .row .ro q5 S]] KF = b g k A B C D F J M N O P Q S (fun r1 => KF ⟨[.val false [.s (.bool r1)]], []⟩) :=
 by kernel_rfl
end laws_eqKeep
namespace laws_eqKeep
def g (k : Nat) : Cs R := ⟨(), laws_eqNoteS.c k, laws_eqMarkS.c k⟩
def c (k : Nat) : T R := b (g k) k
end laws_eqKeep
/-! ### laws_markText: function 35 -/
namespace laws_markText
abbrev T (R : Type) : Type := Int → (ByteArray → Option R) → Option R
def con (f : T R) : Con R := ⟨[], fun args K => match args with
 | [.val false [.s (.int .i64 a0)]] => f a0 (fun r1 => K ⟨[.val false [.s (.string r1)]], []⟩)
 | _ => none⟩
structure Cs (R : Type) where
  none_ : Unit := ()
def G (g : Cs R) : Cons R := []
def H : List (Nat × Meet) := [(14, ⟨[(0, []), (3, [])], []⟩), (53, ⟨[(2, [])], []⟩), (60, ⟨[(0, []), (3, [])], []⟩), (63, ⟨[(2, [])], []⟩), (241, ⟨[(0, []), (3, [])], []⟩), (963, ⟨[(3, [])], []⟩)]
abbrev S1 (x1 : Int) (x2 : ByteArray) : St := mkSt [(0, .c (si x1)), (3, .c (.s (.string x2)))] []
abbrev S2 (x1 : ByteArray) : St := mkSt [(2, .c (.s (.string x1)))] []
abbrev S3 (x1 : ByteArray) : St := mkSt [(3, .c (.s (.string x1)))] []
noncomputable abbrev V (g : Cs R) (k : Nat) (K : Kont R) (b : List Bool) (p : Nat) (st : St) : Option R := ev E (G g) k H (nodeAt (bodyOf Tryz.f35) b) p st K
noncomputable abbrev U (g : Cs R) (k : Nat) (n : Nat) (b : List Bool) : Nat → St → (St → Option R) → Kont R → Option R := evPre E (G g) k H n (nodeAt (bodyOf Tryz.f35) b)
noncomputable abbrev W (g : Cs R) (k : Nat) (b : List Bool) (p : Nat) : St → Kont R → Option R := ev E (G g) k H (nodeAt (bodyOf Tryz.f35) b) p
variable (g : Cs R) (k : Nat)
def s1 (g : Cs R) (k : Nat) (a0 : Int) (j : ByteArray → Option R) (q : ByteArray → Option R) : Option R :=
 cond (decide (a0 ≤ 0)) (q (ByteArray.mk #[109, 48])) (j (ByteArray.mk #[]))
theorem s1_ev (a0 : Int) (X : St → Option R) (K : Kont R) : U g k 3 [] 1 (mkSt [(0, .c (si a0))] []) X K = s1 g k a0 (fun z0 => X (S1 a0 z0)) (fun z1 => K .ret (S2 z1)) := by kernel_rfl
def s2 (g : Cs R) (k : Nat) (z2 : Int) (z3 : ByteArray) (j : Int → ByteArray → Option R) (x0 : Option R) : Option R :=
 cond (decide ((0 : Int) < z2)) (cond (!decide ((10 : Int) = 0)) (let y1 := (IntKind.wrap .i64 ((48 : Int) + (Int.tmod z2 10))); cond (decide ((ofBytes ([(IntKind.wrap .u8 (y1))] : List Int)).size + z3.size ≤ 9223372036854775807)) (let y2 := ((ofBytes ([(IntKind.wrap .u8 (y1))] : List Int)) ++ z3); cond (!decide ((10 : Int) = 0)) (j (IntKind.wrap .i64 (Int.tdiv z2 10)) y2) none) none) none) (x0)
theorem s2_ev (z2 : Int) (z3 : ByteArray) (K : Kont R) : V g k K [true, true, true, false, false, false] 120 (S1 z2 z3) = s2 g k z2 z3 (fun z4 z5 => K .normal (S1 z4 z5)) (K (.exit 0) (S3 z3)) := by kernel_rfl
def l3r (g : Cs R) (k : Nat)  (x0 : ByteArray → Option R) : Nat → Int → ByteArray → Option R
 | 0, _, _ => none
 | n + 1, z2, z3 => s2 g k z2 z3 (fun z4 z5 => l3r g k x0 n z4 z5) (x0 z3)
def l3 (g : Cs R) (k : Nat) (a0 : Int) (z0 : ByteArray) (x0 : ByteArray → Option R) : Option R := l3r g k x0 k a0 z0
theorem l3r_ev  (K : Kont R) : ∀ (n : Nat) (z2 : Int) (z3 : ByteArray), evLoop (W g k [true, true, true, false, false, false] 120) (atMeet H 60) K n (S1 z2 z3) = l3r g k (fun z6 => K (.exit 0) (S3 z6)) n z2 z3 := by
 intro n
 induction n with
 | zero => intros; rfl
 | succ n ih =>
  intro z2 z3
  exact Eq.trans (by kernel_rfl) ((s2_ev g k z2 z3 (loopK (W g k [true, true, true, false, false, false] 120) (atMeet H 60) K n)).trans (Eq.trans (by kernel_rfl) (congrArg (fun f_ => s2 g k z2 z3 f_ (K (.exit 0) (S3 z3))) (funext fun (z4 : Int) => (funext fun (z5 : ByteArray) => (ih z4 z5))))))
theorem l3_ev (a0 : Int) (z0 : ByteArray) (K : Kont R) : V g k K [true, true, true, false, false] 60 (S1 a0 z0) = l3 g k a0 z0 (fun z6 => K (.exit 0) (S3 z6)) :=
 Eq.trans (by kernel_rfl) (l3r_ev g k K k a0 z0)
def b4 (g : Cs R) (k : Nat) (a0 : Int) (z0 : ByteArray) (j : ByteArray → Option R) : Option R :=
 l3 g k a0 z0 (fun z6 => j z6)
theorem b4_ev (a0 : Int) (z0 : ByteArray) (K : Kont R) : V g k K [true, true, true, false] 30 (S1 a0 z0) = b4 g k a0 z0 (fun z7 => K .normal (S3 z7)) :=
 Eq.trans (by kernel_rfl) ((l3_ev g k a0 z0 (blockK 0 (fun st => K .normal (atMeet H 30 st)) K)).trans (by kernel_rfl))
def s5 (g : Cs R) (k : Nat) (z7 : ByteArray) (q : ByteArray → Option R) : Option R :=
 cond (decide ((ByteArray.mk #[109]).size + z7.size ≤ 9223372036854775807)) (q ((ByteArray.mk #[109]) ++ z7)) none
theorem s5_ev (z7 : ByteArray) (K : Kont R) : V g k K [true, true, true, true] 31 (S3 z7) = s5 g k z7 (fun z8 => K .ret (S2 z8)) := by kernel_rfl
def c6 (g : Cs R) (k : Nat) (a0 : Int) (z0 : ByteArray) (q : ByteArray → Option R) : Option R :=
 b4 g k a0 z0 (fun z7 => s5 g k z7 (fun z8 => q z8))
theorem c6_ev (a0 : Int) (z0 : ByteArray) (K : Kont R) : V g k K [true, true, true] 15 (S1 a0 z0) = c6 g k a0 z0 (fun z9 => K .ret (S2 z9)) :=
 (Eq.trans (by kernel_rfl) (b4_ev g k a0 z0 (seqK (V g k K [true, true, true, true] 31) K))).trans (congrArg (fun f_ => b4 g k a0 z0 f_) (funext fun (z7 : ByteArray) => (seqN (f := (V g k K [true, true, true, true] 31)) (K := K) (s5_ev g k z7 K))))
def c7 (g : Cs R) (k : Nat) (a0 : Int) (q : ByteArray → Option R) : Option R :=
 s1 g k a0 (fun z0 => c6 g k a0 z0 (fun z9 => q z9)) (fun z1 => q z1)
theorem c7_ev (a0 : Int) (K : Kont R) : V g k K [] 1 (mkSt [(0, .c (si a0))] []) = c7 g k a0 (fun z10 => K .ret (S2 z10)) :=
 (Eq.trans (by kernel_rfl) (s1_ev g k a0 (V g k K [true, true, true] 15) K)).trans (congrArg (fun f_ => s1 g k a0 f_ (fun z1 => K .ret (S2 z1))) (funext fun (z0 : ByteArray) => (c6_ev g k a0 z0 K)))
def b (g : Cs R) (k : Nat) (a0 : Int) (K : ByteArray → Option R) : Option R :=
 c7 g k a0 (fun z10 => K z10)
theorem evs (a0 : Int) (KF : Ret → Option R) : evFunc E (G g) k H [] false Tryz.f35 [.val false [ri a0]] KF = b g k a0 (fun r1 => KF ⟨[.val false [.s (.string r1)]], []⟩) :=
 Eq.trans (by kernel_rfl) ((c7_ev g k a0 (fin E.P false Tryz.f35 [] KF)).trans (by kernel_rfl))
end laws_markText
namespace laws_markText
def g (k : Nat) : Cs R := ⟨()⟩
def c (k : Nat) : T R := b (g k) k
end laws_markText
/-! ### laws_markNoteS: function 36 -/
namespace laws_markNoteS
abbrev T (R : Type) : Type := (L5) → Int → (Int → (L5) → Option R) → Option R
def con (f : T R) : Con R := ⟨[0], fun args K => match args with
 | [.val false [pa0], .val false [.s (.int .i64 a1)]] => withRow q5 pa0 fun a0 => f a0 a1 (fun r1 r2 => K ⟨[.val false [ri r1]], [[.row .fix q5 r2]]⟩)
 | _ => none⟩
structure Cs (R : Type) where
  none_ : Unit := ()
  f35 : laws_markText.T R
def G (g : Cs R) : Cons R := [(35, laws_markText.con g.f35)]
def H : List (Nat × Meet) := [(2, ⟨[(0, [(0, q5)]), (1, [])], [0]⟩), (12, ⟨[(0, [(0, q5)]), (1, []), (5, [])], [0]⟩), (15, ⟨[(4, [])], [0]⟩), (26, ⟨[(0, [(0, q5)]), (1, []), (5, [])], [0]⟩), (211, ⟨[(0, [(0, q5)]), (1, []), (5, [])], [0]⟩), (419, ⟨[(1, [])], [0]⟩)]
abbrev S1 (x1 : Int) (x2 : L5) : St := mkSt [(0, .c (.sl 0)), (1, .c (si x1))] [(0, .row .fix q5 x2)]
abbrev S2 (x1 x2 : Int) (x3 : L5) : St := mkSt [(0, .c (.sl 0)), (1, .c (si x1)), (5, .c (si x2))] [(0, .row .fix q5 x3)]
abbrev S3 (x1 : Int) (x2 : L5) : St := mkSt [(1, .c (si x1))] [(0, .row .fix q5 x2)]
abbrev S4 (x1 : Int) (x2 : L5) : St := mkSt [(4, .c (si x1))] [(0, .row .fix q5 x2)]
noncomputable abbrev V (g : Cs R) (k : Nat) (K : Kont R) (b : List Bool) (p : Nat) (st : St) : Option R := ev E (G g) k H (nodeAt (bodyOf Tryz.f36) b) p st K
noncomputable abbrev U (g : Cs R) (k : Nat) (n : Nat) (b : List Bool) : Nat → St → (St → Option R) → Kont R → Option R := evPre E (G g) k H n (nodeAt (bodyOf Tryz.f36) b)
noncomputable abbrev W (g : Cs R) (k : Nat) (b : List Bool) (p : Nat) : St → Kont R → Option R := ev E (G g) k H (nodeAt (bodyOf Tryz.f36) b) p
variable (g : Cs R) (k : Nat)
def s1 (g : Cs R) (k : Nat) (a1 : Int) (a0 : L5) (j : Option R) : Option R :=
 j
theorem s1_ev (a1 : Int) (a0 : L5) (X : St → Option R) (K : Kont R) : U g k 1 [] 1 (S1 a1 a0) X K = s1 g k a1 a0 (X (S1 a1 a0)) := by kernel_rfl
def s2 (g : Cs R) (k : Nat) (a1 : Int) (a0 : L5) (j : Int → Option R) : Option R :=
 j 0
theorem s2_ev (a1 : Int) (a0 : L5) (X : St → Option R) (K : Kont R) : U g k 1 [true, false] 6 (S1 a1 a0) X K = s2 g k a1 a0 (fun z0 => X (S2 a1 z0 a0)) := by kernel_rfl
def s3 (g : Cs R) (k : Nat) (z1 z2 : Int) (z3 : L5) (j : Int → Int → (L5) → Option R) (x0 : Option R) : Option R :=
 cond (decide (z2 < (z3.length : Int))) (cond (decide (0 ≤ z2) && decide (z2 < (z3.length : Int))) (let y1 := (z3.set z2.toNat (z1, (z3.getD z2.toNat n5).2.1, (z3.getD z2.toNat n5).2.2.1, (z3.getD z2.toNat n5).2.2.2.1, (z3.getD z2.toNat n5).2.2.2.2)); cond (decide (0 ≤ z2) && decide (z2 < (y1.length : Int))) (let y2 := (y1.set z2.toNat ((y1.getD z2.toNat n5).1, (IntKind.wrap .i64 (z1 + 1)), (y1.getD z2.toNat n5).2.2.1, (y1.getD z2.toNat n5).2.2.2.1, (y1.getD z2.toNat n5).2.2.2.2)); let y3 := (IntKind.wrap .i64 ((IntKind.wrap .i64 (z1 + 1)) + 1)); cond (decide (0 ≤ z2) && decide (z2 < (y2.length : Int))) (let y4 := (y2.set z2.toNat ((y2.getD z2.toNat n5).1, (y2.getD z2.toNat n5).2.1, y3, (y2.getD z2.toNat n5).2.2.2.1, (y2.getD z2.toNat n5).2.2.2.2)); cond (decide (0 ≤ z2) && decide (z2 < (y4.length : Int))) (let y5 := (y4.set z2.toNat ((y4.getD z2.toNat n5).1, (y4.getD z2.toNat n5).2.1, (y4.getD z2.toNat n5).2.2.1, (IntKind.wrap .i64 (y3 + 1)), (y4.getD z2.toNat n5).2.2.2.2)); let y6 := (IntKind.wrap .i64 ((IntKind.wrap .i64 (y3 + 1)) + 1)); g.f35 y6 (fun r7 => cond (decide (0 ≤ z2) && decide (z2 < (y5.length : Int))) (let y8 := (y5.set z2.toNat ((y5.getD z2.toNat n5).1, (y5.getD z2.toNat n5).2.1, (y5.getD z2.toNat n5).2.2.1, (y5.getD z2.toNat n5).2.2.2.1, r7)); j (IntKind.wrap .i64 (y6 + 1)) (IntKind.wrap .i64 (z2 + 1)) y8) none)) none) none) none) none) (x0)
theorem s3_ev (z1 z2 : Int) (z3 : L5) (K : Kont R) : V g k K [true, false, true, false, false] 52 (S2 z1 z2 z3) = s3 g k z1 z2 z3 (fun z4 z5 z6 => K .normal (S2 z4 z5 z6)) (K (.exit 0) (S3 z1 z3)) := by kernel_rfl
def l4r (g : Cs R) (k : Nat)  (x0 : Int → (L5) → Option R) : Nat → Int → Int → (L5) → Option R
 | 0, _, _, _ => none
 | n + 1, z1, z2, z3 => s3 g k z1 z2 z3 (fun z4 z5 z6 => l4r g k x0 n z4 z5 z6) (x0 z1 z3)
def l4 (g : Cs R) (k : Nat) (a1 z0 : Int) (a0 : L5) (x0 : Int → (L5) → Option R) : Option R := l4r g k x0 k a1 z0 a0
theorem l4r_ev  (K : Kont R) : ∀ (n : Nat) (z1 z2 : Int) (z3 : L5), evLoop (W g k [true, false, true, false, false] 52) (atMeet H 26) K n (S2 z1 z2 z3) = l4r g k (fun z7 z8 => K (.exit 0) (S3 z7 z8)) n z1 z2 z3 := by
 intro n
 induction n with
 | zero => intros; rfl
 | succ n ih =>
  intro z1 z2 z3
  exact Eq.trans (by kernel_rfl) ((s3_ev g k z1 z2 z3 (loopK (W g k [true, false, true, false, false] 52) (atMeet H 26) K n)).trans (Eq.trans (by kernel_rfl) (congrArg (fun f_ => s3 g k z1 z2 z3 f_ (K (.exit 0) (S3 z1 z3))) (funext fun (z4 : Int) => (funext fun (z5 : Int) => (funext fun (z6 : L5) => (ih z4 z5 z6)))))))
theorem l4_ev (a1 z0 : Int) (a0 : L5) (K : Kont R) : V g k K [true, false, true, false] 26 (S2 a1 z0 a0) = l4 g k a1 z0 a0 (fun z7 z8 => K (.exit 0) (S3 z7 z8)) :=
 Eq.trans (by kernel_rfl) (l4r_ev g k K k a1 z0 a0)
def b5 (g : Cs R) (k : Nat) (a1 z0 : Int) (a0 : L5) (j : Int → (L5) → Option R) : Option R :=
 l4 g k a1 z0 a0 (fun z7 z8 => j z7 z8)
theorem b5_ev (a1 z0 : Int) (a0 : L5) (K : Kont R) : V g k K [true, false, true] 13 (S2 a1 z0 a0) = b5 g k a1 z0 a0 (fun z9 z10 => K .normal (S3 z9 z10)) :=
 Eq.trans (by kernel_rfl) ((l4_ev g k a1 z0 a0 (blockK 0 (fun st => K .normal (atMeet H 13 st)) K)).trans (by kernel_rfl))
def c6 (g : Cs R) (k : Nat) (a1 : Int) (a0 : L5) (j : Int → (L5) → Option R) : Option R :=
 s2 g k a1 a0 (fun z0 => b5 g k a1 z0 a0 (fun z9 z10 => j z9 z10))
theorem c6_ev (a1 : Int) (a0 : L5) (K : Kont R) : V g k K [true, false] 6 (S1 a1 a0) = c6 g k a1 a0 (fun z11 z12 => K .normal (S3 z11 z12)) :=
 (Eq.trans (by kernel_rfl) (s2_ev g k a1 a0 (V g k K [true, false, true] 13) K)).trans (congrArg (fun f_ => s2 g k a1 a0 f_) (funext fun (z0 : Int) => (b5_ev g k a1 z0 a0 K)))
def s7 (g : Cs R) (k : Nat) (z11 : Int) (z12 : L5) (q : Option R) : Option R :=
 q
theorem s7_ev (z11 : Int) (z12 : L5) (K : Kont R) : V g k K [true, true] 7 (S3 z11 z12) = s7 g k z11 z12 (K .ret (S4 z11 z12)) := by kernel_rfl
def c8 (g : Cs R) (k : Nat) (a1 : Int) (a0 : L5) (q : Int → (L5) → Option R) : Option R :=
 c6 g k a1 a0 (fun z11 z12 => s7 g k z11 z12 (q z11 z12))
theorem c8_ev (a1 : Int) (a0 : L5) (K : Kont R) : V g k K [true] 3 (S1 a1 a0) = c8 g k a1 a0 (fun z13 z14 => K .ret (S4 z13 z14)) :=
 (Eq.trans (by kernel_rfl) (c6_ev g k a1 a0 (seqK (V g k K [true, true] 7) K))).trans (congrArg (fun f_ => c6 g k a1 a0 f_) (funext fun (z11 : Int) => (funext fun (z12 : L5) => (seqN (f := (V g k K [true, true] 7)) (K := K) (s7_ev g k z11 z12 K)))))
def c9 (g : Cs R) (k : Nat) (a1 : Int) (a0 : L5) (q : Int → (L5) → Option R) : Option R :=
 s1 g k a1 a0 (c8 g k a1 a0 (fun z13 z14 => q z13 z14))
theorem c9_ev (a1 : Int) (a0 : L5) (K : Kont R) : V g k K [] 1 (S1 a1 a0) = c9 g k a1 a0 (fun z15 z16 => K .ret (S4 z15 z16)) :=
 (Eq.trans (by kernel_rfl) (s1_ev g k a1 a0 (V g k K [true] 3) K)).trans (congrArg (fun f_ => s1 g k a1 a0 f_) (c8_ev g k a1 a0 K))
def b (g : Cs R) (k : Nat) (a0 : L5) (a1 : Int) (K : Int → (L5) → Option R) : Option R :=
 c9 g k a1 a0 (fun z15 z16 => K z15 z16)
theorem evs (a0 : L5) (a1 : Int) (KF : Ret → Option R) : evFunc E (G g) k H [0] false Tryz.f36 [.val false [.row .ro q5 a0], .val false [ri a1]] KF = b g k a0 a1 (fun r1 r2 => KF ⟨[.val false [ri r1]], [[.row .fix q5 r2]]⟩) :=
 Eq.trans (by kernel_rfl) ((c9_ev g k a1 a0 (fin E.P false Tryz.f36 [.row 0] KF)).trans (by kernel_rfl))
end laws_markNoteS
namespace laws_markNoteS
def g (k : Nat) : Cs R := ⟨(), laws_markText.c k⟩
def c (k : Nat) : T R := b (g k) k
end laws_markNoteS
/-! ### laws_markMarkS: function 37 -/
namespace laws_markMarkS
abbrev T (R : Type) : Type := (L3) → Int → (Int → (L3) → Option R) → Option R
def con (f : T R) : Con R := ⟨[0], fun args K => match args with
 | [.val false [pa0], .val false [.s (.int .i64 a1)]] => withRow q3 pa0 fun a0 => f a0 a1 (fun r1 r2 => K ⟨[.val false [ri r1]], [[.row .fix q3 r2]]⟩)
 | _ => none⟩
structure Cs (R : Type) where
  none_ : Unit := ()
def G (g : Cs R) : Cons R := []
def H : List (Nat × Meet) := [(2, ⟨[(0, [(0, q3)]), (1, [])], [0]⟩), (12, ⟨[(0, [(0, q3)]), (1, []), (5, [])], [0]⟩), (15, ⟨[(4, [])], [0]⟩), (26, ⟨[(0, [(0, q3)]), (1, []), (5, [])], [0]⟩), (211, ⟨[(0, [(0, q3)]), (1, []), (5, [])], [0]⟩), (419, ⟨[(1, [])], [0]⟩)]
abbrev S1 (x1 : Int) (x2 : L3) : St := mkSt [(0, .c (.sl 0)), (1, .c (si x1))] [(0, .row .fix q3 x2)]
abbrev S2 (x1 x2 : Int) (x3 : L3) : St := mkSt [(0, .c (.sl 0)), (1, .c (si x1)), (5, .c (si x2))] [(0, .row .fix q3 x3)]
abbrev S3 (x1 : Int) (x2 : L3) : St := mkSt [(1, .c (si x1))] [(0, .row .fix q3 x2)]
abbrev S4 (x1 : Int) (x2 : L3) : St := mkSt [(4, .c (si x1))] [(0, .row .fix q3 x2)]
noncomputable abbrev V (g : Cs R) (k : Nat) (K : Kont R) (b : List Bool) (p : Nat) (st : St) : Option R := ev E (G g) k H (nodeAt (bodyOf Tryz.f37) b) p st K
noncomputable abbrev U (g : Cs R) (k : Nat) (n : Nat) (b : List Bool) : Nat → St → (St → Option R) → Kont R → Option R := evPre E (G g) k H n (nodeAt (bodyOf Tryz.f37) b)
noncomputable abbrev W (g : Cs R) (k : Nat) (b : List Bool) (p : Nat) : St → Kont R → Option R := ev E (G g) k H (nodeAt (bodyOf Tryz.f37) b) p
variable (g : Cs R) (k : Nat)
def s1 (g : Cs R) (k : Nat) (a1 : Int) (a0 : L3) (j : Option R) : Option R :=
 j
theorem s1_ev (a1 : Int) (a0 : L3) (X : St → Option R) (K : Kont R) : U g k 1 [] 1 (S1 a1 a0) X K = s1 g k a1 a0 (X (S1 a1 a0)) := by kernel_rfl
def s2 (g : Cs R) (k : Nat) (a1 : Int) (a0 : L3) (j : Int → Option R) : Option R :=
 j 0
theorem s2_ev (a1 : Int) (a0 : L3) (X : St → Option R) (K : Kont R) : U g k 1 [true, false] 6 (S1 a1 a0) X K = s2 g k a1 a0 (fun z0 => X (S2 a1 z0 a0)) := by kernel_rfl
def s3 (g : Cs R) (k : Nat) (z1 z2 : Int) (z3 : L3) (j : Int → Int → (L3) → Option R) (x0 : Option R) : Option R :=
 cond (decide (z2 < (z3.length : Int))) (cond (decide (0 ≤ z2) && decide (z2 < (z3.length : Int))) (let y1 := (z3.set z2.toNat (z1, (z3.getD z2.toNat n3).2.1, (z3.getD z2.toNat n3).2.2)); cond (decide (0 ≤ z2) && decide (z2 < (y1.length : Int))) (let y2 := (y1.set z2.toNat ((y1.getD z2.toNat n3).1, (IntKind.wrap .i64 (z1 + 1)), (y1.getD z2.toNat n3).2.2)); let y3 := (IntKind.wrap .i64 ((IntKind.wrap .i64 (z1 + 1)) + 1)); cond (decide (0 ≤ z2) && decide (z2 < (y2.length : Int))) (let y4 := (y2.set z2.toNat ((y2.getD z2.toNat n3).1, (y2.getD z2.toNat n3).2.1, y3)); j (IntKind.wrap .i64 (y3 + 1)) (IntKind.wrap .i64 (z2 + 1)) y4) none) none) none) (x0)
theorem s3_ev (z1 z2 : Int) (z3 : L3) (K : Kont R) : V g k K [true, false, true, false, false] 52 (S2 z1 z2 z3) = s3 g k z1 z2 z3 (fun z4 z5 z6 => K .normal (S2 z4 z5 z6)) (K (.exit 0) (S3 z1 z3)) := by kernel_rfl
def l4r (g : Cs R) (k : Nat)  (x0 : Int → (L3) → Option R) : Nat → Int → Int → (L3) → Option R
 | 0, _, _, _ => none
 | n + 1, z1, z2, z3 => s3 g k z1 z2 z3 (fun z4 z5 z6 => l4r g k x0 n z4 z5 z6) (x0 z1 z3)
def l4 (g : Cs R) (k : Nat) (a1 z0 : Int) (a0 : L3) (x0 : Int → (L3) → Option R) : Option R := l4r g k x0 k a1 z0 a0
theorem l4r_ev  (K : Kont R) : ∀ (n : Nat) (z1 z2 : Int) (z3 : L3), evLoop (W g k [true, false, true, false, false] 52) (atMeet H 26) K n (S2 z1 z2 z3) = l4r g k (fun z7 z8 => K (.exit 0) (S3 z7 z8)) n z1 z2 z3 := by
 intro n
 induction n with
 | zero => intros; rfl
 | succ n ih =>
  intro z1 z2 z3
  exact Eq.trans (by kernel_rfl) ((s3_ev g k z1 z2 z3 (loopK (W g k [true, false, true, false, false] 52) (atMeet H 26) K n)).trans (Eq.trans (by kernel_rfl) (congrArg (fun f_ => s3 g k z1 z2 z3 f_ (K (.exit 0) (S3 z1 z3))) (funext fun (z4 : Int) => (funext fun (z5 : Int) => (funext fun (z6 : L3) => (ih z4 z5 z6)))))))
theorem l4_ev (a1 z0 : Int) (a0 : L3) (K : Kont R) : V g k K [true, false, true, false] 26 (S2 a1 z0 a0) = l4 g k a1 z0 a0 (fun z7 z8 => K (.exit 0) (S3 z7 z8)) :=
 Eq.trans (by kernel_rfl) (l4r_ev g k K k a1 z0 a0)
def b5 (g : Cs R) (k : Nat) (a1 z0 : Int) (a0 : L3) (j : Int → (L3) → Option R) : Option R :=
 l4 g k a1 z0 a0 (fun z7 z8 => j z7 z8)
theorem b5_ev (a1 z0 : Int) (a0 : L3) (K : Kont R) : V g k K [true, false, true] 13 (S2 a1 z0 a0) = b5 g k a1 z0 a0 (fun z9 z10 => K .normal (S3 z9 z10)) :=
 Eq.trans (by kernel_rfl) ((l4_ev g k a1 z0 a0 (blockK 0 (fun st => K .normal (atMeet H 13 st)) K)).trans (by kernel_rfl))
def c6 (g : Cs R) (k : Nat) (a1 : Int) (a0 : L3) (j : Int → (L3) → Option R) : Option R :=
 s2 g k a1 a0 (fun z0 => b5 g k a1 z0 a0 (fun z9 z10 => j z9 z10))
theorem c6_ev (a1 : Int) (a0 : L3) (K : Kont R) : V g k K [true, false] 6 (S1 a1 a0) = c6 g k a1 a0 (fun z11 z12 => K .normal (S3 z11 z12)) :=
 (Eq.trans (by kernel_rfl) (s2_ev g k a1 a0 (V g k K [true, false, true] 13) K)).trans (congrArg (fun f_ => s2 g k a1 a0 f_) (funext fun (z0 : Int) => (b5_ev g k a1 z0 a0 K)))
def s7 (g : Cs R) (k : Nat) (z11 : Int) (z12 : L3) (q : Option R) : Option R :=
 q
theorem s7_ev (z11 : Int) (z12 : L3) (K : Kont R) : V g k K [true, true] 7 (S3 z11 z12) = s7 g k z11 z12 (K .ret (S4 z11 z12)) := by kernel_rfl
def c8 (g : Cs R) (k : Nat) (a1 : Int) (a0 : L3) (q : Int → (L3) → Option R) : Option R :=
 c6 g k a1 a0 (fun z11 z12 => s7 g k z11 z12 (q z11 z12))
theorem c8_ev (a1 : Int) (a0 : L3) (K : Kont R) : V g k K [true] 3 (S1 a1 a0) = c8 g k a1 a0 (fun z13 z14 => K .ret (S4 z13 z14)) :=
 (Eq.trans (by kernel_rfl) (c6_ev g k a1 a0 (seqK (V g k K [true, true] 7) K))).trans (congrArg (fun f_ => c6 g k a1 a0 f_) (funext fun (z11 : Int) => (funext fun (z12 : L3) => (seqN (f := (V g k K [true, true] 7)) (K := K) (s7_ev g k z11 z12 K)))))
def c9 (g : Cs R) (k : Nat) (a1 : Int) (a0 : L3) (q : Int → (L3) → Option R) : Option R :=
 s1 g k a1 a0 (c8 g k a1 a0 (fun z13 z14 => q z13 z14))
theorem c9_ev (a1 : Int) (a0 : L3) (K : Kont R) : V g k K [] 1 (S1 a1 a0) = c9 g k a1 a0 (fun z15 z16 => K .ret (S4 z15 z16)) :=
 (Eq.trans (by kernel_rfl) (s1_ev g k a1 a0 (V g k K [true] 3) K)).trans (congrArg (fun f_ => s1 g k a1 a0 f_) (c8_ev g k a1 a0 K))
def b (g : Cs R) (k : Nat) (a0 : L3) (a1 : Int) (K : Int → (L3) → Option R) : Option R :=
 c9 g k a1 a0 (fun z15 z16 => K z15 z16)
theorem evs (a0 : L3) (a1 : Int) (KF : Ret → Option R) : evFunc E (G g) k H [0] false Tryz.f37 [.val false [.row .ro q3 a0], .val false [ri a1]] KF = b g k a0 a1 (fun r1 r2 => KF ⟨[.val false [ri r1]], [[.row .fix q3 r2]]⟩) :=
 Eq.trans (by kernel_rfl) ((c9_ev g k a1 a0 (fin E.P false Tryz.f37 [.row 0] KF)).trans (by kernel_rfl))
end laws_markMarkS
namespace laws_markMarkS
def g (k : Nat) : Cs R := ⟨()⟩
def c (k : Nat) : T R := b (g k) k
end laws_markMarkS
/-! ### laws_markKeep: function 18 -/
namespace laws_markKeep
abbrev T (R : Type) : Type := Int → Int → Int → (L5) → (L3) → (L5) → Int → (Int → (L5) → (L3) → (L5) → Option R) → Option R
def con (f : T R) : Con R := ⟨[0], fun args K => match args with
 | [.val true [.s (.int .i64 A), .s (.int .i64 B), .s (.int .i64 C), D, F, J], .val false [.s (.int .i64 a1)]] => withRow q5 D fun M => withRow q3 F fun N => withRow q5 J fun O => f A B C M N O a1 (fun r1 r2 r3 r4 => K ⟨[.val false [ri r1]], [[.row .fix q5 r2], [.row .fix q3 r3], [.row .fix q5 r4]]⟩)
 | _ => none⟩
structure Cs (R : Type) where
  none_ : Unit := ()
  f36 : laws_markNoteS.T R
  f37 : laws_markMarkS.T R
def G (g : Cs R) : Cons R := [(36, laws_markNoteS.con g.f36), (37, laws_markMarkS.con g.f37)]
def H : List (Nat × Meet) := []
variable (g : Cs R) (k : Nat)
def b (g : Cs R) (k : Nat) (D F J : Int) (A : L5) (B : L3) (C : L5) (a1 : Int) (K : Int → (L5) → (L3) → (L5) → Option R) : Option R :=
 g.f36 A a1 (fun r1 r2 => g.f37 B r1 (fun r3 r4 => g.f36 C r3 (fun r5 r6 => K r5 r2 r4 r6)))
theorem evs (A B C : Int) (D : L5) (F : L3) (J : L5) (a1 : Int) (KF : Ret → Option R) : evFunc E (G g) k H [0] false Tryz.f18 [.val true [ri A, ri B, ri C, .row .ro q5 D, .row .ro q3 F, .row .ro q5 J], .val false [ri a1]] KF = b g k A B C D F J a1 (fun r1 r2 r3 r4 => KF ⟨[.val false [ri r1]], [[.row .fix q5 r2], [.row .fix q3 r3], [.row .fix q5 r4]]⟩) :=
 by kernel_rfl
end laws_markKeep
namespace laws_markKeep
def g (k : Nat) : Cs R := ⟨(), laws_markNoteS.c k, laws_markMarkS.c k⟩
def c (k : Nat) : T R := b (g k) k
end laws_markKeep
/-! ### laws_heldNoteS: function 38 -/
namespace laws_heldNoteS
abbrev T (R : Type) : Type := (L5) → Int → (Int → Option R) → Option R
def con (f : T R) : Con R := ⟨[], fun args K => match args with
 | [.val false [pa0], .val false [.s (.int .i64 a1)]] => withRow q5 pa0 fun a0 => f a0 a1 (fun r1 => K ⟨[.val false [ri r1]], []⟩)
 | _ => none⟩
structure Cs (R : Type) where
  none_ : Unit := ()
  f35 : laws_markText.T R
def G (g : Cs R) : Cons R := [(35, laws_markText.con g.f35)]
def H : List (Nat × Meet) := [(2, ⟨[(0, [(0, q5)]), (1, [])], []⟩), (12, ⟨[(0, [(0, q5)]), (1, []), (5, [])], []⟩), (15, ⟨[(4, [])], []⟩), (26, ⟨[(0, [(0, q5)]), (1, []), (5, [])], []⟩), (211, ⟨[(0, [(0, q5)]), (1, []), (5, [])], []⟩), (419, ⟨[(1, [])], []⟩), (6725, ⟨[(4, [])], []⟩), (26933, ⟨[(4, [])], []⟩), (107765, ⟨[(4, [])], []⟩), (431093, ⟨[(4, [])], []⟩), (1724405, ⟨[(4, [])], []⟩)]
abbrev S1 (x1 : Int) (x2 : L5) : St := mkSt [(0, .c (.sl 0)), (1, .c (si x1))] [(0, .row .ro q5 x2)]
abbrev S2 (x1 x2 : Int) (x3 : L5) : St := mkSt [(0, .c (.sl 0)), (1, .c (si x1)), (5, .c (si x2))] [(0, .row .ro q5 x3)]
abbrev S3 (x1 : Int) : St := mkSt [(1, .c (si x1))] []
abbrev S4 (x1 : Int) : St := mkSt [(4, .c (si x1))] []
noncomputable abbrev V (g : Cs R) (k : Nat) (K : Kont R) (b : List Bool) (p : Nat) (st : St) : Option R := ev E (G g) k H (nodeAt (bodyOf Tryz.f38) b) p st K
noncomputable abbrev U (g : Cs R) (k : Nat) (n : Nat) (b : List Bool) : Nat → St → (St → Option R) → Kont R → Option R := evPre E (G g) k H n (nodeAt (bodyOf Tryz.f38) b)
noncomputable abbrev W (g : Cs R) (k : Nat) (b : List Bool) (p : Nat) : St → Kont R → Option R := ev E (G g) k H (nodeAt (bodyOf Tryz.f38) b) p
variable (g : Cs R) (k : Nat)
def s1 (g : Cs R) (k : Nat) (a1 : Int) (a0 : L5) (j : Option R) : Option R :=
 j
theorem s1_ev (a1 : Int) (a0 : L5) (X : St → Option R) (K : Kont R) : U g k 1 [] 1 (S1 a1 a0) X K = s1 g k a1 a0 (X (S1 a1 a0)) := by kernel_rfl
def s2 (g : Cs R) (k : Nat) (a1 : Int) (a0 : L5) (j : Int → Option R) : Option R :=
 j 0
theorem s2_ev (a1 : Int) (a0 : L5) (X : St → Option R) (K : Kont R) : U g k 1 [true, false] 6 (S1 a1 a0) X K = s2 g k a1 a0 (fun z0 => X (S2 a1 z0 a0)) := by kernel_rfl
def s3 (g : Cs R) (k : Nat) (z1 z2 : Int) (a0 : L5) (j : Int → Int → Option R) (x0 : Option R) (q : Int → Option R) : Option R :=
 cond (decide (z2 < (a0.length : Int))) (cond (decide (0 ≤ z2) && decide (z2 < (a0.length : Int))) (let y1 := (a0.getD z2.toNat n5).1; cond (!decide (y1 = z1)) (q (-1)) (cond (decide (0 ≤ z2) && decide (z2 < (a0.length : Int))) (let y2 := (a0.getD z2.toNat n5).2.1; let y3 := (!decide (y2 = (IntKind.wrap .i64 (z1 + 1)))); cond y3 (q (-1)) (let y4 := (IntKind.wrap .i64 ((IntKind.wrap .i64 (z1 + 1)) + 1)); cond (decide (0 ≤ z2) && decide (z2 < (a0.length : Int))) (let y5 := (a0.getD z2.toNat n5).2.2.1; cond (!decide (y5 = y4)) (q (-1)) (cond (decide (0 ≤ z2) && decide (z2 < (a0.length : Int))) (let y6 := (a0.getD z2.toNat n5).2.2.2.1; cond (!decide (y6 = (IntKind.wrap .i64 (y4 + 1)))) (q (-1)) (let y7 := (IntKind.wrap .i64 ((IntKind.wrap .i64 (y4 + 1)) + 1)); cond (decide (0 ≤ z2) && decide (z2 < (a0.length : Int))) (let y8 := (a0.getD z2.toNat n5).2.2.2.2; g.f35 y7 (fun r9 => cond (!decide (y8 = r9)) (q (-1)) (j (IntKind.wrap .i64 (y7 + 1)) (IntKind.wrap .i64 (z2 + 1))))) none)) none)) none)) none)) none) (x0)
theorem s3_ev (z1 z2 : Int) (a0 : L5) (K : Kont R) : V g k K [true, false, true, false, false] 52 (S2 z1 z2 a0) = s3 g k z1 z2 a0 (fun z3 z4 => K .normal (S2 z3 z4 a0)) (K (.exit 0) (S3 z1)) (fun z5 => K .ret (S4 z5)) := by kernel_rfl
def l4r (g : Cs R) (k : Nat) (a0 : L5) (x0 : Int → Option R) (q : Int → Option R) : Nat → Int → Int → Option R
 | 0, _, _ => none
 | n + 1, z1, z2 => s3 g k z1 z2 a0 (fun z3 z4 => l4r g k a0 x0 q n z3 z4) (x0 z1) (fun z5 => q z5)
def l4 (g : Cs R) (k : Nat) (a1 z0 : Int) (a0 : L5) (x0 : Int → Option R) (q : Int → Option R) : Option R := l4r g k a0 x0 q k a1 z0
theorem l4r_ev (a0 : L5) (K : Kont R) : ∀ (n : Nat) (z1 z2 : Int), evLoop (W g k [true, false, true, false, false] 52) (atMeet H 26) K n (S2 z1 z2 a0) = l4r g k a0 (fun z6 => K (.exit 0) (S3 z6)) (fun z7 => K .ret (S4 z7)) n z1 z2 := by
 intro n
 induction n with
 | zero => intros; rfl
 | succ n ih =>
  intro z1 z2
  exact Eq.trans (by kernel_rfl) ((s3_ev g k z1 z2 a0 (loopK (W g k [true, false, true, false, false] 52) (atMeet H 26) K n)).trans (Eq.trans (by kernel_rfl) (congrArg (fun f_ => s3 g k z1 z2 a0 f_ (K (.exit 0) (S3 z1)) (fun z5 => K .ret (S4 z5))) (funext fun (z3 : Int) => (funext fun (z4 : Int) => (ih z3 z4))))))
theorem l4_ev (a1 z0 : Int) (a0 : L5) (K : Kont R) : V g k K [true, false, true, false] 26 (S2 a1 z0 a0) = l4 g k a1 z0 a0 (fun z6 => K (.exit 0) (S3 z6)) (fun z7 => K .ret (S4 z7)) :=
 Eq.trans (by kernel_rfl) (l4r_ev g k a0 K k a1 z0)
def b5 (g : Cs R) (k : Nat) (a1 z0 : Int) (a0 : L5) (j : Int → Option R) (q : Int → Option R) : Option R :=
 l4 g k a1 z0 a0 (fun z6 => j z6) (fun z7 => q z7)
theorem b5_ev (a1 z0 : Int) (a0 : L5) (K : Kont R) : V g k K [true, false, true] 13 (S2 a1 z0 a0) = b5 g k a1 z0 a0 (fun z8 => K .normal (S3 z8)) (fun z9 => K .ret (S4 z9)) :=
 Eq.trans (by kernel_rfl) ((l4_ev g k a1 z0 a0 (blockK 0 (fun st => K .normal (atMeet H 13 st)) K)).trans (by kernel_rfl))
def c6 (g : Cs R) (k : Nat) (a1 : Int) (a0 : L5) (j : Int → Option R) (q : Int → Option R) : Option R :=
 s2 g k a1 a0 (fun z0 => b5 g k a1 z0 a0 (fun z8 => j z8) (fun z9 => q z9))
theorem c6_ev (a1 : Int) (a0 : L5) (K : Kont R) : V g k K [true, false] 6 (S1 a1 a0) = c6 g k a1 a0 (fun z10 => K .normal (S3 z10)) (fun z11 => K .ret (S4 z11)) :=
 (Eq.trans (by kernel_rfl) (s2_ev g k a1 a0 (V g k K [true, false, true] 13) K)).trans (congrArg (fun f_ => s2 g k a1 a0 f_) (funext fun (z0 : Int) => (b5_ev g k a1 z0 a0 K)))
def s7 (g : Cs R) (k : Nat) (z10 : Int) (q : Option R) : Option R :=
 q
theorem s7_ev (z10 : Int) (K : Kont R) : V g k K [true, true] 7 (S3 z10) = s7 g k z10 (K .ret (S4 z10)) := by kernel_rfl
def c8 (g : Cs R) (k : Nat) (a1 : Int) (a0 : L5) (q : Int → Option R) : Option R :=
 c6 g k a1 a0 (fun z10 => s7 g k z10 (q z10)) (fun z11 => q z11)
theorem c8_ev (a1 : Int) (a0 : L5) (K : Kont R) : V g k K [true] 3 (S1 a1 a0) = c8 g k a1 a0 (fun z12 => K .ret (S4 z12)) :=
 (Eq.trans (by kernel_rfl) (c6_ev g k a1 a0 (seqK (V g k K [true, true] 7) K))).trans (congrArg (fun f_ => c6 g k a1 a0 f_ (fun z11 => K .ret (S4 z11))) (funext fun (z10 : Int) => (seqN (f := (V g k K [true, true] 7)) (K := K) (s7_ev g k z10 K))))
def c9 (g : Cs R) (k : Nat) (a1 : Int) (a0 : L5) (q : Int → Option R) : Option R :=
 s1 g k a1 a0 (c8 g k a1 a0 (fun z12 => q z12))
theorem c9_ev (a1 : Int) (a0 : L5) (K : Kont R) : V g k K [] 1 (S1 a1 a0) = c9 g k a1 a0 (fun z13 => K .ret (S4 z13)) :=
 (Eq.trans (by kernel_rfl) (s1_ev g k a1 a0 (V g k K [true] 3) K)).trans (congrArg (fun f_ => s1 g k a1 a0 f_) (c8_ev g k a1 a0 K))
def b (g : Cs R) (k : Nat) (a0 : L5) (a1 : Int) (K : Int → Option R) : Option R :=
 c9 g k a1 a0 (fun z13 => K z13)
theorem evs (a0 : L5) (a1 : Int) (KF : Ret → Option R) : evFunc E (G g) k H [] false Tryz.f38 [.val false [.row .ro q5 a0], .val false [ri a1]] KF = b g k a0 a1 (fun r1 => KF ⟨[.val false [ri r1]], []⟩) :=
 Eq.trans (by kernel_rfl) ((c9_ev g k a1 a0 (fin E.P false Tryz.f38 [] KF)).trans (by kernel_rfl))
end laws_heldNoteS
namespace laws_heldNoteS
def g (k : Nat) : Cs R := ⟨(), laws_markText.c k⟩
def c (k : Nat) : T R := b (g k) k
end laws_heldNoteS
/-! ### laws_heldMarkS: function 39 -/
namespace laws_heldMarkS
abbrev T (R : Type) : Type := (L3) → Int → (Int → Option R) → Option R
def con (f : T R) : Con R := ⟨[], fun args K => match args with
 | [.val false [pa0], .val false [.s (.int .i64 a1)]] => withRow q3 pa0 fun a0 => f a0 a1 (fun r1 => K ⟨[.val false [ri r1]], []⟩)
 | _ => none⟩
structure Cs (R : Type) where
  none_ : Unit := ()
def G (g : Cs R) : Cons R := []
def H : List (Nat × Meet) := [(2, ⟨[(0, [(0, q3)]), (1, [])], []⟩), (12, ⟨[(0, [(0, q3)]), (1, []), (5, [])], []⟩), (15, ⟨[(4, [])], []⟩), (26, ⟨[(0, [(0, q3)]), (1, []), (5, [])], []⟩), (211, ⟨[(0, [(0, q3)]), (1, []), (5, [])], []⟩), (419, ⟨[(1, [])], []⟩), (6725, ⟨[(4, [])], []⟩), (26933, ⟨[(4, [])], []⟩), (107765, ⟨[(4, [])], []⟩)]
abbrev S1 (x1 : Int) (x2 : L3) : St := mkSt [(0, .c (.sl 0)), (1, .c (si x1))] [(0, .row .ro q3 x2)]
abbrev S2 (x1 x2 : Int) (x3 : L3) : St := mkSt [(0, .c (.sl 0)), (1, .c (si x1)), (5, .c (si x2))] [(0, .row .ro q3 x3)]
abbrev S3 (x1 : Int) : St := mkSt [(1, .c (si x1))] []
abbrev S4 (x1 : Int) : St := mkSt [(4, .c (si x1))] []
noncomputable abbrev V (g : Cs R) (k : Nat) (K : Kont R) (b : List Bool) (p : Nat) (st : St) : Option R := ev E (G g) k H (nodeAt (bodyOf Tryz.f39) b) p st K
noncomputable abbrev U (g : Cs R) (k : Nat) (n : Nat) (b : List Bool) : Nat → St → (St → Option R) → Kont R → Option R := evPre E (G g) k H n (nodeAt (bodyOf Tryz.f39) b)
noncomputable abbrev W (g : Cs R) (k : Nat) (b : List Bool) (p : Nat) : St → Kont R → Option R := ev E (G g) k H (nodeAt (bodyOf Tryz.f39) b) p
variable (g : Cs R) (k : Nat)
def s1 (g : Cs R) (k : Nat) (a1 : Int) (a0 : L3) (j : Option R) : Option R :=
 j
theorem s1_ev (a1 : Int) (a0 : L3) (X : St → Option R) (K : Kont R) : U g k 1 [] 1 (S1 a1 a0) X K = s1 g k a1 a0 (X (S1 a1 a0)) := by kernel_rfl
def s2 (g : Cs R) (k : Nat) (a1 : Int) (a0 : L3) (j : Int → Option R) : Option R :=
 j 0
theorem s2_ev (a1 : Int) (a0 : L3) (X : St → Option R) (K : Kont R) : U g k 1 [true, false] 6 (S1 a1 a0) X K = s2 g k a1 a0 (fun z0 => X (S2 a1 z0 a0)) := by kernel_rfl
def s3 (g : Cs R) (k : Nat) (z1 z2 : Int) (a0 : L3) (j : Int → Int → Option R) (x0 : Option R) (q : Int → Option R) : Option R :=
 cond (decide (z2 < (a0.length : Int))) (cond (decide (0 ≤ z2) && decide (z2 < (a0.length : Int))) (let y1 := (a0.getD z2.toNat n3).1; cond (!decide (y1 = z1)) (q (-1)) (cond (decide (0 ≤ z2) && decide (z2 < (a0.length : Int))) (let y2 := (a0.getD z2.toNat n3).2.1; let y3 := (!decide (y2 = (IntKind.wrap .i64 (z1 + 1)))); cond y3 (q (-1)) (let y4 := (IntKind.wrap .i64 ((IntKind.wrap .i64 (z1 + 1)) + 1)); cond (decide (0 ≤ z2) && decide (z2 < (a0.length : Int))) (let y5 := (a0.getD z2.toNat n3).2.2; cond (!decide (y5 = y4)) (q (-1)) (j (IntKind.wrap .i64 (y4 + 1)) (IntKind.wrap .i64 (z2 + 1)))) none)) none)) none) (x0)
theorem s3_ev (z1 z2 : Int) (a0 : L3) (K : Kont R) : V g k K [true, false, true, false, false] 52 (S2 z1 z2 a0) = s3 g k z1 z2 a0 (fun z3 z4 => K .normal (S2 z3 z4 a0)) (K (.exit 0) (S3 z1)) (fun z5 => K .ret (S4 z5)) := by kernel_rfl
def l4r (g : Cs R) (k : Nat) (a0 : L3) (x0 : Int → Option R) (q : Int → Option R) : Nat → Int → Int → Option R
 | 0, _, _ => none
 | n + 1, z1, z2 => s3 g k z1 z2 a0 (fun z3 z4 => l4r g k a0 x0 q n z3 z4) (x0 z1) (fun z5 => q z5)
def l4 (g : Cs R) (k : Nat) (a1 z0 : Int) (a0 : L3) (x0 : Int → Option R) (q : Int → Option R) : Option R := l4r g k a0 x0 q k a1 z0
theorem l4r_ev (a0 : L3) (K : Kont R) : ∀ (n : Nat) (z1 z2 : Int), evLoop (W g k [true, false, true, false, false] 52) (atMeet H 26) K n (S2 z1 z2 a0) = l4r g k a0 (fun z6 => K (.exit 0) (S3 z6)) (fun z7 => K .ret (S4 z7)) n z1 z2 := by
 intro n
 induction n with
 | zero => intros; rfl
 | succ n ih =>
  intro z1 z2
  exact Eq.trans (by kernel_rfl) ((s3_ev g k z1 z2 a0 (loopK (W g k [true, false, true, false, false] 52) (atMeet H 26) K n)).trans (Eq.trans (by kernel_rfl) (congrArg (fun f_ => s3 g k z1 z2 a0 f_ (K (.exit 0) (S3 z1)) (fun z5 => K .ret (S4 z5))) (funext fun (z3 : Int) => (funext fun (z4 : Int) => (ih z3 z4))))))
theorem l4_ev (a1 z0 : Int) (a0 : L3) (K : Kont R) : V g k K [true, false, true, false] 26 (S2 a1 z0 a0) = l4 g k a1 z0 a0 (fun z6 => K (.exit 0) (S3 z6)) (fun z7 => K .ret (S4 z7)) :=
 Eq.trans (by kernel_rfl) (l4r_ev g k a0 K k a1 z0)
def b5 (g : Cs R) (k : Nat) (a1 z0 : Int) (a0 : L3) (j : Int → Option R) (q : Int → Option R) : Option R :=
 l4 g k a1 z0 a0 (fun z6 => j z6) (fun z7 => q z7)
theorem b5_ev (a1 z0 : Int) (a0 : L3) (K : Kont R) : V g k K [true, false, true] 13 (S2 a1 z0 a0) = b5 g k a1 z0 a0 (fun z8 => K .normal (S3 z8)) (fun z9 => K .ret (S4 z9)) :=
 Eq.trans (by kernel_rfl) ((l4_ev g k a1 z0 a0 (blockK 0 (fun st => K .normal (atMeet H 13 st)) K)).trans (by kernel_rfl))
def c6 (g : Cs R) (k : Nat) (a1 : Int) (a0 : L3) (j : Int → Option R) (q : Int → Option R) : Option R :=
 s2 g k a1 a0 (fun z0 => b5 g k a1 z0 a0 (fun z8 => j z8) (fun z9 => q z9))
theorem c6_ev (a1 : Int) (a0 : L3) (K : Kont R) : V g k K [true, false] 6 (S1 a1 a0) = c6 g k a1 a0 (fun z10 => K .normal (S3 z10)) (fun z11 => K .ret (S4 z11)) :=
 (Eq.trans (by kernel_rfl) (s2_ev g k a1 a0 (V g k K [true, false, true] 13) K)).trans (congrArg (fun f_ => s2 g k a1 a0 f_) (funext fun (z0 : Int) => (b5_ev g k a1 z0 a0 K)))
def s7 (g : Cs R) (k : Nat) (z10 : Int) (q : Option R) : Option R :=
 q
theorem s7_ev (z10 : Int) (K : Kont R) : V g k K [true, true] 7 (S3 z10) = s7 g k z10 (K .ret (S4 z10)) := by kernel_rfl
def c8 (g : Cs R) (k : Nat) (a1 : Int) (a0 : L3) (q : Int → Option R) : Option R :=
 c6 g k a1 a0 (fun z10 => s7 g k z10 (q z10)) (fun z11 => q z11)
theorem c8_ev (a1 : Int) (a0 : L3) (K : Kont R) : V g k K [true] 3 (S1 a1 a0) = c8 g k a1 a0 (fun z12 => K .ret (S4 z12)) :=
 (Eq.trans (by kernel_rfl) (c6_ev g k a1 a0 (seqK (V g k K [true, true] 7) K))).trans (congrArg (fun f_ => c6 g k a1 a0 f_ (fun z11 => K .ret (S4 z11))) (funext fun (z10 : Int) => (seqN (f := (V g k K [true, true] 7)) (K := K) (s7_ev g k z10 K))))
def c9 (g : Cs R) (k : Nat) (a1 : Int) (a0 : L3) (q : Int → Option R) : Option R :=
 s1 g k a1 a0 (c8 g k a1 a0 (fun z12 => q z12))
theorem c9_ev (a1 : Int) (a0 : L3) (K : Kont R) : V g k K [] 1 (S1 a1 a0) = c9 g k a1 a0 (fun z13 => K .ret (S4 z13)) :=
 (Eq.trans (by kernel_rfl) (s1_ev g k a1 a0 (V g k K [true] 3) K)).trans (congrArg (fun f_ => s1 g k a1 a0 f_) (c8_ev g k a1 a0 K))
def b (g : Cs R) (k : Nat) (a0 : L3) (a1 : Int) (K : Int → Option R) : Option R :=
 c9 g k a1 a0 (fun z13 => K z13)
theorem evs (a0 : L3) (a1 : Int) (KF : Ret → Option R) : evFunc E (G g) k H [] false Tryz.f39 [.val false [.row .ro q3 a0], .val false [ri a1]] KF = b g k a0 a1 (fun r1 => KF ⟨[.val false [ri r1]], []⟩) :=
 Eq.trans (by kernel_rfl) ((c9_ev g k a1 a0 (fin E.P false Tryz.f39 [] KF)).trans (by kernel_rfl))
end laws_heldMarkS
namespace laws_heldMarkS
def g (k : Nat) : Cs R := ⟨()⟩
def c (k : Nat) : T R := b (g k) k
end laws_heldMarkS
/-! ### laws_heldKeep: function 19 -/
namespace laws_heldKeep
abbrev T (R : Type) : Type := Int → Int → Int → (L5) → (L3) → (L5) → Int → (Int → Option R) → Option R
def con (f : T R) : Con R := ⟨[], fun args K => match args with
 | [.val true [.s (.int .i64 A), .s (.int .i64 B), .s (.int .i64 C), D, F, J], .val false [.s (.int .i64 a1)]] => withRow q5 D fun M => withRow q3 F fun N => withRow q5 J fun O => f A B C M N O a1 (fun r1 => K ⟨[.val false [ri r1]], []⟩)
 | _ => none⟩
structure Cs (R : Type) where
  none_ : Unit := ()
  f38 : laws_heldNoteS.T R
  f39 : laws_heldMarkS.T R
def G (g : Cs R) : Cons R := [(38, laws_heldNoteS.con g.f38), (39, laws_heldMarkS.con g.f39)]
def H : List (Nat × Meet) := []
variable (g : Cs R) (k : Nat)
def b (g : Cs R) (k : Nat) (D F J : Int) (A : L5) (B : L3) (C : L5) (a1 : Int) (K : Int → Option R) : Option R :=
 g.f38 A a1 (fun r1 => cond (decide (r1 < 0)) (K (-1)) (g.f39 B r1 (fun r2 => cond (decide (r2 < 0)) (K (-1)) (g.f38 C r2 (fun r3 => cond (decide (r3 < 0)) (K (-1)) (K r3))))))
theorem evs (A B C : Int) (D : L5) (F : L3) (J : L5) (a1 : Int) (KF : Ret → Option R) : evFunc E (G g) k H [] false Tryz.f19 [.val true [ri A, ri B, ri C, .row .ro q5 D, .row .ro q3 F, .row .ro q5 J], .val false [ri a1]] KF = b g k A B C D F J a1 (fun r1 => KF ⟨[.val false [ri r1]], []⟩) :=
 by kernel_rfl
end laws_heldKeep
namespace laws_heldKeep
def g (k : Nat) : Cs R := ⟨(), laws_heldNoteS.c k, laws_heldMarkS.c k⟩
def c (k : Nat) : T R := b (g k) k
end laws_heldKeep
/-! ### laws_szNote: function 70 -/
namespace laws_szNote
abbrev T (R : Type) : Type := Int → Int → Int → Int → ByteArray → Int → (Int → Option R) → Option R
def con (f : T R) : Con R := ⟨[], fun args K => match args with
 | [.val true [.s (.int .i64 A), .s (.int .i64 B), .s (.int .i64 C), .s (.int .i64 D), .s (.string F)], .val false [.s (.int .i64 a1)]] => f A B C D F a1 (fun r1 => K ⟨[.val false [ri r1]], []⟩)
 | _ => none⟩
structure Cs (R : Type) where
  none_ : Unit := ()
def G (g : Cs R) : Cons R := []
def H : List (Nat × Meet) := []
variable (g : Cs R) (k : Nat)
def b (g : Cs R) (k : Nat) (B C D F : Int) (A : ByteArray) (a1 : Int) (K : Int → Option R) : Option R :=
 let y1 := (decide ((IntKind.wrap .i64 (a1 - (A.size : Int))) < 0)); cond y1 (K (-1)) (K (IntKind.wrap .i64 (a1 - (A.size : Int))))
theorem evs (A B C D : Int) (F : ByteArray) (a1 : Int) (KF : Ret → Option R) : evFunc E (G g) k H [] false Tryz.f70 [.val true [ri A, ri B, ri C, ri D, .s (.string F)], .val false [ri a1]] KF = b g k A B C D F a1 (fun r1 => KF ⟨[.val false [ri r1]], []⟩) :=
 by kernel_rfl
end laws_szNote
namespace laws_szNote
def g (k : Nat) : Cs R := ⟨()⟩
def c (k : Nat) : T R := b (g k) k
end laws_szNote
/-! ### laws_szNoteS: function 40 -/
namespace laws_szNoteS
abbrev T (R : Type) : Type := (L5) → Int → (Int → Option R) → Option R
def con (f : T R) : Con R := ⟨[], fun args K => match args with
 | [.val false [pa0], .val false [.s (.int .i64 a1)]] => withRow q5 pa0 fun a0 => f a0 a1 (fun r1 => K ⟨[.val false [ri r1]], []⟩)
 | _ => none⟩
structure Cs (R : Type) where
  none_ : Unit := ()
  f70 : laws_szNote.T R
def G (g : Cs R) : Cons R := [(70, laws_szNote.con g.f70)]
def H : List (Nat × Meet) := [(29, ⟨[(0, [(0, q5)]), (1, [])], []⟩), (60, ⟨[(0, [(0, q5)]), (1, []), (5, [])], []⟩), (63, ⟨[(4, [])], []⟩), (117, ⟨[(4, [])], []⟩), (122, ⟨[(0, [(0, q5)]), (1, []), (5, [])], []⟩), (979, ⟨[(0, [(0, q5)]), (1, []), (5, [])], []⟩), (1955, ⟨[(1, [])], []⟩), (31309, ⟨[(4, [])], []⟩)]
abbrev S1 (x1 : Int) (x2 : L5) : St := mkSt [(0, .c (.sl 0)), (1, .c (si x1))] [(0, .row .ro q5 x2)]
abbrev S2 (x1 : Int) : St := mkSt [(4, .c (si x1))] []
abbrev S3 (x1 x2 : Int) (x3 : L5) : St := mkSt [(0, .c (.sl 0)), (1, .c (si x1)), (5, .c (si x2))] [(0, .row .ro q5 x3)]
abbrev S4 (x1 : Int) : St := mkSt [(1, .c (si x1))] []
noncomputable abbrev V (g : Cs R) (k : Nat) (K : Kont R) (b : List Bool) (p : Nat) (st : St) : Option R := ev E (G g) k H (nodeAt (bodyOf Tryz.f40) b) p st K
noncomputable abbrev U (g : Cs R) (k : Nat) (n : Nat) (b : List Bool) : Nat → St → (St → Option R) → Kont R → Option R := evPre E (G g) k H n (nodeAt (bodyOf Tryz.f40) b)
noncomputable abbrev W (g : Cs R) (k : Nat) (b : List Bool) (p : Nat) : St → Kont R → Option R := ev E (G g) k H (nodeAt (bodyOf Tryz.f40) b) p
variable (g : Cs R) (k : Nat)
def s1 (g : Cs R) (k : Nat) (a1 : Int) (a0 : L5) (j : Int → Option R) (q : Int → Option R) : Option R :=
 let y1 := (decide ((IntKind.wrap .i64 (a1 - (a0.length : Int))) < 0)); cond y1 (q (-1)) (j (IntKind.wrap .i64 (a1 - (a0.length : Int))))
theorem s1_ev (a1 : Int) (a0 : L5) (X : St → Option R) (K : Kont R) : U g k 3 [] 1 (S1 a1 a0) X K = s1 g k a1 a0 (fun z0 => X (S1 z0 a0)) (fun z1 => K .ret (S2 z1)) := by kernel_rfl
def s2 (g : Cs R) (k : Nat) (z0 : Int) (a0 : L5) (j : Int → Option R) : Option R :=
 j 0
theorem s2_ev (z0 : Int) (a0 : L5) (X : St → Option R) (K : Kont R) : U g k 1 [true, true, true, false] 30 (S1 z0 a0) X K = s2 g k z0 a0 (fun z2 => X (S3 z0 z2 a0)) := by kernel_rfl
def s3 (g : Cs R) (k : Nat) (z3 z4 : Int) (a0 : L5) (j : Int → Int → Option R) (x0 : Option R) (q : Int → Option R) : Option R :=
 cond (decide (z4 < (a0.length : Int))) (cond (decide (0 ≤ z4) && decide (z4 < (a0.length : Int))) (g.f70 ((a0.getD z4.toNat n5).1) ((a0.getD z4.toNat n5).2.1) ((a0.getD z4.toNat n5).2.2.1) ((a0.getD z4.toNat n5).2.2.2.1) ((a0.getD z4.toNat n5).2.2.2.2) z3 (fun r1 => cond (decide (r1 < 0)) (q (-1)) (j r1 (IntKind.wrap .i64 (z4 + 1))))) none) (x0)
theorem s3_ev (z3 z4 : Int) (a0 : L5) (K : Kont R) : V g k K [true, true, true, false, true, false, false] 244 (S3 z3 z4 a0) = s3 g k z3 z4 a0 (fun z5 z6 => K .normal (S3 z5 z6 a0)) (K (.exit 0) (S4 z3)) (fun z7 => K .ret (S2 z7)) := by kernel_rfl
def l4r (g : Cs R) (k : Nat) (a0 : L5) (x0 : Int → Option R) (q : Int → Option R) : Nat → Int → Int → Option R
 | 0, _, _ => none
 | n + 1, z3, z4 => s3 g k z3 z4 a0 (fun z5 z6 => l4r g k a0 x0 q n z5 z6) (x0 z3) (fun z7 => q z7)
def l4 (g : Cs R) (k : Nat) (z0 z2 : Int) (a0 : L5) (x0 : Int → Option R) (q : Int → Option R) : Option R := l4r g k a0 x0 q k z0 z2
theorem l4r_ev (a0 : L5) (K : Kont R) : ∀ (n : Nat) (z3 z4 : Int), evLoop (W g k [true, true, true, false, true, false, false] 244) (atMeet H 122) K n (S3 z3 z4 a0) = l4r g k a0 (fun z8 => K (.exit 0) (S4 z8)) (fun z9 => K .ret (S2 z9)) n z3 z4 := by
 intro n
 induction n with
 | zero => intros; rfl
 | succ n ih =>
  intro z3 z4
  exact Eq.trans (by kernel_rfl) ((s3_ev g k z3 z4 a0 (loopK (W g k [true, true, true, false, true, false, false] 244) (atMeet H 122) K n)).trans (Eq.trans (by kernel_rfl) (congrArg (fun f_ => s3 g k z3 z4 a0 f_ (K (.exit 0) (S4 z3)) (fun z7 => K .ret (S2 z7))) (funext fun (z5 : Int) => (funext fun (z6 : Int) => (ih z5 z6))))))
theorem l4_ev (z0 z2 : Int) (a0 : L5) (K : Kont R) : V g k K [true, true, true, false, true, false] 122 (S3 z0 z2 a0) = l4 g k z0 z2 a0 (fun z8 => K (.exit 0) (S4 z8)) (fun z9 => K .ret (S2 z9)) :=
 Eq.trans (by kernel_rfl) (l4r_ev g k a0 K k z0 z2)
def b5 (g : Cs R) (k : Nat) (z0 z2 : Int) (a0 : L5) (j : Int → Option R) (q : Int → Option R) : Option R :=
 l4 g k z0 z2 a0 (fun z8 => j z8) (fun z9 => q z9)
theorem b5_ev (z0 z2 : Int) (a0 : L5) (K : Kont R) : V g k K [true, true, true, false, true] 61 (S3 z0 z2 a0) = b5 g k z0 z2 a0 (fun z10 => K .normal (S4 z10)) (fun z11 => K .ret (S2 z11)) :=
 Eq.trans (by kernel_rfl) ((l4_ev g k z0 z2 a0 (blockK 0 (fun st => K .normal (atMeet H 61 st)) K)).trans (by kernel_rfl))
def c6 (g : Cs R) (k : Nat) (z0 : Int) (a0 : L5) (j : Int → Option R) (q : Int → Option R) : Option R :=
 s2 g k z0 a0 (fun z2 => b5 g k z0 z2 a0 (fun z10 => j z10) (fun z11 => q z11))
theorem c6_ev (z0 : Int) (a0 : L5) (K : Kont R) : V g k K [true, true, true, false] 30 (S1 z0 a0) = c6 g k z0 a0 (fun z12 => K .normal (S4 z12)) (fun z13 => K .ret (S2 z13)) :=
 (Eq.trans (by kernel_rfl) (s2_ev g k z0 a0 (V g k K [true, true, true, false, true] 61) K)).trans (congrArg (fun f_ => s2 g k z0 a0 f_) (funext fun (z2 : Int) => (b5_ev g k z0 z2 a0 K)))
def s7 (g : Cs R) (k : Nat) (z12 : Int) (q : Option R) : Option R :=
 q
theorem s7_ev (z12 : Int) (K : Kont R) : V g k K [true, true, true, true] 31 (S4 z12) = s7 g k z12 (K .ret (S2 z12)) := by kernel_rfl
def c8 (g : Cs R) (k : Nat) (z0 : Int) (a0 : L5) (q : Int → Option R) : Option R :=
 c6 g k z0 a0 (fun z12 => s7 g k z12 (q z12)) (fun z13 => q z13)
theorem c8_ev (z0 : Int) (a0 : L5) (K : Kont R) : V g k K [true, true, true] 15 (S1 z0 a0) = c8 g k z0 a0 (fun z14 => K .ret (S2 z14)) :=
 (Eq.trans (by kernel_rfl) (c6_ev g k z0 a0 (seqK (V g k K [true, true, true, true] 31) K))).trans (congrArg (fun f_ => c6 g k z0 a0 f_ (fun z13 => K .ret (S2 z13))) (funext fun (z12 : Int) => (seqN (f := (V g k K [true, true, true, true] 31)) (K := K) (s7_ev g k z12 K))))
def c9 (g : Cs R) (k : Nat) (a1 : Int) (a0 : L5) (q : Int → Option R) : Option R :=
 s1 g k a1 a0 (fun z0 => c8 g k z0 a0 (fun z14 => q z14)) (fun z1 => q z1)
theorem c9_ev (a1 : Int) (a0 : L5) (K : Kont R) : V g k K [] 1 (S1 a1 a0) = c9 g k a1 a0 (fun z15 => K .ret (S2 z15)) :=
 (Eq.trans (by kernel_rfl) (s1_ev g k a1 a0 (V g k K [true, true, true] 15) K)).trans (congrArg (fun f_ => s1 g k a1 a0 f_ (fun z1 => K .ret (S2 z1))) (funext fun (z0 : Int) => (c8_ev g k z0 a0 K)))
def b (g : Cs R) (k : Nat) (a0 : L5) (a1 : Int) (K : Int → Option R) : Option R :=
 c9 g k a1 a0 (fun z15 => K z15)
theorem evs (a0 : L5) (a1 : Int) (KF : Ret → Option R) : evFunc E (G g) k H [] false Tryz.f40 [.val false [.row .ro q5 a0], .val false [ri a1]] KF = b g k a0 a1 (fun r1 => KF ⟨[.val false [ri r1]], []⟩) :=
 Eq.trans (by kernel_rfl) ((c9_ev g k a1 a0 (fin E.P false Tryz.f40 [] KF)).trans (by kernel_rfl))
end laws_szNoteS
namespace laws_szNoteS
def g (k : Nat) : Cs R := ⟨(), laws_szNote.c k⟩
def c (k : Nat) : T R := b (g k) k
end laws_szNoteS
/-! ### laws_szMarkS: function 41 -/
namespace laws_szMarkS
abbrev T (R : Type) : Type := (L3) → Int → (Int → Option R) → Option R
def con (f : T R) : Con R := ⟨[], fun args K => match args with
 | [.val false [pa0], .val false [.s (.int .i64 a1)]] => withRow q3 pa0 fun a0 => f a0 a1 (fun r1 => K ⟨[.val false [ri r1]], []⟩)
 | _ => none⟩
structure Cs (R : Type) where
  none_ : Unit := ()
def G (g : Cs R) : Cons R := []
def H : List (Nat × Meet) := []
variable (g : Cs R) (k : Nat)
def b (g : Cs R) (k : Nat) (a0 : L3) (a1 : Int) (K : Int → Option R) : Option R :=
 let y1 := (decide ((IntKind.wrap .i64 (a1 - (a0.length : Int))) < 0)); cond y1 (K (-1)) (K (IntKind.wrap .i64 (a1 - (a0.length : Int))))
theorem evs (a0 : L3) (a1 : Int) (KF : Ret → Option R) : evFunc E (G g) k H [] false Tryz.f41 [.val false [.row .ro q3 a0], .val false [ri a1]] KF = b g k a0 a1 (fun r1 => KF ⟨[.val false [ri r1]], []⟩) :=
 by kernel_rfl
end laws_szMarkS
namespace laws_szMarkS
def g (k : Nat) : Cs R := ⟨()⟩
def c (k : Nat) : T R := b (g k) k
end laws_szMarkS
/-! ### laws_szKeep: function 20 -/
namespace laws_szKeep
abbrev T (R : Type) : Type := Int → Int → Int → (L5) → (L3) → (L5) → Int → (Int → Option R) → Option R
def con (f : T R) : Con R := ⟨[], fun args K => match args with
 | [.val true [.s (.int .i64 A), .s (.int .i64 B), .s (.int .i64 C), D, F, J], .val false [.s (.int .i64 a1)]] => withRow q5 D fun M => withRow q3 F fun N => withRow q5 J fun O => f A B C M N O a1 (fun r1 => K ⟨[.val false [ri r1]], []⟩)
 | _ => none⟩
structure Cs (R : Type) where
  none_ : Unit := ()
  f40 : laws_szNoteS.T R
  f41 : laws_szMarkS.T R
def G (g : Cs R) : Cons R := [(40, laws_szNoteS.con g.f40), (41, laws_szMarkS.con g.f41)]
def H : List (Nat × Meet) := []
variable (g : Cs R) (k : Nat)
def b (g : Cs R) (k : Nat) (D F J : Int) (A : L5) (B : L3) (C : L5) (a1 : Int) (K : Int → Option R) : Option R :=
 g.f40 A a1 (fun r1 => cond (decide (r1 < 0)) (K (-1)) (g.f41 B r1 (fun r2 => cond (decide (r2 < 0)) (K (-1)) (g.f40 C r2 (fun r3 => cond (decide (r3 < 0)) (K (-1)) (K r3))))))
theorem evs (A B C : Int) (D : L5) (F : L3) (J : L5) (a1 : Int) (KF : Ret → Option R) : evFunc E (G g) k H [] false Tryz.f20 [.val true [ri A, ri B, ri C, .row .ro q5 D, .row .ro q3 F, .row .ro q5 J], .val false [ri a1]] KF = b g k A B C D F J a1 (fun r1 => KF ⟨[.val false [ri r1]], []⟩) :=
 by kernel_rfl
end laws_szKeep
namespace laws_szKeep
def g (k : Nat) : Cs R := ⟨(), laws_szNoteS.c k, laws_szMarkS.c k⟩
def c (k : Nat) : T R := b (g k) k
end laws_szKeep
/-! ### spec_l6In: function 52 -/
namespace spec_l6In
abbrev T (R : Type) : Type := Int → Int → Int → (Bool → Option R) → Option R
def con (f : T R) : Con R := ⟨[], fun args K => match args with
 | [.val false [.s (.int .i64 a0)], .val false [.s (.int .i64 a1)], .val false [.s (.int .i64 a2)]] => f a0 a1 a2 (fun r1 => K ⟨[.val false [.s (.bool r1)]], []⟩)
 | _ => none⟩
structure Cs (R : Type) where
  none_ : Unit := ()
def G (g : Cs R) : Cons R := []
def H : List (Nat × Meet) := []
variable (g : Cs R) (k : Nat)
def b (g : Cs R) (k : Nat) (a0 a1 a2 : Int) (K : Bool → Option R) : Option R :=
 cond (decide (a1 ≤ a0)) (K (decide (a0 ≤ a2))) (K false)
theorem evs (a0 a1 a2 : Int) (KF : Ret → Option R) : evFunc E (G g) k H [] false Tryz.f52 [.val false [ri a0], .val false [ri a1], .val false [ri a2]] KF = b g k a0 a1 a2 (fun r1 => KF ⟨[.val false [.s (.bool r1)]], []⟩) :=
 by kernel_rfl
end spec_l6In
namespace spec_l6In
def g (k : Nat) : Cs R := ⟨()⟩
def c (k : Nat) : T R := b (g k) k
end spec_l6In
/-! ### spec_l3Keeper: function 26 -/
namespace spec_l3Keeper
abbrev T (R : Type) : Type := Int → (Bool → Option R) → Option R
def con (f : T R) : Con R := ⟨[], fun args K => match args with
 | [.val false [.s (.int .i64 a0)]] => f a0 (fun r1 => K ⟨[.val false [.s (.bool r1)]], []⟩)
 | _ => none⟩
structure Cs (R : Type) where
  none_ : Unit := ()
  f52 : spec_l6In.T R
def G (g : Cs R) : Cons R := [(52, spec_l6In.con g.f52)]
def H : List (Nat × Meet) := []
variable (g : Cs R) (k : Nat)
def b (g : Cs R) (k : Nat) (a0 : Int) (K : Bool → Option R) : Option R :=
 g.f52 a0 0 3 (fun r1 => K r1)
theorem evs (a0 : Int) (KF : Ret → Option R) : evFunc E (G g) k H [] false Tryz.f26 [.val false [ri a0]] KF = b g k a0 (fun r1 => KF ⟨[.val false [.s (.bool r1)]], []⟩) :=
 by kernel_rfl
end spec_l3Keeper
namespace spec_l3Keeper
def g (k : Nat) : Cs R := ⟨(), spec_l6In.c k⟩
def c (k : Nat) : T R := b (g k) k
end spec_l3Keeper
/-! ### spec_NoteOk: function 90 -/
namespace spec_NoteOk
abbrev T (R : Type) : Type := Int → Int → Int → Int → ByteArray → (Bool → Option R) → Option R
def con (f : T R) : Con R := ⟨[], fun args K => match args with
 | [.val true [.s (.int .i64 A), .s (.int .i64 B), .s (.int .i64 C), .s (.int .i64 D), .s (.string F)]] => f A B C D F (fun r1 => K ⟨[.val false [.s (.bool r1)]], []⟩)
 | _ => none⟩
structure Cs (R : Type) where
  none_ : Unit := ()
  f26 : spec_l3Keeper.T R
  f52 : spec_l6In.T R
def G (g : Cs R) : Cons R := [(26, spec_l3Keeper.con g.f26), (52, spec_l6In.con g.f52)]
def H : List (Nat × Meet) := [(13, ⟨[(1, [])], []⟩), (28, ⟨[(1, []), (3, [])], []⟩), (31, ⟨[(2, [])], []⟩), (53, ⟨[(2, [])], []⟩), (58, ⟨[(1, []), (3, [])], []⟩), (467, ⟨[(1, []), (3, [])], []⟩), (931, ⟨[], []⟩), (7461, ⟨[(2, [])], []⟩)]
abbrev S1 (x1 x2 x3 x4 : Int) (x5 : ByteArray) : St := mkSt [(1, .c (.ptr 9001 0 0))] [(9001, .box [si x1, si x2, si x3, si x4, .s (.string x5)])]
abbrev S2 (x1 : Bool) : St := mkSt [(2, .c (.s (.bool x1)))] []
abbrev S3 (x1 x2 x3 x4 x5 : Int) (x6 : ByteArray) : St := mkSt [(1, .c (.ptr 9001 0 0)), (3, .c (si x1))] [(9001, .box [si x2, si x3, si x4, si x5, .s (.string x6)])]
abbrev S4 : St := mkSt [] []
noncomputable abbrev V (g : Cs R) (k : Nat) (K : Kont R) (b : List Bool) (p : Nat) (st : St) : Option R := ev E (G g) k H (nodeAt (bodyOf Tryz.f90) b) p st K
noncomputable abbrev U (g : Cs R) (k : Nat) (n : Nat) (b : List Bool) : Nat → St → (St → Option R) → Kont R → Option R := evPre E (G g) k H n (nodeAt (bodyOf Tryz.f90) b)
noncomputable abbrev W (g : Cs R) (k : Nat) (b : List Bool) (p : Nat) : St → Kont R → Option R := ev E (G g) k H (nodeAt (bodyOf Tryz.f90) b) p
variable (g : Cs R) (k : Nat)
def s1 (g : Cs R) (k : Nat) (B C D F : Int) (A : ByteArray) (j : Option R) (q : Bool → Option R) : Option R :=
 g.f26 B (fun r1 => cond (!r1) (q false) (g.f26 D (fun r2 => cond (!r2) (q false) (g.f52 C 1 99 (fun r3 => cond (!r3) (q false) (g.f52 F 1 999 (fun r4 => cond (!r4) (q false) (cond (decide ((A.size : Int) < 1)) (q false) (cond (decide ((24 : Int) < (A.size : Int))) (q false) (j))))))))))
theorem s1_ev (A B C D : Int) (F : ByteArray) (X : St → Option R) (K : Kont R) : U g k 2 [] 1 (mkSt [(0, .agg [si A, si B, si C, si D, .s (.string F)])] []) X K = s1 g k A B C D F (X (S1 A B C D F)) (fun z0 => K .ret (S2 z0)) := by kernel_rfl
def s2 (g : Cs R) (k : Nat) (A B C D : Int) (F : ByteArray) (j : Int → Option R) : Option R :=
 j 0
theorem s2_ev (A B C D : Int) (F : ByteArray) (X : St → Option R) (K : Kont R) : U g k 1 [true, true, false] 14 (S1 A B C D F) X K = s2 g k A B C D F (fun z1 => X (S3 z1 A B C D F)) := by kernel_rfl
def s3 (g : Cs R) (k : Nat) (z2 B C D F : Int) (A : ByteArray) (j : Int → Option R) (x0 : Option R) (q : Bool → Option R) : Option R :=
 cond (decide (z2 < (A.size : Int))) (cond (decide (0 ≤ z2) && decide (z2 < (A.size : Int))) (cond (decide ((byteAt A z2.toNat) < 32)) (q false) (cond (decide (0 ≤ z2) && decide (z2 < (A.size : Int))) (let y1 := (decide ((126 : Int) < (byteAt A z2.toNat))); cond y1 (q false) (j (IntKind.wrap .i64 (z2 + 1)))) none)) none) (x0)
theorem s3_ev (z2 A B C D : Int) (F : ByteArray) (K : Kont R) : V g k K [true, true, false, true, false, false] 116 (S3 z2 A B C D F) = s3 g k z2 A B C D F (fun z3 => K .normal (S3 z3 A B C D F)) (K (.exit 0) S4) (fun z4 => K .ret (S2 z4)) := by kernel_rfl
def l4r (g : Cs R) (k : Nat) (A B C D : Int) (F : ByteArray) (x0 : Option R) (q : Bool → Option R) : Nat → Int → Option R
 | 0, _ => none
 | n + 1, z2 => s3 g k z2 A B C D F (fun z3 => l4r g k A B C D F x0 q n z3) (x0) (fun z4 => q z4)
def l4 (g : Cs R) (k : Nat) (z1 A B C D : Int) (F : ByteArray) (x0 : Option R) (q : Bool → Option R) : Option R := l4r g k A B C D F x0 q k z1
theorem l4r_ev (A B C D : Int) (F : ByteArray) (K : Kont R) : ∀ (n : Nat) (z2 : Int), evLoop (W g k [true, true, false, true, false, false] 116) (atMeet H 58) K n (S3 z2 A B C D F) = l4r g k A B C D F (K (.exit 0) S4) (fun z5 => K .ret (S2 z5)) n z2 := by
 intro n
 induction n with
 | zero => intros; rfl
 | succ n ih =>
  intro z2
  exact Eq.trans (by kernel_rfl) ((s3_ev g k z2 A B C D F (loopK (W g k [true, true, false, true, false, false] 116) (atMeet H 58) K n)).trans (Eq.trans (by kernel_rfl) (congrArg (fun f_ => s3 g k z2 A B C D F f_ (K (.exit 0) S4) (fun z4 => K .ret (S2 z4))) (funext fun (z3 : Int) => (ih z3)))))
theorem l4_ev (z1 A B C D : Int) (F : ByteArray) (K : Kont R) : V g k K [true, true, false, true, false] 58 (S3 z1 A B C D F) = l4 g k z1 A B C D F (K (.exit 0) S4) (fun z5 => K .ret (S2 z5)) :=
 Eq.trans (by kernel_rfl) (l4r_ev g k A B C D F K k z1)
def b5 (g : Cs R) (k : Nat) (z1 A B C D : Int) (F : ByteArray) (j : Option R) (q : Bool → Option R) : Option R :=
 l4 g k z1 A B C D F (j) (fun z5 => q z5)
theorem b5_ev (z1 A B C D : Int) (F : ByteArray) (K : Kont R) : V g k K [true, true, false, true] 29 (S3 z1 A B C D F) = b5 g k z1 A B C D F (K .normal S4) (fun z6 => K .ret (S2 z6)) :=
 Eq.trans (by kernel_rfl) ((l4_ev g k z1 A B C D F (blockK 0 (fun st => K .normal (atMeet H 29 st)) K)).trans (by kernel_rfl))
def c6 (g : Cs R) (k : Nat) (A B C D : Int) (F : ByteArray) (j : Option R) (q : Bool → Option R) : Option R :=
 s2 g k A B C D F (fun z1 => b5 g k z1 A B C D F (j) (fun z6 => q z6))
theorem c6_ev (A B C D : Int) (F : ByteArray) (K : Kont R) : V g k K [true, true, false] 14 (S1 A B C D F) = c6 g k A B C D F (K .normal S4) (fun z7 => K .ret (S2 z7)) :=
 (Eq.trans (by kernel_rfl) (s2_ev g k A B C D F (V g k K [true, true, false, true] 29) K)).trans (congrArg (fun f_ => s2 g k A B C D F f_) (funext fun (z1 : Int) => (b5_ev g k z1 A B C D F K)))
def s7 (g : Cs R) (k : Nat)  (q : Bool → Option R) : Option R :=
 q true
theorem s7_ev  (K : Kont R) : V g k K [true, true, true] 15 S4 = s7 g k (fun z8 => K .ret (S2 z8)) := by kernel_rfl
def c8 (g : Cs R) (k : Nat) (A B C D : Int) (F : ByteArray) (q : Bool → Option R) : Option R :=
 c6 g k A B C D F (s7 g k (fun z8 => q z8)) (fun z7 => q z7)
theorem c8_ev (A B C D : Int) (F : ByteArray) (K : Kont R) : V g k K [true, true] 7 (S1 A B C D F) = c8 g k A B C D F (fun z9 => K .ret (S2 z9)) :=
 (Eq.trans (by kernel_rfl) (c6_ev g k A B C D F (seqK (V g k K [true, true, true] 15) K))).trans (congrArg (fun f_ => c6 g k A B C D F f_ (fun z7 => K .ret (S2 z7))) (seqN (f := (V g k K [true, true, true] 15)) (K := K) (s7_ev g k K)))
def c9 (g : Cs R) (k : Nat) (A B C D : Int) (F : ByteArray) (q : Bool → Option R) : Option R :=
 s1 g k A B C D F (c8 g k A B C D F (fun z9 => q z9)) (fun z0 => q z0)
theorem c9_ev (A B C D : Int) (F : ByteArray) (K : Kont R) : V g k K [] 1 (mkSt [(0, .agg [si A, si B, si C, si D, .s (.string F)])] []) = c9 g k A B C D F (fun z10 => K .ret (S2 z10)) :=
 (Eq.trans (by kernel_rfl) (s1_ev g k A B C D F (V g k K [true, true] 7) K)).trans (congrArg (fun f_ => s1 g k A B C D F f_ (fun z0 => K .ret (S2 z0))) (c8_ev g k A B C D F K))
def b (g : Cs R) (k : Nat) (A B C D : Int) (F : ByteArray) (K : Bool → Option R) : Option R :=
 c9 g k A B C D F (fun z10 => K z10)
theorem evs (A B C D : Int) (F : ByteArray) (KF : Ret → Option R) : evFunc E (G g) k H [] false Tryz.f90 [.val true [ri A, ri B, ri C, ri D, .s (.string F)]] KF = b g k A B C D F (fun r1 => KF ⟨[.val false [.s (.bool r1)]], []⟩) :=
 Eq.trans (by kernel_rfl) ((c9_ev g k A B C D F (fin E.P false Tryz.f90 [] KF)).trans (by kernel_rfl))
end spec_NoteOk
namespace spec_NoteOk
def g (k : Nat) : Cs R := ⟨(), spec_l3Keeper.c k, spec_l6In.c k⟩
def c (k : Nat) : T R := b (g k) k
end spec_NoteOk
/-! ### spec_l12Less: function 105 -/
namespace spec_l12Less
abbrev T (R : Type) : Type := Int → Int → Int → Int → (Bool → Option R) → Option R
def con (f : T R) : Con R := ⟨[], fun args K => match args with
 | [.val false [.s (.int .i64 a0)], .val false [.s (.int .i64 a1)], .val false [.s (.int .i64 a2)], .val false [.s (.int .i64 a3)]] => f a0 a1 a2 a3 (fun r1 => K ⟨[.val false [.s (.bool r1)]], []⟩)
 | _ => none⟩
structure Cs (R : Type) where
  none_ : Unit := ()
def G (g : Cs R) : Cons R := []
def H : List (Nat × Meet) := []
variable (g : Cs R) (k : Nat)
def b (g : Cs R) (k : Nat) (a0 a1 a2 a3 : Int) (K : Bool → Option R) : Option R :=
 cond (decide (a0 < a2)) (K true) (cond (decide (a0 = a2)) (K (decide (a1 < a3))) (K false))
theorem evs (a0 a1 a2 a3 : Int) (KF : Ret → Option R) : evFunc E (G g) k H [] false Tryz.f105 [.val false [ri a0], .val false [ri a1], .val false [ri a2], .val false [ri a3]] KF = b g k a0 a1 a2 a3 (fun r1 => KF ⟨[.val false [.s (.bool r1)]], []⟩) :=
 by kernel_rfl
end spec_l12Less
namespace spec_l12Less
def g (k : Nat) : Cs R := ⟨()⟩
def c (k : Nat) : T R := b (g k) k
end spec_l12Less
/-! ### spec_l12Notes: function 71 -/
namespace spec_l12Notes
abbrev T (R : Type) : Type := (L5) → Int → (Bool → Option R) → Option R
def con (f : T R) : Con R := ⟨[], fun args K => match args with
 | [.val false [pa0], .val false [.s (.int .i64 a1)]] => withRow q5 pa0 fun a0 => f a0 a1 (fun r1 => K ⟨[.val false [.s (.bool r1)]], []⟩)
 | _ => none⟩
structure Cs (R : Type) where
  none_ : Unit := ()
  f90 : spec_NoteOk.T R
  f105 : spec_l12Less.T R
def G (g : Cs R) : Cons R := [(90, spec_NoteOk.con g.f90), (105, spec_l12Less.con g.f105)]
def H : List (Nat × Meet) := [(13, ⟨[(0, [(0, q5)])], []⟩), (28, ⟨[(0, [(0, q5)]), (5, [])], []⟩), (31, ⟨[(4, [])], []⟩), (53, ⟨[(4, [])], []⟩), (58, ⟨[(0, [(0, q5)]), (5, [])], []⟩), (467, ⟨[(0, [(0, q5)]), (5, [])], []⟩), (931, ⟨[], []⟩), (7461, ⟨[(4, [])], []⟩)]
abbrev S1 (x1 : Int) (x2 : L5) : St := mkSt [(0, .c (.sl 0)), (1, .c (si x1))] [(0, .row .ro q5 x2)]
abbrev S2 (x1 : L5) : St := mkSt [(0, .c (.sl 0))] [(0, .row .ro q5 x1)]
abbrev S3 (x1 : Bool) : St := mkSt [(4, .c (.s (.bool x1)))] []
abbrev S4 (x1 : Int) (x2 : L5) : St := mkSt [(0, .c (.sl 0)), (5, .c (si x1))] [(0, .row .ro q5 x2)]
abbrev S5 : St := mkSt [] []
noncomputable abbrev V (g : Cs R) (k : Nat) (K : Kont R) (b : List Bool) (p : Nat) (st : St) : Option R := ev E (G g) k H (nodeAt (bodyOf Tryz.f71) b) p st K
noncomputable abbrev U (g : Cs R) (k : Nat) (n : Nat) (b : List Bool) : Nat → St → (St → Option R) → Kont R → Option R := evPre E (G g) k H n (nodeAt (bodyOf Tryz.f71) b)
noncomputable abbrev W (g : Cs R) (k : Nat) (b : List Bool) (p : Nat) : St → Kont R → Option R := ev E (G g) k H (nodeAt (bodyOf Tryz.f71) b) p
variable (g : Cs R) (k : Nat)
def s1 (g : Cs R) (k : Nat) (a1 : Int) (a0 : L5) (j : Option R) (q : Bool → Option R) : Option R :=
 cond (decide (a1 < (a0.length : Int))) (q false) (j)
theorem s1_ev (a1 : Int) (a0 : L5) (X : St → Option R) (K : Kont R) : U g k 2 [] 1 (S1 a1 a0) X K = s1 g k a1 a0 (X (S2 a0)) (fun z0 => K .ret (S3 z0)) := by kernel_rfl
def s2 (g : Cs R) (k : Nat) (a0 : L5) (j : Int → Option R) : Option R :=
 j 0
theorem s2_ev (a0 : L5) (X : St → Option R) (K : Kont R) : U g k 1 [true, true, false] 14 (S2 a0) X K = s2 g k a0 (fun z1 => X (S4 z1 a0)) := by kernel_rfl
def s3 (g : Cs R) (k : Nat) (z2 : Int) (a0 : L5) (j : Int → Option R) (x0 : Option R) (q : Bool → Option R) : Option R :=
 cond (decide (z2 < (a0.length : Int))) (cond (decide (0 ≤ z2) && decide (z2 < (a0.length : Int))) (g.f90 ((a0.getD z2.toNat n5).1) ((a0.getD z2.toNat n5).2.1) ((a0.getD z2.toNat n5).2.2.1) ((a0.getD z2.toNat n5).2.2.2.1) ((a0.getD z2.toNat n5).2.2.2.2) (fun r1 => cond (!r1) (q false) (cond (decide ((0 : Int) < z2)) (cond (decide (0 ≤ (IntKind.wrap .i64 (z2 - 1))) && decide ((IntKind.wrap .i64 (z2 - 1)) < (a0.length : Int))) (let y2 := (a0.getD ((IntKind.wrap .i64 (z2 - 1)).toNat) n5).1; cond (decide (0 ≤ (IntKind.wrap .i64 (z2 - 1))) && decide ((IntKind.wrap .i64 (z2 - 1)) < (a0.length : Int))) (let y3 := (a0.getD ((IntKind.wrap .i64 (z2 - 1)).toNat) n5).2.1; cond (decide (0 ≤ z2) && decide (z2 < (a0.length : Int))) (let y4 := (a0.getD z2.toNat n5).1; cond (decide (0 ≤ z2) && decide (z2 < (a0.length : Int))) (let y5 := (a0.getD z2.toNat n5).2.1; g.f105 y2 y3 y4 y5 (fun r6 => cond (!r6) (q false) (j (IntKind.wrap .i64 (z2 + 1))))) none) none) none) none) (j (IntKind.wrap .i64 (z2 + 1)))))) none) (x0)
theorem s3_ev (z2 : Int) (a0 : L5) (K : Kont R) : V g k K [true, true, false, true, false, false] 116 (S4 z2 a0) = s3 g k z2 a0 (fun z3 => K .normal (S4 z3 a0)) (K (.exit 0) S5) (fun z4 => K .ret (S3 z4)) := by kernel_rfl
def l4r (g : Cs R) (k : Nat) (a0 : L5) (x0 : Option R) (q : Bool → Option R) : Nat → Int → Option R
 | 0, _ => none
 | n + 1, z2 => s3 g k z2 a0 (fun z3 => l4r g k a0 x0 q n z3) (x0) (fun z4 => q z4)
def l4 (g : Cs R) (k : Nat) (z1 : Int) (a0 : L5) (x0 : Option R) (q : Bool → Option R) : Option R := l4r g k a0 x0 q k z1
theorem l4r_ev (a0 : L5) (K : Kont R) : ∀ (n : Nat) (z2 : Int), evLoop (W g k [true, true, false, true, false, false] 116) (atMeet H 58) K n (S4 z2 a0) = l4r g k a0 (K (.exit 0) S5) (fun z5 => K .ret (S3 z5)) n z2 := by
 intro n
 induction n with
 | zero => intros; rfl
 | succ n ih =>
  intro z2
  exact Eq.trans (by kernel_rfl) ((s3_ev g k z2 a0 (loopK (W g k [true, true, false, true, false, false] 116) (atMeet H 58) K n)).trans (Eq.trans (by kernel_rfl) (congrArg (fun f_ => s3 g k z2 a0 f_ (K (.exit 0) S5) (fun z4 => K .ret (S3 z4))) (funext fun (z3 : Int) => (ih z3)))))
theorem l4_ev (z1 : Int) (a0 : L5) (K : Kont R) : V g k K [true, true, false, true, false] 58 (S4 z1 a0) = l4 g k z1 a0 (K (.exit 0) S5) (fun z5 => K .ret (S3 z5)) :=
 Eq.trans (by kernel_rfl) (l4r_ev g k a0 K k z1)
def b5 (g : Cs R) (k : Nat) (z1 : Int) (a0 : L5) (j : Option R) (q : Bool → Option R) : Option R :=
 l4 g k z1 a0 (j) (fun z5 => q z5)
theorem b5_ev (z1 : Int) (a0 : L5) (K : Kont R) : V g k K [true, true, false, true] 29 (S4 z1 a0) = b5 g k z1 a0 (K .normal S5) (fun z6 => K .ret (S3 z6)) :=
 Eq.trans (by kernel_rfl) ((l4_ev g k z1 a0 (blockK 0 (fun st => K .normal (atMeet H 29 st)) K)).trans (by kernel_rfl))
def c6 (g : Cs R) (k : Nat) (a0 : L5) (j : Option R) (q : Bool → Option R) : Option R :=
 s2 g k a0 (fun z1 => b5 g k z1 a0 (j) (fun z6 => q z6))
theorem c6_ev (a0 : L5) (K : Kont R) : V g k K [true, true, false] 14 (S2 a0) = c6 g k a0 (K .normal S5) (fun z7 => K .ret (S3 z7)) :=
 (Eq.trans (by kernel_rfl) (s2_ev g k a0 (V g k K [true, true, false, true] 29) K)).trans (congrArg (fun f_ => s2 g k a0 f_) (funext fun (z1 : Int) => (b5_ev g k z1 a0 K)))
def s7 (g : Cs R) (k : Nat)  (q : Bool → Option R) : Option R :=
 q true
theorem s7_ev  (K : Kont R) : V g k K [true, true, true] 15 S5 = s7 g k (fun z8 => K .ret (S3 z8)) := by kernel_rfl
def c8 (g : Cs R) (k : Nat) (a0 : L5) (q : Bool → Option R) : Option R :=
 c6 g k a0 (s7 g k (fun z8 => q z8)) (fun z7 => q z7)
theorem c8_ev (a0 : L5) (K : Kont R) : V g k K [true, true] 7 (S2 a0) = c8 g k a0 (fun z9 => K .ret (S3 z9)) :=
 (Eq.trans (by kernel_rfl) (c6_ev g k a0 (seqK (V g k K [true, true, true] 15) K))).trans (congrArg (fun f_ => c6 g k a0 f_ (fun z7 => K .ret (S3 z7))) (seqN (f := (V g k K [true, true, true] 15)) (K := K) (s7_ev g k K)))
def c9 (g : Cs R) (k : Nat) (a1 : Int) (a0 : L5) (q : Bool → Option R) : Option R :=
 s1 g k a1 a0 (c8 g k a0 (fun z9 => q z9)) (fun z0 => q z0)
theorem c9_ev (a1 : Int) (a0 : L5) (K : Kont R) : V g k K [] 1 (S1 a1 a0) = c9 g k a1 a0 (fun z10 => K .ret (S3 z10)) :=
 (Eq.trans (by kernel_rfl) (s1_ev g k a1 a0 (V g k K [true, true] 7) K)).trans (congrArg (fun f_ => s1 g k a1 a0 f_ (fun z0 => K .ret (S3 z0))) (c8_ev g k a0 K))
def b (g : Cs R) (k : Nat) (a0 : L5) (a1 : Int) (K : Bool → Option R) : Option R :=
 c9 g k a1 a0 (fun z10 => K z10)
theorem evs (a0 : L5) (a1 : Int) (KF : Ret → Option R) : evFunc E (G g) k H [] false Tryz.f71 [.val false [.row .ro q5 a0], .val false [ri a1]] KF = b g k a0 a1 (fun r1 => KF ⟨[.val false [.s (.bool r1)]], []⟩) :=
 Eq.trans (by kernel_rfl) ((c9_ev g k a1 a0 (fin E.P false Tryz.f71 [] KF)).trans (by kernel_rfl))
end spec_l12Notes
namespace spec_l12Notes
def g (k : Nat) : Cs R := ⟨(), spec_NoteOk.c k, spec_l12Less.c k⟩
def c (k : Nat) : T R := b (g k) k
end spec_l12Notes
/-! ### spec_l12Marks: function 72 -/
namespace spec_l12Marks
abbrev T (R : Type) : Type := (L3) → (Bool → Option R) → Option R
def con (f : T R) : Con R := ⟨[], fun args K => match args with
 | [.val false [pa0]] => withRow q3 pa0 fun a0 => f a0 (fun r1 => K ⟨[.val false [.s (.bool r1)]], []⟩)
 | _ => none⟩
structure Cs (R : Type) where
  none_ : Unit := ()
  f26 : spec_l3Keeper.T R
  f52 : spec_l6In.T R
  f105 : spec_l12Less.T R
def G (g : Cs R) : Cons R := [(26, spec_l3Keeper.con g.f26), (52, spec_l6In.con g.f52), (105, spec_l12Less.con g.f105)]
def H : List (Nat × Meet) := [(13, ⟨[(0, [(0, q3)])], []⟩), (28, ⟨[(0, [(0, q3)]), (3, [])], []⟩), (31, ⟨[(2, [])], []⟩), (53, ⟨[(2, [])], []⟩), (58, ⟨[(0, [(0, q3)]), (3, [])], []⟩), (467, ⟨[(0, [(0, q3)]), (3, [])], []⟩), (931, ⟨[], []⟩), (14925, ⟨[(2, [])], []⟩)]
abbrev S1 (x1 : L3) : St := mkSt [(0, .c (.sl 0))] [(0, .row .ro q3 x1)]
abbrev S2 (x1 : Bool) : St := mkSt [(2, .c (.s (.bool x1)))] []
abbrev S3 (x1 : Int) (x2 : L3) : St := mkSt [(0, .c (.sl 0)), (3, .c (si x1))] [(0, .row .ro q3 x2)]
abbrev S4 : St := mkSt [] []
noncomputable abbrev V (g : Cs R) (k : Nat) (K : Kont R) (b : List Bool) (p : Nat) (st : St) : Option R := ev E (G g) k H (nodeAt (bodyOf Tryz.f72) b) p st K
noncomputable abbrev U (g : Cs R) (k : Nat) (n : Nat) (b : List Bool) : Nat → St → (St → Option R) → Kont R → Option R := evPre E (G g) k H n (nodeAt (bodyOf Tryz.f72) b)
noncomputable abbrev W (g : Cs R) (k : Nat) (b : List Bool) (p : Nat) : St → Kont R → Option R := ev E (G g) k H (nodeAt (bodyOf Tryz.f72) b) p
variable (g : Cs R) (k : Nat)
def s1 (g : Cs R) (k : Nat) (a0 : L3) (j : Option R) (q : Bool → Option R) : Option R :=
 cond (decide ((12 : Int) < (a0.length : Int))) (q false) (j)
theorem s1_ev (a0 : L3) (X : St → Option R) (K : Kont R) : U g k 2 [] 1 (S1 a0) X K = s1 g k a0 (X (S1 a0)) (fun z0 => K .ret (S2 z0)) := by kernel_rfl
def s2 (g : Cs R) (k : Nat) (a0 : L3) (j : Int → Option R) : Option R :=
 j 0
theorem s2_ev (a0 : L3) (X : St → Option R) (K : Kont R) : U g k 1 [true, true, false] 14 (S1 a0) X K = s2 g k a0 (fun z1 => X (S3 z1 a0)) := by kernel_rfl
def s3 (g : Cs R) (k : Nat) (z2 : Int) (a0 : L3) (j : Int → Option R) (x0 : Option R) (q : Bool → Option R) : Option R :=
 cond (decide (z2 < (a0.length : Int))) (cond (decide (0 ≤ z2) && decide (z2 < (a0.length : Int))) (let y1 := (a0.getD z2.toNat n3).1; g.f26 y1 (fun r2 => cond (!r2) (q false) (let y3 := (a0.getD z2.toNat n3).2.1; g.f52 y3 1 99 (fun r4 => cond (!r4) (q false) (let y5 := (a0.getD z2.toNat n3).2.2; g.f52 y5 1 999 (fun r6 => cond (!r6) (q false) (cond (decide ((0 : Int) < z2)) (cond (decide (0 ≤ (IntKind.wrap .i64 (z2 - 1))) && decide ((IntKind.wrap .i64 (z2 - 1)) < (a0.length : Int))) (let y7 := (a0.getD ((IntKind.wrap .i64 (z2 - 1)).toNat) n3).1; cond (decide (0 ≤ (IntKind.wrap .i64 (z2 - 1))) && decide ((IntKind.wrap .i64 (z2 - 1)) < (a0.length : Int))) (let y8 := (a0.getD ((IntKind.wrap .i64 (z2 - 1)).toNat) n3).2.1; let y9 := (a0.getD z2.toNat n3).1; let y10 := (a0.getD z2.toNat n3).2.1; g.f105 y7 y8 y9 y10 (fun r11 => cond (!r11) (q false) (j (IntKind.wrap .i64 (z2 + 1))))) none) none) (j (IntKind.wrap .i64 (z2 + 1)))))))))) none) (x0)
theorem s3_ev (z2 : Int) (a0 : L3) (K : Kont R) : V g k K [true, true, false, true, false, false] 116 (S3 z2 a0) = s3 g k z2 a0 (fun z3 => K .normal (S3 z3 a0)) (K (.exit 0) S4) (fun z4 => K .ret (S2 z4)) := by kernel_rfl
def l4r (g : Cs R) (k : Nat) (a0 : L3) (x0 : Option R) (q : Bool → Option R) : Nat → Int → Option R
 | 0, _ => none
 | n + 1, z2 => s3 g k z2 a0 (fun z3 => l4r g k a0 x0 q n z3) (x0) (fun z4 => q z4)
def l4 (g : Cs R) (k : Nat) (z1 : Int) (a0 : L3) (x0 : Option R) (q : Bool → Option R) : Option R := l4r g k a0 x0 q k z1
theorem l4r_ev (a0 : L3) (K : Kont R) : ∀ (n : Nat) (z2 : Int), evLoop (W g k [true, true, false, true, false, false] 116) (atMeet H 58) K n (S3 z2 a0) = l4r g k a0 (K (.exit 0) S4) (fun z5 => K .ret (S2 z5)) n z2 := by
 intro n
 induction n with
 | zero => intros; rfl
 | succ n ih =>
  intro z2
  exact Eq.trans (by kernel_rfl) ((s3_ev g k z2 a0 (loopK (W g k [true, true, false, true, false, false] 116) (atMeet H 58) K n)).trans (Eq.trans (by kernel_rfl) (congrArg (fun f_ => s3 g k z2 a0 f_ (K (.exit 0) S4) (fun z4 => K .ret (S2 z4))) (funext fun (z3 : Int) => (ih z3)))))
theorem l4_ev (z1 : Int) (a0 : L3) (K : Kont R) : V g k K [true, true, false, true, false] 58 (S3 z1 a0) = l4 g k z1 a0 (K (.exit 0) S4) (fun z5 => K .ret (S2 z5)) :=
 Eq.trans (by kernel_rfl) (l4r_ev g k a0 K k z1)
def b5 (g : Cs R) (k : Nat) (z1 : Int) (a0 : L3) (j : Option R) (q : Bool → Option R) : Option R :=
 l4 g k z1 a0 (j) (fun z5 => q z5)
theorem b5_ev (z1 : Int) (a0 : L3) (K : Kont R) : V g k K [true, true, false, true] 29 (S3 z1 a0) = b5 g k z1 a0 (K .normal S4) (fun z6 => K .ret (S2 z6)) :=
 Eq.trans (by kernel_rfl) ((l4_ev g k z1 a0 (blockK 0 (fun st => K .normal (atMeet H 29 st)) K)).trans (by kernel_rfl))
def c6 (g : Cs R) (k : Nat) (a0 : L3) (j : Option R) (q : Bool → Option R) : Option R :=
 s2 g k a0 (fun z1 => b5 g k z1 a0 (j) (fun z6 => q z6))
theorem c6_ev (a0 : L3) (K : Kont R) : V g k K [true, true, false] 14 (S1 a0) = c6 g k a0 (K .normal S4) (fun z7 => K .ret (S2 z7)) :=
 (Eq.trans (by kernel_rfl) (s2_ev g k a0 (V g k K [true, true, false, true] 29) K)).trans (congrArg (fun f_ => s2 g k a0 f_) (funext fun (z1 : Int) => (b5_ev g k z1 a0 K)))
def s7 (g : Cs R) (k : Nat)  (q : Bool → Option R) : Option R :=
 q true
theorem s7_ev  (K : Kont R) : V g k K [true, true, true] 15 S4 = s7 g k (fun z8 => K .ret (S2 z8)) := by kernel_rfl
def c8 (g : Cs R) (k : Nat) (a0 : L3) (q : Bool → Option R) : Option R :=
 c6 g k a0 (s7 g k (fun z8 => q z8)) (fun z7 => q z7)
theorem c8_ev (a0 : L3) (K : Kont R) : V g k K [true, true] 7 (S1 a0) = c8 g k a0 (fun z9 => K .ret (S2 z9)) :=
 (Eq.trans (by kernel_rfl) (c6_ev g k a0 (seqK (V g k K [true, true, true] 15) K))).trans (congrArg (fun f_ => c6 g k a0 f_ (fun z7 => K .ret (S2 z7))) (seqN (f := (V g k K [true, true, true] 15)) (K := K) (s7_ev g k K)))
def c9 (g : Cs R) (k : Nat) (a0 : L3) (q : Bool → Option R) : Option R :=
 s1 g k a0 (c8 g k a0 (fun z9 => q z9)) (fun z0 => q z0)
theorem c9_ev (a0 : L3) (K : Kont R) : V g k K [] 1 (S1 a0) = c9 g k a0 (fun z10 => K .ret (S2 z10)) :=
 (Eq.trans (by kernel_rfl) (s1_ev g k a0 (V g k K [true, true] 7) K)).trans (congrArg (fun f_ => s1 g k a0 f_ (fun z0 => K .ret (S2 z0))) (c8_ev g k a0 K))
def b (g : Cs R) (k : Nat) (a0 : L3) (K : Bool → Option R) : Option R :=
 c9 g k a0 (fun z10 => K z10)
theorem evs (a0 : L3) (KF : Ret → Option R) : evFunc E (G g) k H [] false Tryz.f72 [.val false [.row .ro q3 a0]] KF = b g k a0 (fun r1 => KF ⟨[.val false [.s (.bool r1)]], []⟩) :=
 Eq.trans (by kernel_rfl) ((c9_ev g k a0 (fin E.P false Tryz.f72 [] KF)).trans (by kernel_rfl))
end spec_l12Marks
namespace spec_l12Marks
def g (k : Nat) : Cs R := ⟨(), spec_l3Keeper.c k, spec_l6In.c k, spec_l12Less.c k⟩
def c (k : Nat) : T R := b (g k) k
end spec_l12Marks
/-! ### spec_l12Way: function 73 -/
namespace spec_l12Way
abbrev T (R : Type) : Type := Int → Int → Int → Int → ByteArray → Int → (Bool → Option R) → Option R
def con (f : T R) : Con R := ⟨[], fun args K => match args with
 | [.val true [.s (.int .i64 A), .s (.int .i64 B), .s (.int .i64 C), .s (.int .i64 D), .s (.string F)], .val false [.s (.int .i64 a1)]] => f A B C D F a1 (fun r1 => K ⟨[.val false [.s (.bool r1)]], []⟩)
 | _ => none⟩
structure Cs (R : Type) where
  none_ : Unit := ()
def G (g : Cs R) : Cons R := []
def H : List (Nat × Meet) := []
variable (g : Cs R) (k : Nat)
def b (g : Cs R) (k : Nat) (A C B D : Int) (F : ByteArray) (a1 : Int) (K : Bool → Option R) : Option R :=
 cond (decide (A ≤ a1)) (cond (decide (a1 < B)) (K true) (cond (decide (B < a1)) (K (decide (a1 ≤ A))) (K false))) (cond (decide (B < a1)) (K (decide (a1 ≤ A))) (K false))
theorem evs (A B C D : Int) (F : ByteArray) (a1 : Int) (KF : Ret → Option R) : evFunc E (G g) k H [] false Tryz.f73 [.val true [ri A, ri B, ri C, ri D, .s (.string F)], .val false [ri a1]] KF = b g k A B C D F a1 (fun r1 => KF ⟨[.val false [.s (.bool r1)]], []⟩) :=
 by kernel_rfl
end spec_l12Way
namespace spec_l12Way
def g (k : Nat) : Cs R := ⟨()⟩
def c (k : Nat) : T R := b (g k) k
end spec_l12Way
/-! ### spec_l12Mark: function 74 -/
namespace spec_l12Mark
abbrev T (R : Type) : Type := (L3) → Int → Int → (Int → Option R) → Option R
def con (f : T R) : Con R := ⟨[], fun args K => match args with
 | [.val false [pa0], .val false [.s (.int .i64 a1)], .val false [.s (.int .i64 a2)]] => withRow q3 pa0 fun a0 => f a0 a1 a2 (fun r1 => K ⟨[.val false [ri r1]], []⟩)
 | _ => none⟩
structure Cs (R : Type) where
  none_ : Unit := ()
def G (g : Cs R) : Cons R := []
def H : List (Nat × Meet) := [(2, ⟨[(0, [(0, q3)]), (1, []), (2, [])], []⟩), (12, ⟨[(0, [(0, q3)]), (1, []), (2, []), (7, [])], []⟩), (15, ⟨[(6, [])], []⟩), (26, ⟨[(0, [(0, q3)]), (1, []), (2, []), (7, [])], []⟩), (211, ⟨[(0, [(0, q3)]), (1, []), (2, []), (7, [])], []⟩), (419, ⟨[], []⟩), (3365, ⟨[(6, [])], []⟩)]
abbrev S1 (x1 x2 : Int) (x3 : L3) : St := mkSt [(0, .c (.sl 0)), (1, .c (si x1)), (2, .c (si x2))] [(0, .row .ro q3 x3)]
abbrev S2 (x1 x2 x3 : Int) (x4 : L3) : St := mkSt [(0, .c (.sl 0)), (1, .c (si x1)), (2, .c (si x2)), (7, .c (si x3))] [(0, .row .ro q3 x4)]
abbrev S3 : St := mkSt [] []
abbrev S4 (x1 : Int) : St := mkSt [(6, .c (si x1))] []
noncomputable abbrev V (g : Cs R) (k : Nat) (K : Kont R) (b : List Bool) (p : Nat) (st : St) : Option R := ev E (G g) k H (nodeAt (bodyOf Tryz.f74) b) p st K
noncomputable abbrev U (g : Cs R) (k : Nat) (n : Nat) (b : List Bool) : Nat → St → (St → Option R) → Kont R → Option R := evPre E (G g) k H n (nodeAt (bodyOf Tryz.f74) b)
noncomputable abbrev W (g : Cs R) (k : Nat) (b : List Bool) (p : Nat) : St → Kont R → Option R := ev E (G g) k H (nodeAt (bodyOf Tryz.f74) b) p
variable (g : Cs R) (k : Nat)
def s1 (g : Cs R) (k : Nat) (a1 a2 : Int) (a0 : L3) (j : Option R) : Option R :=
 j
theorem s1_ev (a1 a2 : Int) (a0 : L3) (X : St → Option R) (K : Kont R) : U g k 1 [] 1 (S1 a1 a2 a0) X K = s1 g k a1 a2 a0 (X (S1 a1 a2 a0)) := by kernel_rfl
def s2 (g : Cs R) (k : Nat) (a1 a2 : Int) (a0 : L3) (j : Int → Option R) : Option R :=
 j 0
theorem s2_ev (a1 a2 : Int) (a0 : L3) (X : St → Option R) (K : Kont R) : U g k 1 [true, false] 6 (S1 a1 a2 a0) X K = s2 g k a1 a2 a0 (fun z0 => X (S2 a1 a2 z0 a0)) := by kernel_rfl
def s3 (g : Cs R) (k : Nat) (a1 a2 z1 : Int) (a0 : L3) (j : Int → Option R) (x0 : Option R) (q : Option R) : Option R :=
 cond (decide (z1 < (a0.length : Int))) (cond (decide (0 ≤ z1) && decide (z1 < (a0.length : Int))) (let y1 := (a0.getD z1.toNat n3).1; cond (decide (y1 = a1)) (cond (decide (0 ≤ z1) && decide (z1 < (a0.length : Int))) (let y2 := (a0.getD z1.toNat n3).2.1; cond (decide (y2 = a2)) (q) (j (IntKind.wrap .i64 (z1 + 1)))) none) (j (IntKind.wrap .i64 (z1 + 1)))) none) (x0)
theorem s3_ev (a1 a2 z1 : Int) (a0 : L3) (K : Kont R) : V g k K [true, false, true, false, false] 52 (S2 a1 a2 z1 a0) = s3 g k a1 a2 z1 a0 (fun z2 => K .normal (S2 a1 a2 z2 a0)) (K (.exit 0) S3) (K .ret (S4 z1)) := by kernel_rfl
def l4r (g : Cs R) (k : Nat) (a1 a2 : Int) (a0 : L3) (x0 : Option R) (q : Int → Option R) : Nat → Int → Option R
 | 0, _ => none
 | n + 1, z1 => s3 g k a1 a2 z1 a0 (fun z2 => l4r g k a1 a2 a0 x0 q n z2) (x0) (q z1)
def l4 (g : Cs R) (k : Nat) (a1 a2 z0 : Int) (a0 : L3) (x0 : Option R) (q : Int → Option R) : Option R := l4r g k a1 a2 a0 x0 q k z0
theorem l4r_ev (a1 a2 : Int) (a0 : L3) (K : Kont R) : ∀ (n : Nat) (z1 : Int), evLoop (W g k [true, false, true, false, false] 52) (atMeet H 26) K n (S2 a1 a2 z1 a0) = l4r g k a1 a2 a0 (K (.exit 0) S3) (fun z3 => K .ret (S4 z3)) n z1 := by
 intro n
 induction n with
 | zero => intros; rfl
 | succ n ih =>
  intro z1
  exact Eq.trans (by kernel_rfl) ((s3_ev g k a1 a2 z1 a0 (loopK (W g k [true, false, true, false, false] 52) (atMeet H 26) K n)).trans (Eq.trans (by kernel_rfl) (congrArg (fun f_ => s3 g k a1 a2 z1 a0 f_ (K (.exit 0) S3) (K .ret (S4 z1))) (funext fun (z2 : Int) => (ih z2)))))
theorem l4_ev (a1 a2 z0 : Int) (a0 : L3) (K : Kont R) : V g k K [true, false, true, false] 26 (S2 a1 a2 z0 a0) = l4 g k a1 a2 z0 a0 (K (.exit 0) S3) (fun z3 => K .ret (S4 z3)) :=
 Eq.trans (by kernel_rfl) (l4r_ev g k a1 a2 a0 K k z0)
def b5 (g : Cs R) (k : Nat) (a1 a2 z0 : Int) (a0 : L3) (j : Option R) (q : Int → Option R) : Option R :=
 l4 g k a1 a2 z0 a0 (j) (fun z3 => q z3)
theorem b5_ev (a1 a2 z0 : Int) (a0 : L3) (K : Kont R) : V g k K [true, false, true] 13 (S2 a1 a2 z0 a0) = b5 g k a1 a2 z0 a0 (K .normal S3) (fun z4 => K .ret (S4 z4)) :=
 Eq.trans (by kernel_rfl) ((l4_ev g k a1 a2 z0 a0 (blockK 0 (fun st => K .normal (atMeet H 13 st)) K)).trans (by kernel_rfl))
def c6 (g : Cs R) (k : Nat) (a1 a2 : Int) (a0 : L3) (j : Option R) (q : Int → Option R) : Option R :=
 s2 g k a1 a2 a0 (fun z0 => b5 g k a1 a2 z0 a0 (j) (fun z4 => q z4))
theorem c6_ev (a1 a2 : Int) (a0 : L3) (K : Kont R) : V g k K [true, false] 6 (S1 a1 a2 a0) = c6 g k a1 a2 a0 (K .normal S3) (fun z5 => K .ret (S4 z5)) :=
 (Eq.trans (by kernel_rfl) (s2_ev g k a1 a2 a0 (V g k K [true, false, true] 13) K)).trans (congrArg (fun f_ => s2 g k a1 a2 a0 f_) (funext fun (z0 : Int) => (b5_ev g k a1 a2 z0 a0 K)))
def s7 (g : Cs R) (k : Nat)  (q : Int → Option R) : Option R :=
 q (-1)
theorem s7_ev  (K : Kont R) : V g k K [true, true] 7 S3 = s7 g k (fun z6 => K .ret (S4 z6)) := by kernel_rfl
def c8 (g : Cs R) (k : Nat) (a1 a2 : Int) (a0 : L3) (q : Int → Option R) : Option R :=
 c6 g k a1 a2 a0 (s7 g k (fun z6 => q z6)) (fun z5 => q z5)
theorem c8_ev (a1 a2 : Int) (a0 : L3) (K : Kont R) : V g k K [true] 3 (S1 a1 a2 a0) = c8 g k a1 a2 a0 (fun z7 => K .ret (S4 z7)) :=
 (Eq.trans (by kernel_rfl) (c6_ev g k a1 a2 a0 (seqK (V g k K [true, true] 7) K))).trans (congrArg (fun f_ => c6 g k a1 a2 a0 f_ (fun z5 => K .ret (S4 z5))) (seqN (f := (V g k K [true, true] 7)) (K := K) (s7_ev g k K)))
def c9 (g : Cs R) (k : Nat) (a1 a2 : Int) (a0 : L3) (q : Int → Option R) : Option R :=
 s1 g k a1 a2 a0 (c8 g k a1 a2 a0 (fun z7 => q z7))
theorem c9_ev (a1 a2 : Int) (a0 : L3) (K : Kont R) : V g k K [] 1 (S1 a1 a2 a0) = c9 g k a1 a2 a0 (fun z8 => K .ret (S4 z8)) :=
 (Eq.trans (by kernel_rfl) (s1_ev g k a1 a2 a0 (V g k K [true] 3) K)).trans (congrArg (fun f_ => s1 g k a1 a2 a0 f_) (c8_ev g k a1 a2 a0 K))
def b (g : Cs R) (k : Nat) (a0 : L3) (a1 a2 : Int) (K : Int → Option R) : Option R :=
 c9 g k a1 a2 a0 (fun z8 => K z8)
theorem evs (a0 : L3) (a1 a2 : Int) (KF : Ret → Option R) : evFunc E (G g) k H [] false Tryz.f74 [.val false [.row .ro q3 a0], .val false [ri a1], .val false [ri a2]] KF = b g k a0 a1 a2 (fun r1 => KF ⟨[.val false [ri r1]], []⟩) :=
 Eq.trans (by kernel_rfl) ((c9_ev g k a1 a2 a0 (fin E.P false Tryz.f74 [] KF)).trans (by kernel_rfl))
end spec_l12Mark
namespace spec_l12Mark
def g (k : Nat) : Cs R := ⟨()⟩
def c (k : Nat) : T R := b (g k) k
end spec_l12Mark
end Go.Ev.F
