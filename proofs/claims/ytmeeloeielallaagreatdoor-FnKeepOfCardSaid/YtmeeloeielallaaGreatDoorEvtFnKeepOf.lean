/- The Go functions as plain functions, and that the evaluator comes to them. No condition. Written by a program of this session. -/
import Derived.Test.YtmeeloeielallaaGreatDoorEvtFnKeepOfa
namespace Go.Ev.F
open Go.Proofs
set_option linter.unusedVariables false
set_option maxRecDepth 100000
variable {R : Type}
/-! ### impl_natural: function 59 -/
namespace impl_natural
abbrev T (R : Type) : Type := ByteArray → (Int → Bool → Option R) → Option R
def con (f : T R) : Con R := ⟨[], fun args K => match args with
 | [.val false [.s (.string a0)]] => f a0 (fun r1 r2 => K ⟨[.val false [ri r1], .val false [.s (.bool r2)]], []⟩)
 | _ => none⟩
structure Cs (R : Type) where
  none_ : Unit := ()
  f53 : impl_in.T R
def G (g : Cs R) : Cons R := [(53, impl_in.con g.f53)]
def H : List (Nat × Meet) := [(13, ⟨[(0, [])], []⟩), (14, ⟨[(0, []), (4, [])], []⟩), (53, ⟨[(2, []), (3, [])], []⟩), (60, ⟨[(0, []), (4, []), (5, [])], []⟩), (63, ⟨[(2, []), (3, [])], []⟩), (122, ⟨[(0, []), (4, []), (5, [])], []⟩), (979, ⟨[(0, []), (4, []), (5, [])], []⟩), (1955, ⟨[(4, [])], []⟩), (31301, ⟨[(2, []), (3, [])], []⟩)]
abbrev S1 (x1 : ByteArray) : St := mkSt [(0, .c (.s (.string x1)))] []
abbrev S2 (x1 : Int) (x2 : Bool) : St := mkSt [(2, .c (si x1)), (3, .c (.s (.bool x2)))] []
abbrev S3 (x1 : ByteArray) (x2 : Int) : St := mkSt [(0, .c (.s (.string x1))), (4, .c (si x2))] []
abbrev S4 (x1 : ByteArray) (x2 x3 : Int) : St := mkSt [(0, .c (.s (.string x1))), (4, .c (si x2)), (5, .c (si x3))] []
abbrev S5 (x1 : Int) : St := mkSt [(4, .c (si x1))] []
noncomputable abbrev V (g : Cs R) (k : Nat) (K : Kont R) (b : List Bool) (p : Nat) (st : St) : Option R := ev E (G g) k H (nodeAt (bodyOf Tryz.f59) b) p st K
noncomputable abbrev U (g : Cs R) (k : Nat) (n : Nat) (b : List Bool) : Nat → St → (St → Option R) → Kont R → Option R := evPre E (G g) k H n (nodeAt (bodyOf Tryz.f59) b)
noncomputable abbrev W (g : Cs R) (k : Nat) (b : List Bool) (p : Nat) : St → Kont R → Option R := ev E (G g) k H (nodeAt (bodyOf Tryz.f59) b) p
variable (g : Cs R) (k : Nat)
def s1 (g : Cs R) (k : Nat) (a0 : ByteArray) (j : Option R) (q : Int → Bool → Option R) : Option R :=
 g.f53 (a0.size : Int) 1 5 (fun r1 => cond (!r1) (q 0 false) (cond (decide (0 ≤ (0 : Int)) && decide ((0 : Int) < (a0.size : Int))) (cond (decide ((byteAt a0 0) = 48)) (cond (decide ((1 : Int) < (a0.size : Int))) (q 0 false) (j)) (j)) none))
theorem s1_ev (a0 : ByteArray) (X : St → Option R) (K : Kont R) : U g k 2 [] 1 (S1 a0) X K = s1 g k a0 (X (S1 a0)) (fun z0 z1 => K .ret (S2 z0 z1)) := by kernel_rfl
def s2 (g : Cs R) (k : Nat) (a0 : ByteArray) (j : Int → Option R) : Option R :=
 j 0
theorem s2_ev (a0 : ByteArray) (X : St → Option R) (K : Kont R) : U g k 1 [true, true] 7 (S1 a0) X K = s2 g k a0 (fun z2 => X (S3 a0 z2)) := by kernel_rfl
def s3 (g : Cs R) (k : Nat) (a0 : ByteArray) (z2 : Int) (j : Int → Option R) : Option R :=
 j 0
theorem s3_ev (a0 : ByteArray) (z2 : Int) (X : St → Option R) (K : Kont R) : U g k 1 [true, true, true, false] 30 (S3 a0 z2) X K = s3 g k a0 z2 (fun z3 => X (S4 a0 z2 z3)) := by kernel_rfl
def s4 (g : Cs R) (k : Nat) (a0 : ByteArray) (z4 z5 : Int) (j : Int → Int → Option R) (x0 : Option R) (q : Int → Bool → Option R) : Option R :=
 cond (decide (z5 < (a0.size : Int))) (cond (decide (0 ≤ z5) && decide (z5 < (a0.size : Int))) (g.f53 (IntKind.wrap .i64 ((byteAt a0 z5.toNat))) 48 57 (fun r1 => cond (!r1) (q 0 false) (cond (decide (0 ≤ z5) && decide (z5 < (a0.size : Int))) (let y2 := (IntKind.wrap .u8 ((byteAt a0 z5.toNat) - 48)); let y3 := (IntKind.wrap .i64 ((IntKind.wrap .i64 ((10 : Int) * z4)) + (IntKind.wrap .i64 (y2)))); j y3 (IntKind.wrap .i64 (z5 + 1))) none))) none) (x0)
theorem s4_ev (a0 : ByteArray) (z4 z5 : Int) (K : Kont R) : V g k K [true, true, true, false, true, false, false] 244 (S4 a0 z4 z5) = s4 g k a0 z4 z5 (fun z6 z7 => K .normal (S4 a0 z6 z7)) (K (.exit 0) (S5 z4)) (fun z8 z9 => K .ret (S2 z8 z9)) := by kernel_rfl
def l5r (g : Cs R) (k : Nat) (a0 : ByteArray) (x0 : Int → Option R) (q : Int → Bool → Option R) : Nat → Int → Int → Option R
 | 0, _, _ => none
 | n + 1, z4, z5 => s4 g k a0 z4 z5 (fun z6 z7 => l5r g k a0 x0 q n z6 z7) (x0 z4) (fun z8 z9 => q z8 z9)
def l5 (g : Cs R) (k : Nat) (a0 : ByteArray) (z2 z3 : Int) (x0 : Int → Option R) (q : Int → Bool → Option R) : Option R := l5r g k a0 x0 q k z2 z3
theorem l5r_ev (a0 : ByteArray) (K : Kont R) : ∀ (n : Nat) (z4 z5 : Int), evLoop (W g k [true, true, true, false, true, false, false] 244) (atMeet H 122) K n (S4 a0 z4 z5) = l5r g k a0 (fun z10 => K (.exit 0) (S5 z10)) (fun z11 z12 => K .ret (S2 z11 z12)) n z4 z5 := by
 intro n
 induction n with
 | zero => intros; rfl
 | succ n ih =>
  intro z4 z5
  exact Eq.trans (by kernel_rfl) ((s4_ev g k a0 z4 z5 (loopK (W g k [true, true, true, false, true, false, false] 244) (atMeet H 122) K n)).trans (Eq.trans (by kernel_rfl) (congrArg (fun f_ => s4 g k a0 z4 z5 f_ (K (.exit 0) (S5 z4)) (fun z8 z9 => K .ret (S2 z8 z9))) (funext fun (z6 : Int) => (funext fun (z7 : Int) => (ih z6 z7))))))
theorem l5_ev (a0 : ByteArray) (z2 z3 : Int) (K : Kont R) : V g k K [true, true, true, false, true, false] 122 (S4 a0 z2 z3) = l5 g k a0 z2 z3 (fun z10 => K (.exit 0) (S5 z10)) (fun z11 z12 => K .ret (S2 z11 z12)) :=
 Eq.trans (by kernel_rfl) (l5r_ev g k a0 K k z2 z3)
def b6 (g : Cs R) (k : Nat) (a0 : ByteArray) (z2 z3 : Int) (j : Int → Option R) (q : Int → Bool → Option R) : Option R :=
 l5 g k a0 z2 z3 (fun z10 => j z10) (fun z11 z12 => q z11 z12)
theorem b6_ev (a0 : ByteArray) (z2 z3 : Int) (K : Kont R) : V g k K [true, true, true, false, true] 61 (S4 a0 z2 z3) = b6 g k a0 z2 z3 (fun z13 => K .normal (S5 z13)) (fun z14 z15 => K .ret (S2 z14 z15)) :=
 Eq.trans (by kernel_rfl) ((l5_ev g k a0 z2 z3 (blockK 0 (fun st => K .normal (atMeet H 61 st)) K)).trans (by kernel_rfl))
def c7 (g : Cs R) (k : Nat) (a0 : ByteArray) (z2 : Int) (j : Int → Option R) (q : Int → Bool → Option R) : Option R :=
 s3 g k a0 z2 (fun z3 => b6 g k a0 z2 z3 (fun z13 => j z13) (fun z14 z15 => q z14 z15))
theorem c7_ev (a0 : ByteArray) (z2 : Int) (K : Kont R) : V g k K [true, true, true, false] 30 (S3 a0 z2) = c7 g k a0 z2 (fun z16 => K .normal (S5 z16)) (fun z17 z18 => K .ret (S2 z17 z18)) :=
 (Eq.trans (by kernel_rfl) (s3_ev g k a0 z2 (V g k K [true, true, true, false, true] 61) K)).trans (congrArg (fun f_ => s3 g k a0 z2 f_) (funext fun (z3 : Int) => (b6_ev g k a0 z2 z3 K)))
def s8 (g : Cs R) (k : Nat) (z16 : Int) (q : Bool → Option R) : Option R :=
 q true
theorem s8_ev (z16 : Int) (K : Kont R) : V g k K [true, true, true, true] 31 (S5 z16) = s8 g k z16 (fun z19 => K .ret (S2 z16 z19)) := by kernel_rfl
def c9 (g : Cs R) (k : Nat) (a0 : ByteArray) (z2 : Int) (q : Int → Bool → Option R) : Option R :=
 c7 g k a0 z2 (fun z16 => s8 g k z16 (fun z19 => q z16 z19)) (fun z17 z18 => q z17 z18)
theorem c9_ev (a0 : ByteArray) (z2 : Int) (K : Kont R) : V g k K [true, true, true] 15 (S3 a0 z2) = c9 g k a0 z2 (fun z20 z21 => K .ret (S2 z20 z21)) :=
 (Eq.trans (by kernel_rfl) (c7_ev g k a0 z2 (seqK (V g k K [true, true, true, true] 31) K))).trans (congrArg (fun f_ => c7 g k a0 z2 f_ (fun z17 z18 => K .ret (S2 z17 z18))) (funext fun (z16 : Int) => (seqN (f := (V g k K [true, true, true, true] 31)) (K := K) (s8_ev g k z16 K))))
def c10 (g : Cs R) (k : Nat) (a0 : ByteArray) (q : Int → Bool → Option R) : Option R :=
 s2 g k a0 (fun z2 => c9 g k a0 z2 (fun z20 z21 => q z20 z21))
theorem c10_ev (a0 : ByteArray) (K : Kont R) : V g k K [true, true] 7 (S1 a0) = c10 g k a0 (fun z22 z23 => K .ret (S2 z22 z23)) :=
 (Eq.trans (by kernel_rfl) (s2_ev g k a0 (V g k K [true, true, true] 15) K)).trans (congrArg (fun f_ => s2 g k a0 f_) (funext fun (z2 : Int) => (c9_ev g k a0 z2 K)))
def c11 (g : Cs R) (k : Nat) (a0 : ByteArray) (q : Int → Bool → Option R) : Option R :=
 s1 g k a0 (c10 g k a0 (fun z22 z23 => q z22 z23)) (fun z0 z1 => q z0 z1)
theorem c11_ev (a0 : ByteArray) (K : Kont R) : V g k K [] 1 (S1 a0) = c11 g k a0 (fun z24 z25 => K .ret (S2 z24 z25)) :=
 (Eq.trans (by kernel_rfl) (s1_ev g k a0 (V g k K [true, true] 7) K)).trans (congrArg (fun f_ => s1 g k a0 f_ (fun z0 z1 => K .ret (S2 z0 z1))) (c10_ev g k a0 K))
def b (g : Cs R) (k : Nat) (a0 : ByteArray) (K : Int → Bool → Option R) : Option R :=
 c11 g k a0 (fun z24 z25 => K z24 z25)
theorem evs (a0 : ByteArray) (KF : Ret → Option R) : evFunc E (G g) k H [] false Tryz.f59 [.val false [.s (.string a0)]] KF = b g k a0 (fun r1 r2 => KF ⟨[.val false [ri r1], .val false [.s (.bool r2)]], []⟩) :=
 Eq.trans (by kernel_rfl) ((c11_ev g k a0 (fin E.P false Tryz.f59 [] KF)).trans (by kernel_rfl))
end impl_natural
namespace impl_natural
def g (k : Nat) : Cs R := ⟨(), impl_in.c k⟩
def c (k : Nat) : T R := b (g k) k
end impl_natural
/-! ### impl_advance: function 96 -/
namespace impl_advance
abbrev T (R : Type) : Type := Int → Int → Int → (L5) → (L3) → (L5) → Int → (Int → Int → Int → (L5) → (L3) → (L5) → Option R) → Option R
def con (f : T R) : Con R := ⟨[], fun args K => match args with
 | [.val true [.s (.int .i64 A), .s (.int .i64 B), .s (.int .i64 C), D, F, J], .val false [.s (.int .i64 a1)]] => withRow q5 D fun M => withRow q3 F fun N => withRow q5 J fun O => f A B C M N O a1 (fun r1 r2 r3 r4 r5 r6 => K ⟨[.val true [ri r1, ri r2, ri r3, .row .own q5 r4, .row .own q3 r5, .row .ro q5 r6]], []⟩)
 | _ => none⟩
structure Cs (R : Type) where
  none_ : Unit := ()
def G (g : Cs R) : Cons R := []
def H : List (Nat × Meet) := [(6, ⟨[(1, []), (2, [(3, q5), (4, q3), (5, q5)]), (4, [(3, q5), (4, q3), (5, q5)]), (5, [(3, q5), (4, q3), (5, q5)])], []⟩), (28, ⟨[(1, []), (2, [(3, q5), (4, q3), (5, q5)]), (4, [(3, q5), (4, q3), (5, q5)]), (5, [(3, q5), (4, q3), (5, q5)]), (19, [(0, q5)]), (20, []), (21, [])], []⟩), (58, ⟨[(1, []), (2, [(3, q5), (4, q3), (5, q5)]), (4, [(3, q5), (4, q3), (5, q5)]), (5, [(3, q5), (4, q3), (5, q5)]), (19, [(0, q5)]), (20, []), (21, [])], []⟩), (60, ⟨[(1, []), (4, [(3, q5), (4, q3), (5, q5)]), (5, [(3, q5), (4, q3), (5, q5)]), (37, [(0, q3)]), (38, []), (39, [])], []⟩), (63, ⟨[(4, [(3, q5), (4, q3), (5, q5)])], []⟩), (122, ⟨[(1, []), (4, [(3, q5), (4, q3), (5, q5)]), (5, [(3, q5), (4, q3), (5, q5)]), (37, [(0, q3)]), (38, []), (39, [])], []⟩), (933, ⟨[(1, []), (2, [(3, q5), (4, q3), (5, q5)]), (4, [(3, q5), (4, q3), (5, q5)]), (5, [(3, q5), (4, q3), (5, q5)])], []⟩), (935, ⟨[(1, []), (2, [(3, q5), (4, q3), (5, q5)]), (4, [(3, q5), (4, q3), (5, q5)]), (5, [(3, q5), (4, q3), (5, q5)]), (19, [(0, q5)]), (20, []), (21, [])], []⟩), (1957, ⟨[(4, [(3, q5), (4, q3), (5, q5)]), (5, [(3, q5), (4, q3), (5, q5)])], []⟩), (1959, ⟨[(1, []), (4, [(3, q5), (4, q3), (5, q5)]), (5, [(3, q5), (4, q3), (5, q5)]), (37, [(0, q3)]), (38, []), (39, [])], []⟩)]
abbrev S1 (x1 x2 x3 x4 : Int) (x5 : L5) (x6 : L3) (x7 : L5) : St := mkSt [(0, .agg [si x1, si x2, si x3, .sl 3, .sl 4, .sl 5]), (1, .c (si x4))] [(3, .row .ro q5 x5), (4, .row .ro q3 x6), (5, .row .ro q5 x7)]
abbrev S2 (x1 x2 x3 x4 x5 x6 x7 : Int) (x8 : L5) (x9 : L3) (x10 x11 : L5) (x12 : L3) (x13 x14 : L5) (x15 : L3) : St := mkSt [(1, .c (si x1)), (2, .c (.ptr 9002 0 0)), (4, .c (.ptr 9004 0 0)), (5, .c (.ptr 9005 0 0))] [(9002, .box [si x2, si x3, si x4, .sl 3, .sl 4, .sl 5]), (9004, .box [si x5, si x6, si x7, .sl 1039004, .sl 1049004, .sl 1059004]), (9005, .box [si x2, si x1, si x4, .sl 1039005, .sl 1049005, .sl 5]), (3, .row .ro q5 x8), (4, .row .ro q3 x9), (5, .row .ro q5 x10), (1039004, .row .own q5 x11), (1049004, .row .own q3 x12), (1059004, .row .own q5 x13), (1039005, .row .own q5 x14), (1049005, .row .own q3 x15)]
abbrev S3 (x1 x2 x3 x4 x5 x6 x7 x8 x9 : Int) (x10 : L5) (x11 : L3) (x12 x13 : L5) (x14 : L3) (x15 x16 : L5) (x17 : L3) : St := mkSt [(1, .c (si x1)), (2, .c (.ptr 9002 0 0)), (4, .c (.ptr 9004 0 0)), (5, .c (.ptr 9005 0 0)), (19, .c (.sl 3)), (20, .c (si x2)), (21, .c (si x3))] [(9002, .box [si x4, si x5, si x6, .sl 3, .sl 4, .sl 5]), (9004, .box [si x7, si x8, si x9, .sl 1039004, .sl 1049004, .sl 1059004]), (9005, .box [si x4, si x1, si x6, .sl 1039005, .sl 1049005, .sl 5]), (3, .row .ro q5 x10), (4, .row .ro q3 x11), (5, .row .ro q5 x12), (1039004, .row .own q5 x13), (1049004, .row .own q3 x14), (1059004, .row .own q5 x15), (1039005, .row .own q5 x16), (1049005, .row .own q3 x17)]
abbrev S4 (x1 x2 x3 x4 x5 x6 x7 x8 : Int) (x9 : L3) (x10 : L5) (x11 : L3) (x12 x13 : L5) (x14 : L3) (x15 : L5) : St := mkSt [(1, .c (si x1)), (4, .c (.ptr 9004 0 0)), (5, .c (.ptr 9005 0 0)), (37, .c (.sl 4)), (38, .c (si x2)), (39, .c (si x3))] [(9004, .box [si x4, si x5, si x6, .sl 1039004, .sl 1049004, .sl 1059004]), (9005, .box [si x7, si x1, si x8, .sl 1039005, .sl 1049005, .sl 5]), (4, .row .ro q3 x9), (1039004, .row .own q5 x10), (1049004, .row .own q3 x11), (1059004, .row .own q5 x12), (1039005, .row .own q5 x13), (1049005, .row .own q3 x14), (5, .row .ro q5 x15)]
abbrev S5 (x1 x2 x3 x4 x5 x6 : Int) (x7 : L5) (x8 : L3) (x9 x10 : L5) (x11 : L3) (x12 : L5) : St := mkSt [(4, .c (.ptr 9004 0 0)), (5, .c (.ptr 9005 0 0))] [(9004, .box [si x1, si x2, si x3, .sl 1039004, .sl 1049004, .sl 1059004]), (9005, .box [si x4, si x5, si x6, .sl 1039005, .sl 1049005, .sl 5]), (1039004, .row .own q5 x7), (1049004, .row .own q3 x8), (1059004, .row .own q5 x9), (1039005, .row .own q5 x10), (1049005, .row .own q3 x11), (5, .row .ro q5 x12)]
abbrev S6 (x1 x2 x3 : Int) (x4 : L5) (x5 : L3) (x6 : L5) : St := mkSt [(4, .c (.ptr 9004 0 0))] [(9004, .box [si x1, si x2, si x3, .sl 1039004, .sl 1049004, .sl 5]), (1039004, .row .own q5 x4), (1049004, .row .own q3 x5), (5, .row .ro q5 x6)]
noncomputable abbrev V (g : Cs R) (k : Nat) (K : Kont R) (b : List Bool) (p : Nat) (st : St) : Option R := ev E (G g) k H (nodeAt (bodyOf Tryz.f96) b) p st K
noncomputable abbrev U (g : Cs R) (k : Nat) (n : Nat) (b : List Bool) : Nat → St → (St → Option R) → Kont R → Option R := evPre E (G g) k H n (nodeAt (bodyOf Tryz.f96) b)
noncomputable abbrev W (g : Cs R) (k : Nat) (b : List Bool) (p : Nat) : St → Kont R → Option R := ev E (G g) k H (nodeAt (bodyOf Tryz.f96) b) p
variable (g : Cs R) (k : Nat)
def s1 (g : Cs R) (k : Nat) (A B C a1 : Int) (D : L5) (F : L3) (J : L5) (j : Int → Int → Int → (L5) → (L3) → (L5) → (L5) → (L3) → Option R) : Option R :=
 j 0 0 0 [] [] [] [] []
theorem s1_ev (A C B a1 : Int) (D : L5) (F : L3) (J : L5) (X : St → Option R) (K : Kont R) : U g k 2 [] 1 (S1 A C B a1 D F J) X K = s1 g k A C B a1 D F J (fun z0 z1 z2 z3 z4 z5 z6 z7 => X (S2 a1 A C B z0 z1 z2 D F J z3 z4 z5 z6 z7)) := by kernel_rfl
def s2 (g : Cs R) (k : Nat) (a1 B C D z0 z1 z2 : Int) (A : L5) (F : L3) (J z3 : L5) (z4 : L3) (z5 z6 : L5) (z7 : L3) (j : Int → Int → Option R) : Option R :=
 j (A.length : Int) 0
theorem s2_ev (a1 A C B z0 z1 z2 : Int) (D : L5) (F : L3) (J z3 : L5) (z4 : L3) (z5 z6 : L5) (z7 : L3) (X : St → Option R) (K : Kont R) : U g k 1 [true, true, false] 14 (S2 a1 A C B z0 z1 z2 D F J z3 z4 z5 z6 z7) X K = s2 g k a1 A C B z0 z1 z2 D F J z3 z4 z5 z6 z7 (fun z8 z9 => X (S3 a1 z8 z9 A C B z0 z1 z2 D F J z3 z4 z5 z6 z7)) := by kernel_rfl
def s3 (g : Cs R) (k : Nat) (a1 z8 z10 B C D z0 z1 z2 : Int) (A : L5) (F : L3) (J z3 : L5) (z4 : L3) (z5 z11 : L5) (z7 : L3) (j : Int → (L5) → Option R) (x0 : Option R) : Option R :=
 cond (decide (z10 < z8)) (cond (decide (0 ≤ z10) && decide (z10 < (A.length : Int))) (let y1 := (A.getD z10.toNat n5).2.2.2.1; cond (decide (a1 < y1)) (let y2 := ([((A.getD z10.toNat n5).1, (A.getD z10.toNat n5).2.1, (A.getD z10.toNat n5).2.2.1, (A.getD z10.toNat n5).2.2.2.1, (A.getD z10.toNat n5).2.2.2.2)] : L5); cond (Nat.ble (z11.length + y2.length) lim) (j (IntKind.wrap .i64 (z10 + 1)) (z11 ++ y2)) none) (j (IntKind.wrap .i64 (z10 + 1)) z11)) none) (x0)
theorem s3_ev (a1 z8 z10 A C B z0 z1 z2 : Int) (D : L5) (F : L3) (J z3 : L5) (z4 : L3) (z5 z11 : L5) (z7 : L3) (K : Kont R) : V g k K [true, true, false, true, false, false] 116 (S3 a1 z8 z10 A C B z0 z1 z2 D F J z3 z4 z5 z11 z7) = s3 g k a1 z8 z10 A C B z0 z1 z2 D F J z3 z4 z5 z11 z7 (fun z12 z13 => K .normal (S3 a1 z8 z12 A C B z0 z1 z2 D F J z3 z4 z5 z13 z7)) (K (.exit 0) (S2 a1 A C B z0 z1 z2 D F J z3 z4 z5 z11 z7)) := by kernel_rfl
def l4r (g : Cs R) (k : Nat) (a1 z8 A B C z0 z1 z2 : Int) (D : L5) (F : L3) (J z3 : L5) (z4 : L3) (z5 : L5) (z7 : L3) (x0 : (L5) → Option R) : Nat → Int → (L5) → Option R
 | 0, _, _ => none
 | n + 1, z10, z11 => s3 g k a1 z8 z10 A B C z0 z1 z2 D F J z3 z4 z5 z11 z7 (fun z12 z13 => l4r g k a1 z8 A B C z0 z1 z2 D F J z3 z4 z5 z7 x0 n z12 z13) (x0 z11)
def l4 (g : Cs R) (k : Nat) (a1 z8 z9 A B C z0 z1 z2 : Int) (D : L5) (F : L3) (J z3 : L5) (z4 : L3) (z5 z6 : L5) (z7 : L3) (x0 : (L5) → Option R) : Option R := l4r g k a1 z8 A B C z0 z1 z2 D F J z3 z4 z5 z7 x0 k z9 z6
theorem l4r_ev (a1 z8 A C B z0 z1 z2 : Int) (D : L5) (F : L3) (J z3 : L5) (z4 : L3) (z5 : L5) (z7 : L3) (K : Kont R) : ∀ (n : Nat) (z10 : Int) (z11 : L5), evLoop (W g k [true, true, false, true, false, false] 116) (atMeet H 58) K n (S3 a1 z8 z10 A C B z0 z1 z2 D F J z3 z4 z5 z11 z7) = l4r g k a1 z8 A C B z0 z1 z2 D F J z3 z4 z5 z7 (fun z14 => K (.exit 0) (S2 a1 A C B z0 z1 z2 D F J z3 z4 z5 z14 z7)) n z10 z11 := by
 intro n
 induction n with
 | zero => intros; rfl
 | succ n ih =>
  intro z10 z11
  exact Eq.trans (by kernel_rfl) ((s3_ev g k a1 z8 z10 A C B z0 z1 z2 D F J z3 z4 z5 z11 z7 (loopK (W g k [true, true, false, true, false, false] 116) (atMeet H 58) K n)).trans (Eq.trans (by kernel_rfl) (congrArg (fun f_ => s3 g k a1 z8 z10 A C B z0 z1 z2 D F J z3 z4 z5 z11 z7 f_ (K (.exit 0) (S2 a1 A C B z0 z1 z2 D F J z3 z4 z5 z11 z7))) (funext fun (z12 : Int) => (funext fun (z13 : L5) => (ih z12 z13))))))
theorem l4_ev (a1 z8 z9 A C B z0 z1 z2 : Int) (D : L5) (F : L3) (J z3 : L5) (z4 : L3) (z5 z6 : L5) (z7 : L3) (K : Kont R) : V g k K [true, true, false, true, false] 58 (S3 a1 z8 z9 A C B z0 z1 z2 D F J z3 z4 z5 z6 z7) = l4 g k a1 z8 z9 A C B z0 z1 z2 D F J z3 z4 z5 z6 z7 (fun z14 => K (.exit 0) (S2 a1 A C B z0 z1 z2 D F J z3 z4 z5 z14 z7)) :=
 Eq.trans (by kernel_rfl) (l4r_ev g k a1 z8 A C B z0 z1 z2 D F J z3 z4 z5 z7 K k z9 z6)
def b5 (g : Cs R) (k : Nat) (a1 z8 z9 A B C z0 z1 z2 : Int) (D : L5) (F : L3) (J z3 : L5) (z4 : L3) (z5 z6 : L5) (z7 : L3) (j : (L5) → Option R) : Option R :=
 l4 g k a1 z8 z9 A B C z0 z1 z2 D F J z3 z4 z5 z6 z7 (fun z14 => j z14)
theorem b5_ev (a1 z8 z9 A C B z0 z1 z2 : Int) (D : L5) (F : L3) (J z3 : L5) (z4 : L3) (z5 z6 : L5) (z7 : L3) (K : Kont R) : V g k K [true, true, false, true] 29 (S3 a1 z8 z9 A C B z0 z1 z2 D F J z3 z4 z5 z6 z7) = b5 g k a1 z8 z9 A C B z0 z1 z2 D F J z3 z4 z5 z6 z7 (fun z15 => K .normal (S2 a1 A C B z0 z1 z2 D F J z3 z4 z5 z15 z7)) :=
 Eq.trans (by kernel_rfl) ((l4_ev g k a1 z8 z9 A C B z0 z1 z2 D F J z3 z4 z5 z6 z7 (blockK 0 (fun st => K .normal (atMeet H 29 st)) K)).trans (by kernel_rfl))
def c6 (g : Cs R) (k : Nat) (a1 A B C z0 z1 z2 : Int) (D : L5) (F : L3) (J z3 : L5) (z4 : L3) (z5 z6 : L5) (z7 : L3) (j : (L5) → Option R) : Option R :=
 s2 g k a1 A B C z0 z1 z2 D F J z3 z4 z5 z6 z7 (fun z8 z9 => b5 g k a1 z8 z9 A B C z0 z1 z2 D F J z3 z4 z5 z6 z7 (fun z15 => j z15))
theorem c6_ev (a1 A C B z0 z1 z2 : Int) (D : L5) (F : L3) (J z3 : L5) (z4 : L3) (z5 z6 : L5) (z7 : L3) (K : Kont R) : V g k K [true, true, false] 14 (S2 a1 A C B z0 z1 z2 D F J z3 z4 z5 z6 z7) = c6 g k a1 A C B z0 z1 z2 D F J z3 z4 z5 z6 z7 (fun z16 => K .normal (S2 a1 A C B z0 z1 z2 D F J z3 z4 z5 z16 z7)) :=
 (Eq.trans (by kernel_rfl) (s2_ev g k a1 A C B z0 z1 z2 D F J z3 z4 z5 z6 z7 (V g k K [true, true, false, true] 29) K)).trans (congrArg (fun f_ => s2 g k a1 A C B z0 z1 z2 D F J z3 z4 z5 z6 z7 f_) (funext fun (z8 : Int) => (funext fun (z9 : Int) => (b5_ev g k a1 z8 z9 A C B z0 z1 z2 D F J z3 z4 z5 z6 z7 K))))
def s7 (g : Cs R) (k : Nat) (a1 B C D z0 z1 z2 : Int) (F : L5) (A : L3) (J z3 : L5) (z4 : L3) (z5 z16 : L5) (z7 : L3) (j : Int → Int → Option R) : Option R :=
 j (A.length : Int) 0
theorem s7_ev (a1 A F B z0 z1 z2 : Int) (J : L5) (C : L3) (D z3 : L5) (z4 : L3) (z5 z16 : L5) (z7 : L3) (X : St → Option R) (K : Kont R) : U g k 1 [true, true, true, false] 30 (S2 a1 A F B z0 z1 z2 J C D z3 z4 z5 z16 z7) X K = s7 g k a1 A F B z0 z1 z2 J C D z3 z4 z5 z16 z7 (fun z17 z18 => X (S4 a1 z17 z18 z0 z1 z2 A B C z3 z4 z5 z16 z7 D)) := by kernel_rfl
def s8 (g : Cs R) (k : Nat) (a1 z17 z19 z0 z1 z2 B C : Int) (A : L3) (z3 : L5) (z4 : L3) (z5 z16 : L5) (z20 : L3) (D : L5) (j : Int → (L3) → Option R) (x2 : Option R) : Option R :=
 cond (decide (z19 < z17)) (cond (decide (0 ≤ z19) && decide (z19 < (A.length : Int))) (let y1 := (A.getD z19.toNat n3).2.2; cond (decide (a1 < y1)) (let y2 := ([((A.getD z19.toNat n3).1, (A.getD z19.toNat n3).2.1, (A.getD z19.toNat n3).2.2)] : L3); cond (Nat.ble (z20.length + y2.length) lim) (j (IntKind.wrap .i64 (z19 + 1)) (z20 ++ y2)) none) (j (IntKind.wrap .i64 (z19 + 1)) z20)) none) (x2)
theorem s8_ev (a1 z17 z19 z0 z1 z2 A B : Int) (D : L3) (z3 : L5) (z4 : L3) (z5 z16 : L5) (z20 : L3) (C : L5) (K : Kont R) : V g k K [true, true, true, false, true, false, false] 244 (S4 a1 z17 z19 z0 z1 z2 A B D z3 z4 z5 z16 z20 C) = s8 g k a1 z17 z19 z0 z1 z2 A B D z3 z4 z5 z16 z20 C (fun z21 z22 => K .normal (S4 a1 z17 z21 z0 z1 z2 A B D z3 z4 z5 z16 z22 C)) (K (.exit 2) (S5 z0 z1 z2 A a1 B z3 z4 z5 z16 z20 C)) := by kernel_rfl
def l9r (g : Cs R) (k : Nat) (a1 z17 z0 z1 z2 A B : Int) (C : L3) (z3 : L5) (z4 : L3) (z5 z16 D : L5) (x2 : (L3) → Option R) : Nat → Int → (L3) → Option R
 | 0, _, _ => none
 | n + 1, z19, z20 => s8 g k a1 z17 z19 z0 z1 z2 A B C z3 z4 z5 z16 z20 D (fun z21 z22 => l9r g k a1 z17 z0 z1 z2 A B C z3 z4 z5 z16 D x2 n z21 z22) (x2 z20)
def l9 (g : Cs R) (k : Nat) (a1 z17 z18 z0 z1 z2 A B : Int) (C : L3) (z3 : L5) (z4 : L3) (z5 z16 : L5) (z7 : L3) (D : L5) (x2 : (L3) → Option R) : Option R := l9r g k a1 z17 z0 z1 z2 A B C z3 z4 z5 z16 D x2 k z18 z7
theorem l9r_ev (a1 z17 z0 z1 z2 A B : Int) (D : L3) (z3 : L5) (z4 : L3) (z5 z16 C : L5) (K : Kont R) : ∀ (n : Nat) (z19 : Int) (z20 : L3), evLoop (W g k [true, true, true, false, true, false, false] 244) (atMeet H 122) K n (S4 a1 z17 z19 z0 z1 z2 A B D z3 z4 z5 z16 z20 C) = l9r g k a1 z17 z0 z1 z2 A B D z3 z4 z5 z16 C (fun z23 => K (.exit 2) (S5 z0 z1 z2 A a1 B z3 z4 z5 z16 z23 C)) n z19 z20 := by
 intro n
 induction n with
 | zero => intros; rfl
 | succ n ih =>
  intro z19 z20
  exact Eq.trans (by kernel_rfl) ((s8_ev g k a1 z17 z19 z0 z1 z2 A B D z3 z4 z5 z16 z20 C (loopK (W g k [true, true, true, false, true, false, false] 244) (atMeet H 122) K n)).trans (Eq.trans (by kernel_rfl) (congrArg (fun f_ => s8 g k a1 z17 z19 z0 z1 z2 A B D z3 z4 z5 z16 z20 C f_ (K (.exit 2) (S5 z0 z1 z2 A a1 B z3 z4 z5 z16 z20 C))) (funext fun (z21 : Int) => (funext fun (z22 : L3) => (ih z21 z22))))))
theorem l9_ev (a1 z17 z18 z0 z1 z2 A B : Int) (D : L3) (z3 : L5) (z4 : L3) (z5 z16 : L5) (z7 : L3) (C : L5) (K : Kont R) : V g k K [true, true, true, false, true, false] 122 (S4 a1 z17 z18 z0 z1 z2 A B D z3 z4 z5 z16 z7 C) = l9 g k a1 z17 z18 z0 z1 z2 A B D z3 z4 z5 z16 z7 C (fun z23 => K (.exit 2) (S5 z0 z1 z2 A a1 B z3 z4 z5 z16 z23 C)) :=
 Eq.trans (by kernel_rfl) (l9r_ev g k a1 z17 z0 z1 z2 A B D z3 z4 z5 z16 C K k z18 z7)
def b10 (g : Cs R) (k : Nat) (a1 z17 z18 z0 z1 z2 A B : Int) (C : L3) (z3 : L5) (z4 : L3) (z5 z16 : L5) (z7 : L3) (D : L5) (j : (L3) → Option R) : Option R :=
 l9 g k a1 z17 z18 z0 z1 z2 A B C z3 z4 z5 z16 z7 D (fun z23 => j z23)
theorem b10_ev (a1 z17 z18 z0 z1 z2 A B : Int) (D : L3) (z3 : L5) (z4 : L3) (z5 z16 : L5) (z7 : L3) (C : L5) (K : Kont R) : V g k K [true, true, true, false, true] 61 (S4 a1 z17 z18 z0 z1 z2 A B D z3 z4 z5 z16 z7 C) = b10 g k a1 z17 z18 z0 z1 z2 A B D z3 z4 z5 z16 z7 C (fun z24 => K .normal (S5 z0 z1 z2 A a1 B z3 z4 z5 z16 z24 C)) :=
 Eq.trans (by kernel_rfl) ((l9_ev g k a1 z17 z18 z0 z1 z2 A B D z3 z4 z5 z16 z7 C (blockK 2 (fun st => K .normal (atMeet H 61 st)) K)).trans (by kernel_rfl))
def c11 (g : Cs R) (k : Nat) (a1 A F B z0 z1 z2 : Int) (J : L5) (C : L3) (D z3 : L5) (z4 : L3) (z5 z16 : L5) (z7 : L3) (j : (L3) → Option R) : Option R :=
 s7 g k a1 A F B z0 z1 z2 J C D z3 z4 z5 z16 z7 (fun z17 z18 => b10 g k a1 z17 z18 z0 z1 z2 A B C z3 z4 z5 z16 z7 D (fun z24 => j z24))
theorem c11_ev (a1 A F B z0 z1 z2 : Int) (J : L5) (D : L3) (C z3 : L5) (z4 : L3) (z5 z16 : L5) (z7 : L3) (K : Kont R) : V g k K [true, true, true, false] 30 (S2 a1 A F B z0 z1 z2 J D C z3 z4 z5 z16 z7) = c11 g k a1 A F B z0 z1 z2 J D C z3 z4 z5 z16 z7 (fun z25 => K .normal (S5 z0 z1 z2 A a1 B z3 z4 z5 z16 z25 C)) :=
 (Eq.trans (by kernel_rfl) (s7_ev g k a1 A F B z0 z1 z2 J D C z3 z4 z5 z16 z7 (V g k K [true, true, true, false, true] 61) K)).trans (congrArg (fun f_ => s7 g k a1 A F B z0 z1 z2 J D C z3 z4 z5 z16 z7 f_) (funext fun (z17 : Int) => (funext fun (z18 : Int) => (b10_ev g k a1 z17 z18 z0 z1 z2 A B D z3 z4 z5 z16 z7 C K))))
def s12 (g : Cs R) (k : Nat) (z0 z1 z2 A a1 B : Int) (z3 : L5) (z4 : L3) (z5 z16 : L5) (z25 : L3) (C : L5) (q : Option R) : Option R :=
 q
theorem s12_ev (z0 z1 z2 A a1 B : Int) (z3 : L5) (z4 : L3) (z5 z16 : L5) (z25 : L3) (C : L5) (K : Kont R) : V g k K [true, true, true, true] 31 (S5 z0 z1 z2 A a1 B z3 z4 z5 z16 z25 C) = s12 g k z0 z1 z2 A a1 B z3 z4 z5 z16 z25 C (K .ret (S6 A a1 B z16 z25 C)) := by kernel_rfl
def c13 (g : Cs R) (k : Nat) (a1 A D B z0 z1 z2 : Int) (F : L5) (J : L3) (C z3 : L5) (z4 : L3) (z5 z16 : L5) (z7 : L3) (q : (L3) → Option R) : Option R :=
 c11 g k a1 A D B z0 z1 z2 F J C z3 z4 z5 z16 z7 (fun z25 => s12 g k z0 z1 z2 A a1 B z3 z4 z5 z16 z25 C (q z25))
theorem c13_ev (a1 A D B z0 z1 z2 : Int) (F : L5) (J : L3) (C z3 : L5) (z4 : L3) (z5 z16 : L5) (z7 : L3) (K : Kont R) : V g k K [true, true, true] 15 (S2 a1 A D B z0 z1 z2 F J C z3 z4 z5 z16 z7) = c13 g k a1 A D B z0 z1 z2 F J C z3 z4 z5 z16 z7 (fun z26 => K .ret (S6 A a1 B z16 z26 C)) :=
 (Eq.trans (by kernel_rfl) (c11_ev g k a1 A D B z0 z1 z2 F J C z3 z4 z5 z16 z7 (seqK (V g k K [true, true, true, true] 31) K))).trans (congrArg (fun f_ => c11 g k a1 A D B z0 z1 z2 F J C z3 z4 z5 z16 z7 f_) (funext fun (z25 : L3) => (seqN (f := (V g k K [true, true, true, true] 31)) (K := K) (s12_ev g k z0 z1 z2 A a1 B z3 z4 z5 z16 z25 C K))))
def c14 (g : Cs R) (k : Nat) (a1 A B C z0 z1 z2 : Int) (D : L5) (F : L3) (J z3 : L5) (z4 : L3) (z5 z6 : L5) (z7 : L3) (q : (L5) → (L3) → Option R) : Option R :=
 c6 g k a1 A B C z0 z1 z2 D F J z3 z4 z5 z6 z7 (fun z16 => c13 g k a1 A B C z0 z1 z2 D F J z3 z4 z5 z16 z7 (fun z26 => q z16 z26))
theorem c14_ev (a1 A D B z0 z1 z2 : Int) (F : L5) (J : L3) (C z3 : L5) (z4 : L3) (z5 z6 : L5) (z7 : L3) (K : Kont R) : V g k K [true, true] 7 (S2 a1 A D B z0 z1 z2 F J C z3 z4 z5 z6 z7) = c14 g k a1 A D B z0 z1 z2 F J C z3 z4 z5 z6 z7 (fun z27 z28 => K .ret (S6 A a1 B z27 z28 C)) :=
 (Eq.trans (by kernel_rfl) (c6_ev g k a1 A D B z0 z1 z2 F J C z3 z4 z5 z6 z7 (seqK (V g k K [true, true, true] 15) K))).trans (congrArg (fun f_ => c6 g k a1 A D B z0 z1 z2 F J C z3 z4 z5 z6 z7 f_) (funext fun (z16 : L5) => (seqN (f := (V g k K [true, true, true] 15)) (K := K) (c13_ev g k a1 A D B z0 z1 z2 F J C z3 z4 z5 z16 z7 K))))
def c15 (g : Cs R) (k : Nat) (A B C a1 : Int) (D : L5) (F : L3) (J : L5) (q : (L5) → (L3) → Option R) : Option R :=
 s1 g k A B C a1 D F J (fun z0 z1 z2 z3 z4 z5 z6 z7 => c14 g k a1 A B C z0 z1 z2 D F J z3 z4 z5 z6 z7 (fun z27 z28 => q z27 z28))
theorem c15_ev (A D B a1 : Int) (F : L5) (J : L3) (C : L5) (K : Kont R) : V g k K [] 1 (S1 A D B a1 F J C) = c15 g k A D B a1 F J C (fun z29 z30 => K .ret (S6 A a1 B z29 z30 C)) :=
 (Eq.trans (by kernel_rfl) (s1_ev g k A D B a1 F J C (V g k K [true, true] 7) K)).trans (congrArg (fun f_ => s1 g k A D B a1 F J C f_) (funext fun (z0 : Int) => (funext fun (z1 : Int) => (funext fun (z2 : Int) => (funext fun (z3 : L5) => (funext fun (z4 : L3) => (funext fun (z5 : L5) => (funext fun (z6 : L5) => (funext fun (z7 : L3) => (c14_ev g k a1 A D B z0 z1 z2 F J C z3 z4 z5 z6 z7 K))))))))))
def b (g : Cs R) (k : Nat) (A D B : Int) (F : L5) (J : L3) (C : L5) (a1 : Int) (K : Int → Int → Int → (L5) → (L3) → (L5) → Option R) : Option R :=
 c15 g k A D B a1 F J C (fun z29 z30 => K A a1 B z29 z30 C)
theorem evs (A B C : Int) (D : L5) (F : L3) (J : L5) (a1 : Int) (KF : Ret → Option R) : evFunc E (G g) k H [] false Tryz.f96 [.val true [ri A, ri B, ri C, .row .ro q5 D, .row .ro q3 F, .row .ro q5 J], .val false [ri a1]] KF = b g k A B C D F J a1 (fun r1 r2 r3 r4 r5 r6 => KF ⟨[.val true [ri r1, ri r2, ri r3, .row .own q5 r4, .row .own q3 r5, .row .ro q5 r6]], []⟩) :=
 Eq.trans (by kernel_rfl) ((c15_ev g k A B C a1 D F J (fin E.P false Tryz.f96 [] KF)).trans (by kernel_rfl))
end impl_advance
namespace impl_advance
def g (k : Nat) : Cs R := ⟨()⟩
def c (k : Nat) : T R := b (g k) k
end impl_advance
/-! ### impl_doNum: function 60 -/
namespace impl_doNum
abbrev T (R : Type) : Type := Int → Int → Int → (L5) → (L3) → (L5) → ByteArray → Int → (Int → Int → Int → (L5) → (L3) → (L5) → Bool → Option R) → Option R
def con (f : T R) : Con R := ⟨[], fun args K => match args with
 | [.val true [.s (.int .i64 A), .s (.int .i64 B), .s (.int .i64 C), D, F, J], .val false [.s (.string a1)], .val false [.s (.int .i64 a2)]] => withRow q5 D fun M => withRow q3 F fun N => withRow q5 J fun O => f A B C M N O a1 a2 (fun r1 r2 r3 r4 r5 r6 r7 => K ⟨[.val true [ri r1, ri r2, ri r3, .row .ro q5 r4, .row .ro q3 r5, .row .ro q5 r6], .val false [.s (.bool r7)]], []⟩)
 | _ => none⟩
structure Cs (R : Type) where
  none_ : Unit := ()
  f96 : impl_advance.T R
def G (g : Cs R) : Cons R := [(96, impl_advance.con g.f96)]
def H : List (Nat × Meet) := []
variable (g : Cs R) (k : Nat)
def b (g : Cs R) (k : Nat) (B A C : Int) (D : L5) (F : L3) (J : L5) (a1 : ByteArray) (a2 : Int) (K : Int → Int → Int → (L5) → (L3) → (L5) → Bool → Option R) : Option R :=
 let y1 := (decide (a1 = (ByteArray.mk #[116, 105, 109, 101]))); cond y1 (cond (decide (A < a2)) (g.f96 B A C D F J a2 (fun r2 r3 r4 r5 r6 r7 => K r2 r3 r4 r5 r6 r7 true)) (let y8 := (decide (a1 = (ByteArray.mk #[110, 101, 120, 116]))); cond y8 (cond (decide (C < a2)) (K B A a2 D F J true) (K B A C D F J false)) (K B A C D F J false))) (let y9 := (decide (a1 = (ByteArray.mk #[110, 101, 120, 116]))); cond y9 (cond (decide (C < a2)) (K B A a2 D F J true) (K B A C D F J false)) (K B A C D F J false))
theorem evs (A B C : Int) (D : L5) (F : L3) (J : L5) (a1 : ByteArray) (a2 : Int) (KF : Ret → Option R) : evFunc E (G g) k H [] true Tryz.f60 [.val true [ri A, ri B, ri C, .row .ro q5 D, .row .ro q3 F, .row .ro q5 J], .val false [.s (.string a1)], .val false [ri a2]] KF = b g k A B C D F J a1 a2 (fun r1 r2 r3 r4 r5 r6 r7 => KF ⟨[.val true [ri r1, ri r2, ri r3, .row .ro q5 r4, .row .ro q3 r5, .row .ro q5 r6], .val false [.s (.bool r7)]], []⟩) :=
 by kernel_rfl
end impl_doNum
namespace impl_doNum
def g (k : Nat) : Cs R := ⟨(), impl_advance.c k⟩
def c (k : Nat) : T R := b (g k) k
end impl_doNum
/-! ### impl_naturals: function 63 -/
namespace impl_naturals
abbrev T (R : Type) : Type := List ByteArray → (List Int → Bool → Option R) → Option R
def con (f : T R) : Con R := ⟨[], fun args K => match args with
 | [.val false [pa0]] => withRow [.str] pa0 fun a0 => f a0 (fun r1 r2 => K ⟨[.val false [.row .own [.int .i64] r1], .val false [.s (.bool r2)]], []⟩)
 | _ => none⟩
structure Cs (R : Type) where
  none_ : Unit := ()
  f59 : impl_natural.T R
def G (g : Cs R) : Cons R := [(59, impl_natural.con g.f59)]
def H : List (Nat × Meet) := [(6, ⟨[(0, [(0, [.str])]), (4, [(0, [.int .i64])])], []⟩), (28, ⟨[(4, [(0, [.int .i64])]), (9, [(0, [.str])]), (10, []), (11, [])], []⟩), (31, ⟨[(2, [(0, [.int .i64])]), (3, [])], []⟩), (58, ⟨[(4, [(0, [.int .i64])]), (9, [(0, [.str])]), (10, []), (11, [])], []⟩), (933, ⟨[(4, [(0, [.int .i64])])], []⟩), (935, ⟨[(4, [(0, [.int .i64])]), (9, [(0, [.str])]), (10, []), (11, [])], []⟩), (119605, ⟨[(2, [(0, [.int .i64])]), (3, [])], []⟩)]
abbrev S1 (x1 : List ByteArray) (x2 : List Int) : St := mkSt [(0, .c (.sl 0)), (4, .c (.sl 9004))] [(0, .row .ro [.str] x1), (9004, .row .own [.int .i64] x2)]
abbrev S2 (x1 x2 : Int) (x3 : List Int) (x4 : List ByteArray) : St := mkSt [(4, .c (.sl 9004)), (9, .c (.sl 0)), (10, .c (si x1)), (11, .c (si x2))] [(9004, .row .own [.int .i64] x3), (0, .row .ro [.str] x4)]
abbrev S3 (x1 : List Int) : St := mkSt [(4, .c (.sl 9004))] [(9004, .row .own [.int .i64] x1)]
abbrev S4 (x1 : Bool) (x2 : List Int) : St := mkSt [(2, .c (.sl 9002)), (3, .c (.s (.bool x1)))] [(9002, .row .own [.int .i64] x2)]
noncomputable abbrev V (g : Cs R) (k : Nat) (K : Kont R) (b : List Bool) (p : Nat) (st : St) : Option R := ev E (G g) k H (nodeAt (bodyOf Tryz.f63) b) p st K
noncomputable abbrev U (g : Cs R) (k : Nat) (n : Nat) (b : List Bool) : Nat → St → (St → Option R) → Kont R → Option R := evPre E (G g) k H n (nodeAt (bodyOf Tryz.f63) b)
noncomputable abbrev W (g : Cs R) (k : Nat) (b : List Bool) (p : Nat) : St → Kont R → Option R := ev E (G g) k H (nodeAt (bodyOf Tryz.f63) b) p
variable (g : Cs R) (k : Nat)
def s1 (g : Cs R) (k : Nat) (a0 : List ByteArray) (j : List Int → Option R) : Option R :=
 j []
theorem s1_ev (a0 : List ByteArray) (X : St → Option R) (K : Kont R) : U g k 2 [] 1 (mkSt [(0, .c (.sl 0))] [(0, .row .ro [.str] a0)]) X K = s1 g k a0 (fun z0 => X (S1 a0 z0)) := by kernel_rfl
def s2 (g : Cs R) (k : Nat) (a0 : List ByteArray) (z0 : List Int) (j : Int → Int → Option R) : Option R :=
 j (a0.length : Int) 0
theorem s2_ev (a0 : List ByteArray) (z0 : List Int) (X : St → Option R) (K : Kont R) : U g k 1 [true, true, false] 14 (S1 a0 z0) X K = s2 g k a0 z0 (fun z1 z2 => X (S2 z1 z2 z0 a0)) := by kernel_rfl
def s3 (g : Cs R) (k : Nat) (z1 z3 : Int) (z4 : List Int) (a0 : List ByteArray) (j : Int → List Int → Option R) (x0 : Option R) (q : Bool → List Int → Option R) : Option R :=
 cond (decide (z3 < z1)) (cond (decide (0 ≤ z3) && decide (z3 < (a0.length : Int))) (g.f59 (a0.getD z3.toNat ByteArray.empty) (fun r1 r2 => cond (!r2) (q false []) (cond (Nat.ble (z4.length + ([r1] : List Int).length) lim) (j (IntKind.wrap .i64 (z3 + 1)) (z4 ++ ([r1] : List Int))) none))) none) (x0)
theorem s3_ev (z1 z3 : Int) (z4 : List Int) (a0 : List ByteArray) (K : Kont R) : V g k K [true, true, false, true, false, false] 116 (S2 z1 z3 z4 a0) = s3 g k z1 z3 z4 a0 (fun z5 z6 => K .normal (S2 z1 z5 z6 a0)) (K (.exit 0) (S3 z4)) (fun z7 z8 => K .ret (S4 z7 z8)) := by kernel_rfl
def l4r (g : Cs R) (k : Nat) (z1 : Int) (a0 : List ByteArray) (x0 : List Int → Option R) (q : Bool → List Int → Option R) : Nat → Int → List Int → Option R
 | 0, _, _ => none
 | n + 1, z3, z4 => s3 g k z1 z3 z4 a0 (fun z5 z6 => l4r g k z1 a0 x0 q n z5 z6) (x0 z4) (fun z7 z8 => q z7 z8)
def l4 (g : Cs R) (k : Nat) (z1 z2 : Int) (z0 : List Int) (a0 : List ByteArray) (x0 : List Int → Option R) (q : Bool → List Int → Option R) : Option R := l4r g k z1 a0 x0 q k z2 z0
theorem l4r_ev (z1 : Int) (a0 : List ByteArray) (K : Kont R) : ∀ (n : Nat) (z3 : Int) (z4 : List Int), evLoop (W g k [true, true, false, true, false, false] 116) (atMeet H 58) K n (S2 z1 z3 z4 a0) = l4r g k z1 a0 (fun z9 => K (.exit 0) (S3 z9)) (fun z10 z11 => K .ret (S4 z10 z11)) n z3 z4 := by
 intro n
 induction n with
 | zero => intros; rfl
 | succ n ih =>
  intro z3 z4
  exact Eq.trans (by kernel_rfl) ((s3_ev g k z1 z3 z4 a0 (loopK (W g k [true, true, false, true, false, false] 116) (atMeet H 58) K n)).trans (Eq.trans (by kernel_rfl) (congrArg (fun f_ => s3 g k z1 z3 z4 a0 f_ (K (.exit 0) (S3 z4)) (fun z7 z8 => K .ret (S4 z7 z8))) (funext fun (z5 : Int) => (funext fun (z6 : List Int) => (ih z5 z6))))))
theorem l4_ev (z1 z2 : Int) (z0 : List Int) (a0 : List ByteArray) (K : Kont R) : V g k K [true, true, false, true, false] 58 (S2 z1 z2 z0 a0) = l4 g k z1 z2 z0 a0 (fun z9 => K (.exit 0) (S3 z9)) (fun z10 z11 => K .ret (S4 z10 z11)) :=
 Eq.trans (by kernel_rfl) (l4r_ev g k z1 a0 K k z2 z0)
def b5 (g : Cs R) (k : Nat) (z1 z2 : Int) (z0 : List Int) (a0 : List ByteArray) (j : List Int → Option R) (q : Bool → List Int → Option R) : Option R :=
 l4 g k z1 z2 z0 a0 (fun z9 => j z9) (fun z10 z11 => q z10 z11)
theorem b5_ev (z1 z2 : Int) (z0 : List Int) (a0 : List ByteArray) (K : Kont R) : V g k K [true, true, false, true] 29 (S2 z1 z2 z0 a0) = b5 g k z1 z2 z0 a0 (fun z12 => K .normal (S3 z12)) (fun z13 z14 => K .ret (S4 z13 z14)) :=
 Eq.trans (by kernel_rfl) ((l4_ev g k z1 z2 z0 a0 (blockK 0 (fun st => K .normal (atMeet H 29 st)) K)).trans (by kernel_rfl))
def c6 (g : Cs R) (k : Nat) (a0 : List ByteArray) (z0 : List Int) (j : List Int → Option R) (q : Bool → List Int → Option R) : Option R :=
 s2 g k a0 z0 (fun z1 z2 => b5 g k z1 z2 z0 a0 (fun z12 => j z12) (fun z13 z14 => q z13 z14))
theorem c6_ev (a0 : List ByteArray) (z0 : List Int) (K : Kont R) : V g k K [true, true, false] 14 (S1 a0 z0) = c6 g k a0 z0 (fun z15 => K .normal (S3 z15)) (fun z16 z17 => K .ret (S4 z16 z17)) :=
 (Eq.trans (by kernel_rfl) (s2_ev g k a0 z0 (V g k K [true, true, false, true] 29) K)).trans (congrArg (fun f_ => s2 g k a0 z0 f_) (funext fun (z1 : Int) => (funext fun (z2 : Int) => (b5_ev g k z1 z2 z0 a0 K))))
def s7 (g : Cs R) (k : Nat) (z15 : List Int) (q : Bool → Option R) : Option R :=
 q true
theorem s7_ev (z15 : List Int) (K : Kont R) : V g k K [true, true, true] 15 (S3 z15) = s7 g k z15 (fun z18 => K .ret (S4 z18 z15)) := by kernel_rfl
def c8 (g : Cs R) (k : Nat) (a0 : List ByteArray) (z0 : List Int) (q : Bool → List Int → Option R) : Option R :=
 c6 g k a0 z0 (fun z15 => s7 g k z15 (fun z18 => q z18 z15)) (fun z16 z17 => q z16 z17)
theorem c8_ev (a0 : List ByteArray) (z0 : List Int) (K : Kont R) : V g k K [true, true] 7 (S1 a0 z0) = c8 g k a0 z0 (fun z19 z20 => K .ret (S4 z19 z20)) :=
 (Eq.trans (by kernel_rfl) (c6_ev g k a0 z0 (seqK (V g k K [true, true, true] 15) K))).trans (congrArg (fun f_ => c6 g k a0 z0 f_ (fun z16 z17 => K .ret (S4 z16 z17))) (funext fun (z15 : List Int) => (seqN (f := (V g k K [true, true, true] 15)) (K := K) (s7_ev g k z15 K))))
def c9 (g : Cs R) (k : Nat) (a0 : List ByteArray) (q : Bool → List Int → Option R) : Option R :=
 s1 g k a0 (fun z0 => c8 g k a0 z0 (fun z19 z20 => q z19 z20))
theorem c9_ev (a0 : List ByteArray) (K : Kont R) : V g k K [] 1 (mkSt [(0, .c (.sl 0))] [(0, .row .ro [.str] a0)]) = c9 g k a0 (fun z21 z22 => K .ret (S4 z21 z22)) :=
 (Eq.trans (by kernel_rfl) (s1_ev g k a0 (V g k K [true, true] 7) K)).trans (congrArg (fun f_ => s1 g k a0 f_) (funext fun (z0 : List Int) => (c8_ev g k a0 z0 K)))
def b (g : Cs R) (k : Nat) (a0 : List ByteArray) (K : List Int → Bool → Option R) : Option R :=
 c9 g k a0 (fun z21 z22 => K z22 z21)
theorem evs (a0 : List ByteArray) (KF : Ret → Option R) : evFunc E (G g) k H [] false Tryz.f63 [.val false [.row .ro [.str] a0]] KF = b g k a0 (fun r1 r2 => KF ⟨[.val false [.row .own [.int .i64] r1], .val false [.s (.bool r2)]], []⟩) :=
 Eq.trans (by kernel_rfl) ((c9_ev g k a0 (fin E.P false Tryz.f63 [] KF)).trans (by kernel_rfl))
end impl_naturals
namespace impl_naturals
def g (k : Nat) : Cs R := ⟨(), impl_natural.c k⟩
def c (k : Nat) : T R := b (g k) k
end impl_naturals
/-! ### strings_SplitN: function 97, of Go's library -/
namespace strings_SplitN
abbrev T (R : Type) : Type := ByteArray → ByteArray → Int → (List ByteArray → Option R) → Option R
def con (f : T R) : Con R := ⟨[], fun args K => match args with
 | [.val false [.s (.string a0)], .val false [.s (.string a1)], .val false [.s (.int .i64 a2)]] => f a0 a1 a2 (fun r1 => K ⟨[.val false [.row .own [.str] r1]], []⟩)
 | _ => none⟩
def c (k : Nat) : T R := fun a0 a1 a2 K => cond ((decide (a0.size < 4294967281) && decide (1 ≤ a1.size)) && (decide (1 ≤ a2) && decide (a2 ≤ 9223372036854775807))) (K (Go.Lib.splitB a1 0 (min a2.toNat (a0.size + 1) - 1) a0)) none
end strings_SplitN
/-! ### strconv_Itoa: function 109, of Go's library -/
namespace strconv_Itoa
abbrev T (R : Type) : Type := Int → (ByteArray → Option R) → Option R
def con (f : T R) : Con R := ⟨[], fun args K => match args with
 | [.val false [.s (.int .i64 a0)]] => f a0 (fun r1 => K ⟨[.val false [.s (.string r1)]], []⟩)
 | _ => none⟩
def c (k : Nat) : T R := fun a0 K => cond (decide (-9223372036854775808 ≤ a0) && decide (a0 ≤ 9223372036854775807)) (K (ByteArray.mk (Go.Lib.itoa a0).toArray)) none
end strconv_Itoa
/-! ### impl_NoteWrite: function 98 -/
namespace impl_NoteWrite
abbrev T (R : Type) : Type := Int → Int → Int → Int → ByteArray → (ByteArray → Option R) → Option R
def con (f : T R) : Con R := ⟨[], fun args K => match args with
 | [.val true [.s (.int .i64 A), .s (.int .i64 B), .s (.int .i64 C), .s (.int .i64 D), .s (.string F)]] => f A B C D F (fun r1 => K ⟨[.val false [.s (.string r1)]], []⟩)
 | _ => none⟩
structure Cs (R : Type) where
  none_ : Unit := ()
  f92 : impl_NoteOk.T R
  f109 : strconv_Itoa.T R
def G (g : Cs R) : Cons R := [(92, impl_NoteOk.con g.f92), (109, strconv_Itoa.con g.f109)]
def H : List (Nat × Meet) := []
variable (g : Cs R) (k : Nat)
def b (g : Cs R) (k : Nat) (B C D F : Int) (A : ByteArray) (K : ByteArray → Option R) : Option R :=
 g.f92 B C D F A (fun r1 => cond (!r1) (K (ByteArray.mk #[])) (g.f109 B (fun r2 => cond (decide (r2.size + (ByteArray.mk #[32]).size ≤ 9223372036854775807)) (g.f109 C (fun r3 => cond (decide ((r2 ++ (ByteArray.mk #[32])).size + r3.size ≤ 9223372036854775807)) (cond (decide (((r2 ++ (ByteArray.mk #[32])) ++ r3).size + (ByteArray.mk #[32]).size ≤ 9223372036854775807)) (let y4 := (((r2 ++ (ByteArray.mk #[32])) ++ r3) ++ (ByteArray.mk #[32])); g.f109 D (fun r5 => cond (decide (y4.size + r5.size ≤ 9223372036854775807)) (cond (decide ((y4 ++ r5).size + (ByteArray.mk #[32]).size ≤ 9223372036854775807)) (g.f109 F (fun r6 => cond (decide (((y4 ++ r5) ++ (ByteArray.mk #[32])).size + r6.size ≤ 9223372036854775807)) (cond (decide ((((y4 ++ r5) ++ (ByteArray.mk #[32])) ++ r6).size + (ByteArray.mk #[32]).size ≤ 9223372036854775807)) (let y7 := ((((y4 ++ r5) ++ (ByteArray.mk #[32])) ++ r6) ++ (ByteArray.mk #[32])); cond (decide (y7.size + A.size ≤ 9223372036854775807)) (K (y7 ++ A)) none) none) none)) none) none)) none) none)) none)))
theorem evs (A B C D : Int) (F : ByteArray) (KF : Ret → Option R) : evFunc E (G g) k H [] false Tryz.f98 [.val true [ri A, ri B, ri C, ri D, .s (.string F)]] KF = b g k A B C D F (fun r1 => KF ⟨[.val false [.s (.string r1)]], []⟩) :=
 by kernel_rfl
end impl_NoteWrite
namespace impl_NoteWrite
def g (k : Nat) : Cs R := ⟨(), impl_NoteOk.c k, strconv_Itoa.c k⟩
def c (k : Nat) : T R := b (g k) k
end impl_NoteWrite
/-! ### impl_NoteRead: function 61 -/
namespace impl_NoteRead
abbrev T (R : Type) : Type := ByteArray → (Int → Int → Int → Int → ByteArray → Bool → Option R) → Option R
def con (f : T R) : Con R := ⟨[], fun args K => match args with
 | [.val false [.s (.string a0)]] => f a0 (fun r1 r2 r3 r4 r5 r6 => K ⟨[.val true [ri r1, ri r2, ri r3, ri r4, .s (.string r5)], .val false [.s (.bool r6)]], []⟩)
 | _ => none⟩
structure Cs (R : Type) where
  none_ : Unit := ()
  f97 : strings_SplitN.T R
  f63 : impl_naturals.T R
  f92 : impl_NoteOk.T R
  f98 : impl_NoteWrite.T R
def G (g : Cs R) : Cons R := [(97, strings_SplitN.con g.f97), (63, impl_naturals.con g.f63), (92, impl_NoteOk.con g.f92), (98, impl_NoteWrite.con g.f98)]
def H : List (Nat × Meet) := []
variable (g : Cs R) (k : Nat)
def b (g : Cs R) (k : Nat) (a0 : ByteArray) (K : Int → Int → Int → Int → ByteArray → Bool → Option R) : Option R :=
 g.f97 a0 (ByteArray.mk #[32]) 5 (fun r1 => cond (!decide ((r1.length : Int) = 5)) (K 0 0 0 0 (ByteArray.mk #[]) false) (cond (decide (0 ≤ (4 : Int)) && decide ((4 : Int) ≤ (r1.length : Int))) (g.f63 (part (cs := [.str]) r1 0 4) (fun r2 r3 => cond (!r3) (K 0 0 0 0 (ByteArray.mk #[]) false) (cond (decide (0 ≤ (0 : Int)) && decide ((0 : Int) < (r2.length : Int))) (cond (decide (0 ≤ (1 : Int)) && decide ((1 : Int) < (r2.length : Int))) (cond (decide (0 ≤ (2 : Int)) && decide ((2 : Int) < (r2.length : Int))) (cond (decide (0 ≤ (3 : Int)) && decide ((3 : Int) < (r2.length : Int))) (cond (decide (0 ≤ (4 : Int)) && decide ((4 : Int) < (r1.length : Int))) (g.f92 (r2.getD 0 (0 : Int)) (r2.getD 1 (0 : Int)) (r2.getD 2 (0 : Int)) (r2.getD 3 (0 : Int)) (r1.getD 4 ByteArray.empty) (fun r4 => cond (!r4) (K 0 0 0 0 (ByteArray.mk #[]) false) (g.f98 (r2.getD 0 (0 : Int)) (r2.getD 1 (0 : Int)) (r2.getD 2 (0 : Int)) (r2.getD 3 (0 : Int)) (r1.getD 4 ByteArray.empty) (fun r5 => cond (!decide (r5 = a0)) (K 0 0 0 0 (ByteArray.mk #[]) false) (K (r2.getD 0 (0 : Int)) (r2.getD 1 (0 : Int)) (r2.getD 2 (0 : Int)) (r2.getD 3 (0 : Int)) (r1.getD 4 ByteArray.empty) true))))) none) none) none) none) none))) none))
theorem evs (a0 : ByteArray) (KF : Ret → Option R) : evFunc E (G g) k H [] false Tryz.f61 [.val false [.s (.string a0)]] KF = b g k a0 (fun r1 r2 r3 r4 r5 r6 => KF ⟨[.val true [ri r1, ri r2, ri r3, ri r4, .s (.string r5)], .val false [.s (.bool r6)]], []⟩) :=
 by kernel_rfl
end impl_NoteRead
namespace impl_NoteRead
def g (k : Nat) : Cs R := ⟨(), strings_SplitN.c k, impl_naturals.c k, impl_NoteOk.c k, impl_NoteWrite.c k⟩
def c (k : Nat) : T R := b (g k) k
end impl_NoteRead
/-! ### impl_noteAt: function 100 -/
namespace impl_noteAt
abbrev T (R : Type) : Type := (L5) → Int → Int → (Int → Option R) → Option R
def con (f : T R) : Con R := ⟨[], fun args K => match args with
 | [.val false [pa0], .val false [.s (.int .i64 a1)], .val false [.s (.int .i64 a2)]] => withRow q5 pa0 fun a0 => f a0 a1 a2 (fun r1 => K ⟨[.val false [ri r1]], []⟩)
 | _ => none⟩
structure Cs (R : Type) where
  none_ : Unit := ()
def G (g : Cs R) : Cons R := []
def H : List (Nat × Meet) := [(2, ⟨[(0, [(0, q5)]), (1, []), (2, [])], []⟩), (12, ⟨[(1, []), (2, []), (9, [(0, q5)]), (10, []), (11, [])], []⟩), (15, ⟨[(6, [])], []⟩), (26, ⟨[(1, []), (2, []), (9, [(0, q5)]), (10, []), (11, [])], []⟩), (421, ⟨[], []⟩), (423, ⟨[(1, []), (2, []), (9, [(0, q5)]), (10, []), (11, [])], []⟩), (13517, ⟨[(6, [])], []⟩)]
abbrev S1 (x1 x2 : Int) (x3 : L5) : St := mkSt [(0, .c (.sl 0)), (1, .c (si x1)), (2, .c (si x2))] [(0, .row .ro q5 x3)]
abbrev S2 (x1 x2 x3 x4 : Int) (x5 : L5) : St := mkSt [(1, .c (si x1)), (2, .c (si x2)), (9, .c (.sl 0)), (10, .c (si x3)), (11, .c (si x4))] [(0, .row .ro q5 x5)]
abbrev S3 : St := mkSt [] []
abbrev S4 (x1 : Int) : St := mkSt [(6, .c (si x1))] []
noncomputable abbrev V (g : Cs R) (k : Nat) (K : Kont R) (b : List Bool) (p : Nat) (st : St) : Option R := ev E (G g) k H (nodeAt (bodyOf Tryz.f100) b) p st K
noncomputable abbrev U (g : Cs R) (k : Nat) (n : Nat) (b : List Bool) : Nat → St → (St → Option R) → Kont R → Option R := evPre E (G g) k H n (nodeAt (bodyOf Tryz.f100) b)
noncomputable abbrev W (g : Cs R) (k : Nat) (b : List Bool) (p : Nat) : St → Kont R → Option R := ev E (G g) k H (nodeAt (bodyOf Tryz.f100) b) p
variable (g : Cs R) (k : Nat)
def s1 (g : Cs R) (k : Nat) (a1 a2 : Int) (a0 : L5) (j : Option R) : Option R :=
 j
theorem s1_ev (a1 a2 : Int) (a0 : L5) (X : St → Option R) (K : Kont R) : U g k 1 [] 1 (S1 a1 a2 a0) X K = s1 g k a1 a2 a0 (X (S1 a1 a2 a0)) := by kernel_rfl
def s2 (g : Cs R) (k : Nat) (a1 a2 : Int) (a0 : L5) (j : Int → Int → Option R) : Option R :=
 j (a0.length : Int) 0
theorem s2_ev (a1 a2 : Int) (a0 : L5) (X : St → Option R) (K : Kont R) : U g k 1 [true, false] 6 (S1 a1 a2 a0) X K = s2 g k a1 a2 a0 (fun z0 z1 => X (S2 a1 a2 z0 z1 a0)) := by kernel_rfl
def s3 (g : Cs R) (k : Nat) (a1 a2 z0 z2 : Int) (a0 : L5) (j : Int → Option R) (x0 : Option R) (q : Option R) : Option R :=
 cond (decide (z2 < z0)) (cond (decide (0 ≤ z2) && decide (z2 < (a0.length : Int))) (let y1 := (a0.getD z2.toNat n5).1; cond (decide (y1 = a1)) (let y2 := (a0.getD z2.toNat n5).2.1; cond (decide (y2 = a2)) (q) (j (IntKind.wrap .i64 (z2 + 1)))) (j (IntKind.wrap .i64 (z2 + 1)))) none) (x0)
theorem s3_ev (a1 a2 z0 z2 : Int) (a0 : L5) (K : Kont R) : V g k K [true, false, true, false, false] 52 (S2 a1 a2 z0 z2 a0) = s3 g k a1 a2 z0 z2 a0 (fun z3 => K .normal (S2 a1 a2 z0 z3 a0)) (K (.exit 0) S3) (K .ret (S4 z2)) := by kernel_rfl
def l4r (g : Cs R) (k : Nat) (a1 a2 z0 : Int) (a0 : L5) (x0 : Option R) (q : Int → Option R) : Nat → Int → Option R
 | 0, _ => none
 | n + 1, z2 => s3 g k a1 a2 z0 z2 a0 (fun z3 => l4r g k a1 a2 z0 a0 x0 q n z3) (x0) (q z2)
def l4 (g : Cs R) (k : Nat) (a1 a2 z0 z1 : Int) (a0 : L5) (x0 : Option R) (q : Int → Option R) : Option R := l4r g k a1 a2 z0 a0 x0 q k z1
theorem l4r_ev (a1 a2 z0 : Int) (a0 : L5) (K : Kont R) : ∀ (n : Nat) (z2 : Int), evLoop (W g k [true, false, true, false, false] 52) (atMeet H 26) K n (S2 a1 a2 z0 z2 a0) = l4r g k a1 a2 z0 a0 (K (.exit 0) S3) (fun z4 => K .ret (S4 z4)) n z2 := by
 intro n
 induction n with
 | zero => intros; rfl
 | succ n ih =>
  intro z2
  exact Eq.trans (by kernel_rfl) ((s3_ev g k a1 a2 z0 z2 a0 (loopK (W g k [true, false, true, false, false] 52) (atMeet H 26) K n)).trans (Eq.trans (by kernel_rfl) (congrArg (fun f_ => s3 g k a1 a2 z0 z2 a0 f_ (K (.exit 0) S3) (K .ret (S4 z2))) (funext fun (z3 : Int) => (ih z3)))))
theorem l4_ev (a1 a2 z0 z1 : Int) (a0 : L5) (K : Kont R) : V g k K [true, false, true, false] 26 (S2 a1 a2 z0 z1 a0) = l4 g k a1 a2 z0 z1 a0 (K (.exit 0) S3) (fun z4 => K .ret (S4 z4)) :=
 Eq.trans (by kernel_rfl) (l4r_ev g k a1 a2 z0 a0 K k z1)
def b5 (g : Cs R) (k : Nat) (a1 a2 z0 z1 : Int) (a0 : L5) (j : Option R) (q : Int → Option R) : Option R :=
 l4 g k a1 a2 z0 z1 a0 (j) (fun z4 => q z4)
theorem b5_ev (a1 a2 z0 z1 : Int) (a0 : L5) (K : Kont R) : V g k K [true, false, true] 13 (S2 a1 a2 z0 z1 a0) = b5 g k a1 a2 z0 z1 a0 (K .normal S3) (fun z5 => K .ret (S4 z5)) :=
 Eq.trans (by kernel_rfl) ((l4_ev g k a1 a2 z0 z1 a0 (blockK 0 (fun st => K .normal (atMeet H 13 st)) K)).trans (by kernel_rfl))
def c6 (g : Cs R) (k : Nat) (a1 a2 : Int) (a0 : L5) (j : Option R) (q : Int → Option R) : Option R :=
 s2 g k a1 a2 a0 (fun z0 z1 => b5 g k a1 a2 z0 z1 a0 (j) (fun z5 => q z5))
theorem c6_ev (a1 a2 : Int) (a0 : L5) (K : Kont R) : V g k K [true, false] 6 (S1 a1 a2 a0) = c6 g k a1 a2 a0 (K .normal S3) (fun z6 => K .ret (S4 z6)) :=
 (Eq.trans (by kernel_rfl) (s2_ev g k a1 a2 a0 (V g k K [true, false, true] 13) K)).trans (congrArg (fun f_ => s2 g k a1 a2 a0 f_) (funext fun (z0 : Int) => (funext fun (z1 : Int) => (b5_ev g k a1 a2 z0 z1 a0 K))))
def s7 (g : Cs R) (k : Nat)  (q : Int → Option R) : Option R :=
 q (-1)
theorem s7_ev  (K : Kont R) : V g k K [true, true] 7 S3 = s7 g k (fun z7 => K .ret (S4 z7)) := by kernel_rfl
def c8 (g : Cs R) (k : Nat) (a1 a2 : Int) (a0 : L5) (q : Int → Option R) : Option R :=
 c6 g k a1 a2 a0 (s7 g k (fun z7 => q z7)) (fun z6 => q z6)
theorem c8_ev (a1 a2 : Int) (a0 : L5) (K : Kont R) : V g k K [true] 3 (S1 a1 a2 a0) = c8 g k a1 a2 a0 (fun z8 => K .ret (S4 z8)) :=
 (Eq.trans (by kernel_rfl) (c6_ev g k a1 a2 a0 (seqK (V g k K [true, true] 7) K))).trans (congrArg (fun f_ => c6 g k a1 a2 a0 f_ (fun z6 => K .ret (S4 z6))) (seqN (f := (V g k K [true, true] 7)) (K := K) (s7_ev g k K)))
def c9 (g : Cs R) (k : Nat) (a1 a2 : Int) (a0 : L5) (q : Int → Option R) : Option R :=
 s1 g k a1 a2 a0 (c8 g k a1 a2 a0 (fun z8 => q z8))
theorem c9_ev (a1 a2 : Int) (a0 : L5) (K : Kont R) : V g k K [] 1 (S1 a1 a2 a0) = c9 g k a1 a2 a0 (fun z9 => K .ret (S4 z9)) :=
 (Eq.trans (by kernel_rfl) (s1_ev g k a1 a2 a0 (V g k K [true] 3) K)).trans (congrArg (fun f_ => s1 g k a1 a2 a0 f_) (c8_ev g k a1 a2 a0 K))
def b (g : Cs R) (k : Nat) (a0 : L5) (a1 a2 : Int) (K : Int → Option R) : Option R :=
 c9 g k a1 a2 a0 (fun z9 => K z9)
theorem evs (a0 : L5) (a1 a2 : Int) (KF : Ret → Option R) : evFunc E (G g) k H [] false Tryz.f100 [.val false [.row .ro q5 a0], .val false [ri a1], .val false [ri a2]] KF = b g k a0 a1 a2 (fun r1 => KF ⟨[.val false [ri r1]], []⟩) :=
 Eq.trans (by kernel_rfl) ((c9_ev g k a1 a2 a0 (fin E.P false Tryz.f100 [] KF)).trans (by kernel_rfl))
end impl_noteAt
namespace impl_noteAt
def g (k : Nat) : Cs R := ⟨()⟩
def c (k : Nat) : T R := b (g k) k
end impl_noteAt
/-! ### impl_noteIn: function 101 -/
namespace impl_noteIn
abbrev T (R : Type) : Type := (L5) → Int → Int → Int → Int → ByteArray → ((L5) → Option R) → Option R
def con (f : T R) : Con R := ⟨[], fun args K => match args with
 | [.val false [pa0], .val true [.s (.int .i64 A), .s (.int .i64 B), .s (.int .i64 C), .s (.int .i64 D), .s (.string F)]] => withRow q5 pa0 fun a0 => f a0 A B C D F (fun r1 => K ⟨[.val false [.row .own q5 r1]], []⟩)
 | _ => none⟩
structure Cs (R : Type) where
  none_ : Unit := ()
  f93 : impl_before.T R
def G (g : Cs R) : Cons R := [(93, impl_before.con g.f93)]
def H : List (Nat × Meet) := [(6, ⟨[(0, [(0, q5)]), (3, []), (5, [])], []⟩), (28, ⟨[(0, [(0, q5)]), (3, []), (5, [])], []⟩), (31, ⟨[(4, [(0, q5)])], []⟩), (113, ⟨[(0, [(0, q5)]), (3, []), (5, [])], []⟩), (451, ⟨[(0, [(0, q5)]), (3, []), (5, [])], []⟩)]
abbrev S1 (x1 : Int) (x2 : L5) (x3 x4 x5 x6 : Int) (x7 : ByteArray) : St := mkSt [(0, .c (.sl 0)), (3, .c (.ptr 9003 0 0)), (5, .c (si x1))] [(0, .row .ro q5 x2), (9003, .box [si x3, si x4, si x5, si x6, .s (.string x7)])]
abbrev S2 (x1 : L5) : St := mkSt [(4, .c (.sl 9004))] [(9004, .row .own q5 x1)]
noncomputable abbrev V (g : Cs R) (k : Nat) (K : Kont R) (b : List Bool) (p : Nat) (st : St) : Option R := ev E (G g) k H (nodeAt (bodyOf Tryz.f101) b) p st K
noncomputable abbrev U (g : Cs R) (k : Nat) (n : Nat) (b : List Bool) : Nat → St → (St → Option R) → Kont R → Option R := evPre E (G g) k H n (nodeAt (bodyOf Tryz.f101) b)
noncomputable abbrev W (g : Cs R) (k : Nat) (b : List Bool) (p : Nat) : St → Kont R → Option R := ev E (G g) k H (nodeAt (bodyOf Tryz.f101) b) p
variable (g : Cs R) (k : Nat)
def s1 (g : Cs R) (k : Nat) (A B C D : Int) (F : ByteArray) (a0 : L5) (j : Int → Option R) : Option R :=
 j 0
theorem s1_ev (A B C D : Int) (F : ByteArray) (a0 : L5) (X : St → Option R) (K : Kont R) : U g k 2 [] 1 (mkSt [(0, .c (.sl 0)), (1, .agg [si A, si B, si C, si D, .s (.string F)])] [(0, .row .ro q5 a0)]) X K = s1 g k A B C D F a0 (fun z0 => X (S1 z0 a0 A B C D F)) := by kernel_rfl
def s2 (g : Cs R) (k : Nat) (z1 : Int) (a0 : L5) (A B C D : Int) (F : ByteArray) (j : Int → Option R) (x0 : Option R) : Option R :=
 cond (decide (z1 < (a0.length : Int))) (cond (decide (0 ≤ z1) && decide (z1 < (a0.length : Int))) (let y1 := (a0.getD z1.toNat n5).1; cond (decide (0 ≤ z1) && decide (z1 < (a0.length : Int))) (let y2 := (a0.getD z1.toNat n5).2.1; g.f93 y1 y2 A B (fun r3 => cond r3 (j (IntKind.wrap .i64 (z1 + 1))) (x0))) none) none) (x0)
theorem s2_ev (z1 : Int) (a0 : L5) (A B C D : Int) (F : ByteArray) (K : Kont R) : V g k K [true, true, false, false, false] 56 (S1 z1 a0 A B C D F) = s2 g k z1 a0 A B C D F (fun z2 => K .normal (S1 z2 a0 A B C D F)) (K (.exit 0) (S1 z1 a0 A B C D F)) := by kernel_rfl
def l3r (g : Cs R) (k : Nat) (a0 : L5) (A B C D : Int) (F : ByteArray) (x0 : Int → Option R) : Nat → Int → Option R
 | 0, _ => none
 | n + 1, z1 => s2 g k z1 a0 A B C D F (fun z2 => l3r g k a0 A B C D F x0 n z2) (x0 z1)
def l3 (g : Cs R) (k : Nat) (z0 : Int) (a0 : L5) (A B C D : Int) (F : ByteArray) (x0 : Int → Option R) : Option R := l3r g k a0 A B C D F x0 k z0
theorem l3r_ev (a0 : L5) (A B C D : Int) (F : ByteArray) (K : Kont R) : ∀ (n : Nat) (z1 : Int), evLoop (W g k [true, true, false, false, false] 56) (atMeet H 28) K n (S1 z1 a0 A B C D F) = l3r g k a0 A B C D F (fun z3 => K (.exit 0) (S1 z3 a0 A B C D F)) n z1 := by
 intro n
 induction n with
 | zero => intros; rfl
 | succ n ih =>
  intro z1
  exact Eq.trans (by kernel_rfl) ((s2_ev g k z1 a0 A B C D F (loopK (W g k [true, true, false, false, false] 56) (atMeet H 28) K n)).trans (Eq.trans (by kernel_rfl) (congrArg (fun f_ => s2 g k z1 a0 A B C D F f_ (K (.exit 0) (S1 z1 a0 A B C D F))) (funext fun (z2 : Int) => (ih z2)))))
theorem l3_ev (z0 : Int) (a0 : L5) (A B C D : Int) (F : ByteArray) (K : Kont R) : V g k K [true, true, false, false] 28 (S1 z0 a0 A B C D F) = l3 g k z0 a0 A B C D F (fun z3 => K (.exit 0) (S1 z3 a0 A B C D F)) :=
 Eq.trans (by kernel_rfl) (l3r_ev g k a0 A B C D F K k z0)
def b4 (g : Cs R) (k : Nat) (z0 : Int) (a0 : L5) (A B C D : Int) (F : ByteArray) (j : Int → Option R) : Option R :=
 l3 g k z0 a0 A B C D F (fun z3 => j z3)
theorem b4_ev (z0 : Int) (a0 : L5) (A B C D : Int) (F : ByteArray) (K : Kont R) : V g k K [true, true, false] 14 (S1 z0 a0 A B C D F) = b4 g k z0 a0 A B C D F (fun z4 => K .normal (S1 z4 a0 A B C D F)) :=
 Eq.trans (by kernel_rfl) ((l3_ev g k z0 a0 A B C D F (blockK 0 (fun st => K .normal (atMeet H 14 st)) K)).trans (by kernel_rfl))
def s5 (g : Cs R) (k : Nat) (z4 : Int) (a0 : L5) (A B C D : Int) (F : ByteArray) (q : (L5) → Option R) : Option R :=
 cond (decide (0 ≤ z4) && decide (z4 ≤ (a0.length : Int))) (cond (Nat.ble (([] : L5).length + (part (cs := q5) a0 0 z4.toNat).length) lim) (let y1 := (([] : L5) ++ (part (cs := q5) a0 0 z4.toNat)); let y2 := ([(A, B, C, D, F)] : L5); cond (Nat.ble (y1.length + y2.length) lim) (cond (decide (0 ≤ z4) && decide (z4 ≤ (a0.length : Int))) (cond (Nat.ble ((y1 ++ y2).length + (part (cs := q5) a0 z4.toNat (a0.length - z4.toNat)).length) lim) (let y3 := ((y1 ++ y2) ++ (part (cs := q5) a0 z4.toNat (a0.length - z4.toNat))); q y3) none) none) none) none) none
theorem s5_ev (z4 : Int) (a0 : L5) (A B C D : Int) (F : ByteArray) (K : Kont R) : V g k K [true, true, true] 15 (S1 z4 a0 A B C D F) = s5 g k z4 a0 A B C D F (fun z5 => K .ret (S2 z5)) := by kernel_rfl
def c6 (g : Cs R) (k : Nat) (z0 : Int) (a0 : L5) (A B C D : Int) (F : ByteArray) (q : (L5) → Option R) : Option R :=
 b4 g k z0 a0 A B C D F (fun z4 => s5 g k z4 a0 A B C D F (fun z5 => q z5))
theorem c6_ev (z0 : Int) (a0 : L5) (A B C D : Int) (F : ByteArray) (K : Kont R) : V g k K [true, true] 7 (S1 z0 a0 A B C D F) = c6 g k z0 a0 A B C D F (fun z6 => K .ret (S2 z6)) :=
 (Eq.trans (by kernel_rfl) (b4_ev g k z0 a0 A B C D F (seqK (V g k K [true, true, true] 15) K))).trans (congrArg (fun f_ => b4 g k z0 a0 A B C D F f_) (funext fun (z4 : Int) => (seqN (f := (V g k K [true, true, true] 15)) (K := K) (s5_ev g k z4 a0 A B C D F K))))
def c7 (g : Cs R) (k : Nat) (A B C D : Int) (F : ByteArray) (a0 : L5) (q : (L5) → Option R) : Option R :=
 s1 g k A B C D F a0 (fun z0 => c6 g k z0 a0 A B C D F (fun z6 => q z6))
theorem c7_ev (A B C D : Int) (F : ByteArray) (a0 : L5) (K : Kont R) : V g k K [] 1 (mkSt [(0, .c (.sl 0)), (1, .agg [si A, si B, si C, si D, .s (.string F)])] [(0, .row .ro q5 a0)]) = c7 g k A B C D F a0 (fun z7 => K .ret (S2 z7)) :=
 (Eq.trans (by kernel_rfl) (s1_ev g k A B C D F a0 (V g k K [true, true] 7) K)).trans (congrArg (fun f_ => s1 g k A B C D F a0 f_) (funext fun (z0 : Int) => (c6_ev g k z0 a0 A B C D F K)))
def b (g : Cs R) (k : Nat) (a0 : L5) (A B C D : Int) (F : ByteArray) (K : (L5) → Option R) : Option R :=
 c7 g k A B C D F a0 (fun z7 => K z7)
theorem evs (a0 : L5) (A B C D : Int) (F : ByteArray) (KF : Ret → Option R) : evFunc E (G g) k H [] false Tryz.f101 [.val false [.row .ro q5 a0], .val true [ri A, ri B, ri C, ri D, .s (.string F)]] KF = b g k a0 A B C D F (fun r1 => KF ⟨[.val false [.row .own q5 r1]], []⟩) :=
 Eq.trans (by kernel_rfl) ((c7_ev g k A B C D F a0 (fin E.P false Tryz.f101 [] KF)).trans (by kernel_rfl))
end impl_noteIn
namespace impl_noteIn
def g (k : Nat) : Cs R := ⟨(), impl_before.c k⟩
def c (k : Nat) : T R := b (g k) k
end impl_noteIn
/-! ### impl_markIn: function 104 -/
namespace impl_markIn
abbrev T (R : Type) : Type := (L3) → Int → Int → Int → ((L3) → Option R) → Option R
def con (f : T R) : Con R := ⟨[], fun args K => match args with
 | [.val false [pa0], .val true [.s (.int .i64 A), .s (.int .i64 B), .s (.int .i64 C)]] => withRow q3 pa0 fun a0 => f a0 A B C (fun r1 => K ⟨[.val false [.row .own q3 r1]], []⟩)
 | _ => none⟩
structure Cs (R : Type) where
  none_ : Unit := ()
  f93 : impl_before.T R
def G (g : Cs R) : Cons R := [(93, impl_before.con g.f93)]
def H : List (Nat × Meet) := [(6, ⟨[(0, [(0, q3)]), (3, []), (5, [])], []⟩), (28, ⟨[(0, [(0, q3)]), (3, []), (5, [])], []⟩), (31, ⟨[(4, [(0, q3)])], []⟩), (113, ⟨[(0, [(0, q3)]), (3, []), (5, [])], []⟩), (451, ⟨[(0, [(0, q3)]), (3, []), (5, [])], []⟩)]
abbrev S1 (x1 x2 x3 : Int) (x4 : L3) : St := mkSt [(0, .c (.sl 0)), (1, .agg [si x1, si x2, si x3])] [(0, .row .ro q3 x4)]
abbrev S2 (x1 : Int) (x2 : L3) (x3 x4 x5 : Int) : St := mkSt [(0, .c (.sl 0)), (3, .c (.ptr 9003 0 0)), (5, .c (si x1))] [(0, .row .ro q3 x2), (9003, .box [si x3, si x4, si x5])]
abbrev S3 (x1 : L3) : St := mkSt [(4, .c (.sl 9004))] [(9004, .row .own q3 x1)]
noncomputable abbrev V (g : Cs R) (k : Nat) (K : Kont R) (b : List Bool) (p : Nat) (st : St) : Option R := ev E (G g) k H (nodeAt (bodyOf Tryz.f104) b) p st K
noncomputable abbrev U (g : Cs R) (k : Nat) (n : Nat) (b : List Bool) : Nat → St → (St → Option R) → Kont R → Option R := evPre E (G g) k H n (nodeAt (bodyOf Tryz.f104) b)
noncomputable abbrev W (g : Cs R) (k : Nat) (b : List Bool) (p : Nat) : St → Kont R → Option R := ev E (G g) k H (nodeAt (bodyOf Tryz.f104) b) p
variable (g : Cs R) (k : Nat)
def s1 (g : Cs R) (k : Nat) (A B C : Int) (a0 : L3) (j : Int → Option R) : Option R :=
 j 0
theorem s1_ev (A B C : Int) (a0 : L3) (X : St → Option R) (K : Kont R) : U g k 2 [] 1 (S1 A B C a0) X K = s1 g k A B C a0 (fun z0 => X (S2 z0 a0 A B C)) := by kernel_rfl
def s2 (g : Cs R) (k : Nat) (z1 : Int) (a0 : L3) (A B C : Int) (j : Int → Option R) (x0 : Option R) : Option R :=
 cond (decide (z1 < (a0.length : Int))) (cond (decide (0 ≤ z1) && decide (z1 < (a0.length : Int))) (let y1 := (a0.getD z1.toNat n3).1; cond (decide (0 ≤ z1) && decide (z1 < (a0.length : Int))) (let y2 := (a0.getD z1.toNat n3).2.1; g.f93 y1 y2 A B (fun r3 => cond r3 (j (IntKind.wrap .i64 (z1 + 1))) (x0))) none) none) (x0)
theorem s2_ev (z1 : Int) (a0 : L3) (A B C : Int) (K : Kont R) : V g k K [true, true, false, false, false] 56 (S2 z1 a0 A B C) = s2 g k z1 a0 A B C (fun z2 => K .normal (S2 z2 a0 A B C)) (K (.exit 0) (S2 z1 a0 A B C)) := by kernel_rfl
def l3r (g : Cs R) (k : Nat) (a0 : L3) (A B C : Int) (x0 : Int → Option R) : Nat → Int → Option R
 | 0, _ => none
 | n + 1, z1 => s2 g k z1 a0 A B C (fun z2 => l3r g k a0 A B C x0 n z2) (x0 z1)
def l3 (g : Cs R) (k : Nat) (z0 : Int) (a0 : L3) (A B C : Int) (x0 : Int → Option R) : Option R := l3r g k a0 A B C x0 k z0
theorem l3r_ev (a0 : L3) (A B C : Int) (K : Kont R) : ∀ (n : Nat) (z1 : Int), evLoop (W g k [true, true, false, false, false] 56) (atMeet H 28) K n (S2 z1 a0 A B C) = l3r g k a0 A B C (fun z3 => K (.exit 0) (S2 z3 a0 A B C)) n z1 := by
 intro n
 induction n with
 | zero => intros; rfl
 | succ n ih =>
  intro z1
  exact Eq.trans (by kernel_rfl) ((s2_ev g k z1 a0 A B C (loopK (W g k [true, true, false, false, false] 56) (atMeet H 28) K n)).trans (Eq.trans (by kernel_rfl) (congrArg (fun f_ => s2 g k z1 a0 A B C f_ (K (.exit 0) (S2 z1 a0 A B C))) (funext fun (z2 : Int) => (ih z2)))))
theorem l3_ev (z0 : Int) (a0 : L3) (A B C : Int) (K : Kont R) : V g k K [true, true, false, false] 28 (S2 z0 a0 A B C) = l3 g k z0 a0 A B C (fun z3 => K (.exit 0) (S2 z3 a0 A B C)) :=
 Eq.trans (by kernel_rfl) (l3r_ev g k a0 A B C K k z0)
def b4 (g : Cs R) (k : Nat) (z0 : Int) (a0 : L3) (A B C : Int) (j : Int → Option R) : Option R :=
 l3 g k z0 a0 A B C (fun z3 => j z3)
theorem b4_ev (z0 : Int) (a0 : L3) (A B C : Int) (K : Kont R) : V g k K [true, true, false] 14 (S2 z0 a0 A B C) = b4 g k z0 a0 A B C (fun z4 => K .normal (S2 z4 a0 A B C)) :=
 Eq.trans (by kernel_rfl) ((l3_ev g k z0 a0 A B C (blockK 0 (fun st => K .normal (atMeet H 14 st)) K)).trans (by kernel_rfl))
def s5 (g : Cs R) (k : Nat) (z4 : Int) (a0 : L3) (A B C : Int) (q : (L3) → Option R) : Option R :=
 cond (decide (0 ≤ z4) && decide (z4 ≤ (a0.length : Int))) (cond (Nat.ble (([] : L3).length + (part (cs := q3) a0 0 z4.toNat).length) lim) (let y1 := (([] : L3) ++ (part (cs := q3) a0 0 z4.toNat)); cond (Nat.ble (y1.length + ([(A, B, C)] : L3).length) lim) (let y2 := (y1 ++ ([(A, B, C)] : L3)); cond (decide (0 ≤ z4) && decide (z4 ≤ (a0.length : Int))) (cond (Nat.ble (y2.length + (part (cs := q3) a0 z4.toNat (a0.length - z4.toNat)).length) lim) (let y3 := (y2 ++ (part (cs := q3) a0 z4.toNat (a0.length - z4.toNat))); q y3) none) none) none) none) none
theorem s5_ev (z4 : Int) (a0 : L3) (A B C : Int) (K : Kont R) : V g k K [true, true, true] 15 (S2 z4 a0 A B C) = s5 g k z4 a0 A B C (fun z5 => K .ret (S3 z5)) := by kernel_rfl
def c6 (g : Cs R) (k : Nat) (z0 : Int) (a0 : L3) (A B C : Int) (q : (L3) → Option R) : Option R :=
 b4 g k z0 a0 A B C (fun z4 => s5 g k z4 a0 A B C (fun z5 => q z5))
theorem c6_ev (z0 : Int) (a0 : L3) (A B C : Int) (K : Kont R) : V g k K [true, true] 7 (S2 z0 a0 A B C) = c6 g k z0 a0 A B C (fun z6 => K .ret (S3 z6)) :=
 (Eq.trans (by kernel_rfl) (b4_ev g k z0 a0 A B C (seqK (V g k K [true, true, true] 15) K))).trans (congrArg (fun f_ => b4 g k z0 a0 A B C f_) (funext fun (z4 : Int) => (seqN (f := (V g k K [true, true, true] 15)) (K := K) (s5_ev g k z4 a0 A B C K))))
def c7 (g : Cs R) (k : Nat) (A B C : Int) (a0 : L3) (q : (L3) → Option R) : Option R :=
 s1 g k A B C a0 (fun z0 => c6 g k z0 a0 A B C (fun z6 => q z6))
theorem c7_ev (A B C : Int) (a0 : L3) (K : Kont R) : V g k K [] 1 (S1 A B C a0) = c7 g k A B C a0 (fun z7 => K .ret (S3 z7)) :=
 (Eq.trans (by kernel_rfl) (s1_ev g k A B C a0 (V g k K [true, true] 7) K)).trans (congrArg (fun f_ => s1 g k A B C a0 f_) (funext fun (z0 : Int) => (c6_ev g k z0 a0 A B C K)))
def b (g : Cs R) (k : Nat) (a0 : L3) (A B C : Int) (K : (L3) → Option R) : Option R :=
 c7 g k A B C a0 (fun z7 => K z7)
theorem evs (a0 : L3) (A B C : Int) (KF : Ret → Option R) : evFunc E (G g) k H [] false Tryz.f104 [.val false [.row .ro q3 a0], .val true [ri A, ri B, ri C]] KF = b g k a0 A B C (fun r1 => KF ⟨[.val false [.row .own q3 r1]], []⟩) :=
 Eq.trans (by kernel_rfl) ((c7_ev g k A B C a0 (fin E.P false Tryz.f104 [] KF)).trans (by kernel_rfl))
end impl_markIn
namespace impl_markIn
def g (k : Nat) : Cs R := ⟨(), impl_before.c k⟩
def c (k : Nat) : T R := b (g k) k
end impl_markIn
/-! ### impl_accept: function 99 -/
namespace impl_accept
abbrev T (R : Type) : Type := Int → Int → Int → (L5) → (L3) → (L5) → Int → Int → Int → Int → ByteArray → (Int → Int → Int → (L5) → (L3) → (L5) → Bool → Option R) → Option R
def con (f : T R) : Con R := ⟨[], fun args K => match args with
 | [.val true [.s (.int .i64 A), .s (.int .i64 B), .s (.int .i64 C), D, F, J], .val true [.s (.int .i64 M), .s (.int .i64 N), .s (.int .i64 O), .s (.int .i64 P), .s (.string Q)]] => withRow q5 D fun S => withRow q3 F fun U => withRow q5 J fun W => f A B C S U W M N O P Q (fun r1 r2 r3 r4 r5 r6 r7 => K ⟨[.val true [ri r1, ri r2, ri r3, .row .ro q5 r4, .row .ro q3 r5, .row .ro q5 r6], .val false [.s (.bool r7)]], []⟩)
 | _ => none⟩
structure Cs (R : Type) where
  none_ : Unit := ()
  f92 : impl_NoteOk.T R
  f100 : impl_noteAt.T R
  f57 : impl_markAt.T R
  f101 : impl_noteIn.T R
  f104 : impl_markIn.T R
def G (g : Cs R) : Cons R := [(92, impl_NoteOk.con g.f92), (100, impl_noteAt.con g.f100), (57, impl_markAt.con g.f57), (101, impl_noteIn.con g.f101), (104, impl_markIn.con g.f104)]
def H : List (Nat × Meet) := []
variable (g : Cs R) (k : Nat)
def b (g : Cs R) (k : Nat) (C D J : Int) (A : L5) (B : L3) (F : L5) (M N P O : Int) (Q : ByteArray) (K : Int → Int → Int → (L5) → (L3) → (L5) → Bool → Option R) : Option R :=
 g.f92 M N P O Q (fun r1 => cond (!r1) (K C D J A B F false) (cond (decide (O ≤ D)) (K C D J A B F false) (g.f100 A M N (fun r2 => cond (decide ((0 : Int) ≤ r2)) (K C D J A B F false) (g.f100 F M N (fun r3 => cond (decide ((0 : Int) ≤ r3)) (K C D J A B F false) (g.f57 B M N (fun r4 => cond (decide ((0 : Int) ≤ r4)) (K C D J A B F false) (let y5 := (IntKind.wrap .i64 ((A.length : Int) + (B.length : Int))); let y6 := (decide ((12 : Int) < (IntKind.wrap .i64 (y5 + 1)))); cond y6 (K C D J A B F false) (cond (decide (P = C)) (g.f101 F M N P O Q (fun r7 => g.f104 B M N O (fun r8 => K C D J A r8 r7 true))) (g.f101 A M N P O Q (fun r9 => K C D J r9 B F true))))))))))))
theorem evs (A B C : Int) (D : L5) (F : L3) (J : L5) (M N O P : Int) (Q : ByteArray) (KF : Ret → Option R) : evFunc E (G g) k H [] true Tryz.f99 [.val true [ri A, ri B, ri C, .row .ro q5 D, .row .ro q3 F, .row .ro q5 J], .val true [ri M, ri N, ri O, ri P, .s (.string Q)]] KF = b g k A B C D F J M N O P Q (fun r1 r2 r3 r4 r5 r6 r7 => KF ⟨[.val true [ri r1, ri r2, ri r3, .row .ro q5 r4, .row .ro q3 r5, .row .ro q5 r6], .val false [.s (.bool r7)]], []⟩) :=
 by kernel_rfl
end impl_accept
namespace impl_accept
def g (k : Nat) : Cs R := ⟨(), impl_NoteOk.c k, impl_noteAt.c k, impl_markAt.c k, impl_noteIn.c k, impl_markIn.c k⟩
def c (k : Nat) : T R := b (g k) k
end impl_accept
/-! ### impl_doNote: function 62 -/
namespace impl_doNote
abbrev T (R : Type) : Type := Int → Int → Int → (L5) → (L3) → (L5) → ByteArray → Int → Int → Int → Int → ByteArray → (Int → Int → Int → (L5) → (L3) → (L5) → Bool → Option R) → Option R
def con (f : T R) : Con R := ⟨[], fun args K => match args with
 | [.val true [.s (.int .i64 A), .s (.int .i64 B), .s (.int .i64 C), D, F, J], .val false [.s (.string a1)], .val true [.s (.int .i64 M), .s (.int .i64 N), .s (.int .i64 O), .s (.int .i64 P), .s (.string Q)]] => withRow q5 D fun S => withRow q3 F fun U => withRow q5 J fun W => f A B C S U W a1 M N O P Q (fun r1 r2 r3 r4 r5 r6 r7 => K ⟨[.val true [ri r1, ri r2, ri r3, .row .ro q5 r4, .row .ro q3 r5, .row .ro q5 r6], .val false [.s (.bool r7)]], []⟩)
 | _ => none⟩
structure Cs (R : Type) where
  none_ : Unit := ()
  f99 : impl_accept.T R
  f100 : impl_noteAt.T R
  f101 : impl_noteIn.T R
def G (g : Cs R) : Cons R := [(99, impl_accept.con g.f99), (100, impl_noteAt.con g.f100), (101, impl_noteIn.con g.f101)]
def H : List (Nat × Meet) := []
variable (g : Cs R) (k : Nat)
def b (g : Cs R) (k : Nat) (C F D : Int) (A : L5) (J : L3) (B : L5) (a1 : ByteArray) (M N O P : Int) (Q : ByteArray) (K : Int → Int → Int → (L5) → (L3) → (L5) → Bool → Option R) : Option R :=
 cond (decide (a1 = (ByteArray.mk #[111, 119, 110]))) (cond (decide (M = C)) (cond (decide (N = D)) (g.f99 C F (IntKind.wrap .i64 (D + 1)) A J B M N O P Q (fun r1 r2 r3 r4 r5 r6 r7 => K r1 r2 r3 r4 r5 r6 r7)) (let y8 := (decide (a1 = (ByteArray.mk #[116, 97, 107, 101]))); cond y8 (cond (!decide (M = C)) (g.f99 C F D A J B M N O P Q (fun r9 r10 r11 r12 r13 r14 r15 => K r9 r10 r11 r12 r13 r14 r15)) (g.f100 A M N (fun r16 => cond (decide ((0 : Int) ≤ r16)) (K C F D A J B false) (g.f100 B M N (fun r17 => cond (decide ((0 : Int) ≤ r17)) (K C F D A J B false) (let y18 := (decide (a1 = (ByteArray.mk #[104, 101, 108, 100]))); cond y18 (g.f101 A M N O P Q (fun r19 => K C F D r19 J B true)) (let y20 := (decide (a1 = (ByteArray.mk #[105, 110, 98, 111, 120]))); cond y20 (g.f101 B M N O P Q (fun r21 => K C F D A J r21 true)) (K C F D A J B false)))))))) (g.f100 A M N (fun r22 => cond (decide ((0 : Int) ≤ r22)) (K C F D A J B false) (g.f100 B M N (fun r23 => cond (decide ((0 : Int) ≤ r23)) (K C F D A J B false) (let y24 := (decide (a1 = (ByteArray.mk #[104, 101, 108, 100]))); cond y24 (g.f101 A M N O P Q (fun r25 => K C F D r25 J B true)) (let y26 := (decide (a1 = (ByteArray.mk #[105, 110, 98, 111, 120]))); cond y26 (g.f101 B M N O P Q (fun r27 => K C F D A J r27 true)) (K C F D A J B false))))))))) (let y28 := (decide (a1 = (ByteArray.mk #[116, 97, 107, 101]))); cond y28 (cond (!decide (M = C)) (g.f99 C F D A J B M N O P Q (fun r29 r30 r31 r32 r33 r34 r35 => K r29 r30 r31 r32 r33 r34 r35)) (g.f100 A M N (fun r36 => cond (decide ((0 : Int) ≤ r36)) (K C F D A J B false) (g.f100 B M N (fun r37 => cond (decide ((0 : Int) ≤ r37)) (K C F D A J B false) (let y38 := (decide (a1 = (ByteArray.mk #[104, 101, 108, 100]))); cond y38 (g.f101 A M N O P Q (fun r39 => K C F D r39 J B true)) (let y40 := (decide (a1 = (ByteArray.mk #[105, 110, 98, 111, 120]))); cond y40 (g.f101 B M N O P Q (fun r41 => K C F D A J r41 true)) (K C F D A J B false)))))))) (g.f100 A M N (fun r42 => cond (decide ((0 : Int) ≤ r42)) (K C F D A J B false) (g.f100 B M N (fun r43 => cond (decide ((0 : Int) ≤ r43)) (K C F D A J B false) (let y44 := (decide (a1 = (ByteArray.mk #[104, 101, 108, 100]))); cond y44 (g.f101 A M N O P Q (fun r45 => K C F D r45 J B true)) (let y46 := (decide (a1 = (ByteArray.mk #[105, 110, 98, 111, 120]))); cond y46 (g.f101 B M N O P Q (fun r47 => K C F D A J r47 true)) (K C F D A J B false))))))))) (let y48 := (decide (a1 = (ByteArray.mk #[116, 97, 107, 101]))); cond y48 (cond (!decide (M = C)) (g.f99 C F D A J B M N O P Q (fun r49 r50 r51 r52 r53 r54 r55 => K r49 r50 r51 r52 r53 r54 r55)) (g.f100 A M N (fun r56 => cond (decide ((0 : Int) ≤ r56)) (K C F D A J B false) (g.f100 B M N (fun r57 => cond (decide ((0 : Int) ≤ r57)) (K C F D A J B false) (let y58 := (decide (a1 = (ByteArray.mk #[104, 101, 108, 100]))); cond y58 (g.f101 A M N O P Q (fun r59 => K C F D r59 J B true)) (let y60 := (decide (a1 = (ByteArray.mk #[105, 110, 98, 111, 120]))); cond y60 (g.f101 B M N O P Q (fun r61 => K C F D A J r61 true)) (K C F D A J B false)))))))) (g.f100 A M N (fun r62 => cond (decide ((0 : Int) ≤ r62)) (K C F D A J B false) (g.f100 B M N (fun r63 => cond (decide ((0 : Int) ≤ r63)) (K C F D A J B false) (let y64 := (decide (a1 = (ByteArray.mk #[104, 101, 108, 100]))); cond y64 (g.f101 A M N O P Q (fun r65 => K C F D r65 J B true)) (let y66 := (decide (a1 = (ByteArray.mk #[105, 110, 98, 111, 120]))); cond y66 (g.f101 B M N O P Q (fun r67 => K C F D A J r67 true)) (K C F D A J B false))))))))
theorem evs (A B C : Int) (D : L5) (F : L3) (J : L5) (a1 : ByteArray) (M N O P : Int) (Q : ByteArray) (KF : Ret → Option R) : evFunc E (G g) k H [] true Tryz.f62 [.val true [ri A, ri B, ri C, .row .ro q5 D, .row .ro q3 F, .row .ro q5 J], .val false [.s (.string a1)], .val true [ri M, ri N, ri O, ri P, .s (.string Q)]] KF = b g k A B C D F J a1 M N O P Q (fun r1 r2 r3 r4 r5 r6 r7 => KF ⟨[.val true [ri r1, ri r2, ri r3, .row .ro q5 r4, .row .ro q3 r5, .row .ro q5 r6], .val false [.s (.bool r7)]], []⟩) :=
 by kernel_rfl
end impl_doNote
namespace impl_doNote
def g (k : Nat) : Cs R := ⟨(), impl_accept.c k, impl_noteAt.c k, impl_noteIn.c k⟩
def c (k : Nat) : T R := b (g k) k
end impl_doNote
/-! ### strings_Split: function 64, of Go's library -/
namespace strings_Split
abbrev T (R : Type) : Type := ByteArray → ByteArray → (List ByteArray → Option R) → Option R
def con (f : T R) : Con R := ⟨[], fun args K => match args with
 | [.val false [.s (.string a0)], .val false [.s (.string a1)]] => f a0 a1 (fun r1 => K ⟨[.val false [.row .own [.str] r1]], []⟩)
 | _ => none⟩
def c (k : Nat) : T R := fun a0 a1 K => cond (decide (a0.size < 4294967281) && decide (1 ≤ a1.size)) (K (Go.Lib.splitB a1 0 (Go.Lib.countB a0 a1) a0)) none
end strings_Split
/-! ### impl_noteOut: function 103 -/
namespace impl_noteOut
abbrev T (R : Type) : Type := (L5) → Int → ((L5) → Option R) → Option R
def con (f : T R) : Con R := ⟨[], fun args K => match args with
 | [.val false [pa0], .val false [.s (.int .i64 a1)]] => withRow q5 pa0 fun a0 => f a0 a1 (fun r1 => K ⟨[.val false [.row .own q5 r1]], []⟩)
 | _ => none⟩
structure Cs (R : Type) where
  none_ : Unit := ()
def G (g : Cs R) : Cons R := []
def H : List (Nat × Meet) := []
variable (g : Cs R) (k : Nat)
def b (g : Cs R) (k : Nat) (a0 : L5) (a1 : Int) (K : (L5) → Option R) : Option R :=
 cond (decide (0 ≤ a1) && decide (a1 ≤ (a0.length : Int))) (cond (Nat.ble (([] : L5).length + (part (cs := q5) a0 0 a1.toNat).length) lim) (let y1 := (([] : L5) ++ (part (cs := q5) a0 0 a1.toNat)); cond (decide (0 ≤ (IntKind.wrap .i64 (a1 + 1))) && decide ((IntKind.wrap .i64 (a1 + 1)) ≤ (a0.length : Int))) (cond (Nat.ble (y1.length + (part (cs := q5) a0 ((IntKind.wrap .i64 (a1 + 1)).toNat) (a0.length - (IntKind.wrap .i64 (a1 + 1)).toNat)).length) lim) (let y2 := (y1 ++ (part (cs := q5) a0 ((IntKind.wrap .i64 (a1 + 1)).toNat) (a0.length - (IntKind.wrap .i64 (a1 + 1)).toNat))); K y2) none) none) none) none
theorem evs (a0 : L5) (a1 : Int) (KF : Ret → Option R) : evFunc E (G g) k H [] false Tryz.f103 [.val false [.row .ro q5 a0], .val false [ri a1]] KF = b g k a0 a1 (fun r1 => KF ⟨[.val false [.row .own q5 r1]], []⟩) :=
 by kernel_rfl
end impl_noteOut
namespace impl_noteOut
def g (k : Nat) : Cs R := ⟨()⟩
def c (k : Nat) : T R := b (g k) k
end impl_noteOut
/-! ### impl_doMark: function 65 -/
namespace impl_doMark
abbrev T (R : Type) : Type := Int → Int → Int → (L5) → (L3) → (L5) → ByteArray → Int → Int → Int → (Int → Int → Int → (L5) → (L3) → (L5) → Bool → Option R) → Option R
def con (f : T R) : Con R := ⟨[], fun args K => match args with
 | [.val true [.s (.int .i64 A), .s (.int .i64 B), .s (.int .i64 C), D, F, J], .val false [.s (.string a1)], .val true [.s (.int .i64 M), .s (.int .i64 N), .s (.int .i64 O)]] => withRow q5 D fun P => withRow q3 F fun Q => withRow q5 J fun S => f A B C P Q S a1 M N O (fun r1 r2 r3 r4 r5 r6 r7 => K ⟨[.val true [ri r1, ri r2, ri r3, .row .ro q5 r4, .row .ro q3 r5, .row .ro q5 r6], .val false [.s (.bool r7)]], []⟩)
 | _ => none⟩
structure Cs (R : Type) where
  none_ : Unit := ()
  f100 : impl_noteAt.T R
  f57 : impl_markAt.T R
  f103 : impl_noteOut.T R
  f104 : impl_markIn.T R
def G (g : Cs R) : Cons R := [(100, impl_noteAt.con g.f100), (57, impl_markAt.con g.f57), (103, impl_noteOut.con g.f103), (104, impl_markIn.con g.f104)]
def H : List (Nat × Meet) := []
variable (g : Cs R) (k : Nat)
def b (g : Cs R) (k : Nat) (D F J : Int) (B : L5) (C : L3) (A : L5) (a1 : ByteArray) (N O M : Int) (K : Int → Int → Int → (L5) → (L3) → (L5) → Bool → Option R) : Option R :=
 g.f100 B N O (fun r1 => g.f100 A N O (fun r2 => g.f57 C N O (fun r3 => cond (decide (a1 = (ByteArray.mk #[108, 101, 116]))) (cond (decide ((0 : Int) ≤ r1)) (cond (decide (0 ≤ r1) && decide (r1 < (B.length : Int))) (let y4 := (B.getD r1.toNat n5).2.2.2.1; cond (decide (y4 = M)) (g.f103 B r1 (fun r5 => g.f104 C N O M (fun r6 => K D F J r5 r6 A true))) (cond (decide (a1 = (ByteArray.mk #[101, 97, 116]))) (cond (decide ((0 : Int) ≤ r2)) (cond (decide (0 ≤ r2) && decide (r2 < (A.length : Int))) (let y7 := (A.getD r2.toNat n5).2.2.2.1; cond (decide (y7 = M)) (g.f103 A r2 (fun r8 => K D F J B C r8 true)) (let y9 := (decide (a1 = (ByteArray.mk #[109, 97, 114, 107]))); cond y9 (cond (!(decide ((0 : Int) ≤ r3))) (g.f104 C N O M (fun r10 => K D F J B r10 A true)) (K D F J B C A false)) (K D F J B C A false))) none) (let y11 := (decide (a1 = (ByteArray.mk #[109, 97, 114, 107]))); cond y11 (cond (!(decide ((0 : Int) ≤ r3))) (g.f104 C N O M (fun r12 => K D F J B r12 A true)) (K D F J B C A false)) (K D F J B C A false))) (let y13 := (decide (a1 = (ByteArray.mk #[109, 97, 114, 107]))); cond y13 (cond (!(decide ((0 : Int) ≤ r3))) (g.f104 C N O M (fun r14 => K D F J B r14 A true)) (K D F J B C A false)) (K D F J B C A false)))) none) (cond (decide (a1 = (ByteArray.mk #[101, 97, 116]))) (cond (decide ((0 : Int) ≤ r2)) (cond (decide (0 ≤ r2) && decide (r2 < (A.length : Int))) (let y15 := (A.getD r2.toNat n5).2.2.2.1; cond (decide (y15 = M)) (g.f103 A r2 (fun r16 => K D F J B C r16 true)) (let y17 := (decide (a1 = (ByteArray.mk #[109, 97, 114, 107]))); cond y17 (cond (!(decide ((0 : Int) ≤ r3))) (g.f104 C N O M (fun r18 => K D F J B r18 A true)) (K D F J B C A false)) (K D F J B C A false))) none) (let y19 := (decide (a1 = (ByteArray.mk #[109, 97, 114, 107]))); cond y19 (cond (!(decide ((0 : Int) ≤ r3))) (g.f104 C N O M (fun r20 => K D F J B r20 A true)) (K D F J B C A false)) (K D F J B C A false))) (let y21 := (decide (a1 = (ByteArray.mk #[109, 97, 114, 107]))); cond y21 (cond (!(decide ((0 : Int) ≤ r3))) (g.f104 C N O M (fun r22 => K D F J B r22 A true)) (K D F J B C A false)) (K D F J B C A false)))) (cond (decide (a1 = (ByteArray.mk #[101, 97, 116]))) (cond (decide ((0 : Int) ≤ r2)) (cond (decide (0 ≤ r2) && decide (r2 < (A.length : Int))) (let y23 := (A.getD r2.toNat n5).2.2.2.1; cond (decide (y23 = M)) (g.f103 A r2 (fun r24 => K D F J B C r24 true)) (let y25 := (decide (a1 = (ByteArray.mk #[109, 97, 114, 107]))); cond y25 (cond (!(decide ((0 : Int) ≤ r3))) (g.f104 C N O M (fun r26 => K D F J B r26 A true)) (K D F J B C A false)) (K D F J B C A false))) none) (let y27 := (decide (a1 = (ByteArray.mk #[109, 97, 114, 107]))); cond y27 (cond (!(decide ((0 : Int) ≤ r3))) (g.f104 C N O M (fun r28 => K D F J B r28 A true)) (K D F J B C A false)) (K D F J B C A false))) (let y29 := (decide (a1 = (ByteArray.mk #[109, 97, 114, 107]))); cond y29 (cond (!(decide ((0 : Int) ≤ r3))) (g.f104 C N O M (fun r30 => K D F J B r30 A true)) (K D F J B C A false)) (K D F J B C A false))))))
theorem evs (A B C : Int) (D : L5) (F : L3) (J : L5) (a1 : ByteArray) (M N O : Int) (KF : Ret → Option R) : evFunc E (G g) k H [] true Tryz.f65 [.val true [ri A, ri B, ri C, .row .ro q5 D, .row .ro q3 F, .row .ro q5 J], .val false [.s (.string a1)], .val true [ri M, ri N, ri O]] KF = b g k A B C D F J a1 M N O (fun r1 r2 r3 r4 r5 r6 r7 => KF ⟨[.val true [ri r1, ri r2, ri r3, .row .ro q5 r4, .row .ro q3 r5, .row .ro q5 r6], .val false [.s (.bool r7)]], []⟩) :=
 by kernel_rfl
end impl_doMark
namespace impl_doMark
def g (k : Nat) : Cs R := ⟨(), impl_noteAt.c k, impl_markAt.c k, impl_noteOut.c k, impl_markIn.c k⟩
def c (k : Nat) : T R := b (g k) k
end impl_doMark
/-! ### impl_apply: function 31 -/
namespace impl_apply
abbrev T (R : Type) : Type := Int → Int → Int → (L5) → (L3) → (L5) → ByteArray → (Int → Int → Int → (L5) → (L3) → (L5) → Bool → Option R) → Option R
def con (f : T R) : Con R := ⟨[], fun args K => match args with
 | [.val true [.s (.int .i64 A), .s (.int .i64 B), .s (.int .i64 C), D, F, J], .val false [.s (.string a1)]] => withRow q5 D fun M => withRow q3 F fun N => withRow q5 J fun O => f A B C M N O a1 (fun r1 r2 r3 r4 r5 r6 r7 => K ⟨[.val true [ri r1, ri r2, ri r3, .row .ro q5 r4, .row .ro q3 r5, .row .ro q5 r6], .val false [.s (.bool r7)]], []⟩)
 | _ => none⟩
structure Cs (R : Type) where
  none_ : Unit := ()
  f58 : strings_Cut.T R
  f59 : impl_natural.T R
  f60 : impl_doNum.T R
  f61 : impl_NoteRead.T R
  f62 : impl_doNote.T R
  f64 : strings_Split.T R
  f63 : impl_naturals.T R
  f65 : impl_doMark.T R
def G (g : Cs R) : Cons R := [(58, strings_Cut.con g.f58), (59, impl_natural.con g.f59), (60, impl_doNum.con g.f60), (61, impl_NoteRead.con g.f61), (62, impl_doNote.con g.f62), (64, strings_Split.con g.f64), (63, impl_naturals.con g.f63), (65, impl_doMark.con g.f65)]
def H : List (Nat × Meet) := []
variable (g : Cs R) (k : Nat)
def b (g : Cs R) (k : Nat) (A B C : Int) (D : L5) (F : L3) (J : L5) (a1 : ByteArray) (K : Int → Int → Int → (L5) → (L3) → (L5) → Bool → Option R) : Option R :=
 g.f58 a1 (ByteArray.mk #[32]) (fun r1 r2 r3 => cond (!r3) (K A B C D F J false) (let y4 := (decide (r1 = (ByteArray.mk #[116, 105, 109, 101]))); cond y4 (cond y4 (g.f59 r2 (fun r5 r6 => cond r6 (g.f60 A B C D F J r1 r5 (fun r7 r8 r9 r10 r11 r12 r13 => K r7 r8 r9 r10 r11 r12 r13)) (K A B C D F J false))) (cond (decide (r1 = (ByteArray.mk #[111, 119, 110]))) (cond (decide (r1 = (ByteArray.mk #[111, 119, 110]))) (g.f61 r2 (fun r14 r15 r16 r17 r18 r19 => cond r19 (g.f62 A B C D F J r1 r14 r15 r16 r17 r18 (fun r20 r21 r22 r23 r24 r25 r26 => K r20 r21 r22 r23 r24 r25 r26)) (K A B C D F J false))) (cond (decide (r1 = (ByteArray.mk #[108, 101, 116]))) (cond (decide (r1 = (ByteArray.mk #[108, 101, 116]))) (g.f64 r2 (ByteArray.mk #[32]) (fun r27 => g.f63 r27 (fun r28 r29 => cond r29 (cond (decide ((r28.length : Int) = 3)) (cond (decide (0 ≤ (0 : Int)) && decide ((0 : Int) < (r28.length : Int))) (cond (decide (0 ≤ (1 : Int)) && decide ((1 : Int) < (r28.length : Int))) (cond (decide (0 ≤ (2 : Int)) && decide ((2 : Int) < (r28.length : Int))) (g.f65 A B C D F J r1 (r28.getD 0 (0 : Int)) (r28.getD 1 (0 : Int)) (r28.getD 2 (0 : Int)) (fun r30 r31 r32 r33 r34 r35 r36 => K r30 r31 r32 r33 r34 r35 r36)) none) none) none) (K A B C D F J false)) (K A B C D F J false)))) (K A B C D F J false)) (cond (decide (r1 = (ByteArray.mk #[101, 97, 116]))) (cond (decide (r1 = (ByteArray.mk #[101, 97, 116]))) (g.f64 r2 (ByteArray.mk #[32]) (fun r37 => g.f63 r37 (fun r38 r39 => cond r39 (cond (decide ((r38.length : Int) = 3)) (cond (decide (0 ≤ (0 : Int)) && decide ((0 : Int) < (r38.length : Int))) (cond (decide (0 ≤ (1 : Int)) && decide ((1 : Int) < (r38.length : Int))) (cond (decide (0 ≤ (2 : Int)) && decide ((2 : Int) < (r38.length : Int))) (g.f65 A B C D F J r1 (r38.getD 0 (0 : Int)) (r38.getD 1 (0 : Int)) (r38.getD 2 (0 : Int)) (fun r40 r41 r42 r43 r44 r45 r46 => K r40 r41 r42 r43 r44 r45 r46)) none) none) none) (K A B C D F J false)) (K A B C D F J false)))) (K A B C D F J false)) (let y47 := (decide (r1 = (ByteArray.mk #[109, 97, 114, 107]))); cond y47 (g.f64 r2 (ByteArray.mk #[32]) (fun r48 => g.f63 r48 (fun r49 r50 => cond r50 (cond (decide ((r49.length : Int) = 3)) (cond (decide (0 ≤ (0 : Int)) && decide ((0 : Int) < (r49.length : Int))) (cond (decide (0 ≤ (1 : Int)) && decide ((1 : Int) < (r49.length : Int))) (cond (decide (0 ≤ (2 : Int)) && decide ((2 : Int) < (r49.length : Int))) (g.f65 A B C D F J r1 (r49.getD 0 (0 : Int)) (r49.getD 1 (0 : Int)) (r49.getD 2 (0 : Int)) (fun r51 r52 r53 r54 r55 r56 r57 => K r51 r52 r53 r54 r55 r56 r57)) none) none) none) (K A B C D F J false)) (K A B C D F J false)))) (K A B C D F J false))))) (let y58 := (decide (r1 = (ByteArray.mk #[116, 97, 107, 101]))); cond y58 (cond y58 (g.f61 r2 (fun r59 r60 r61 r62 r63 r64 => cond r64 (g.f62 A B C D F J r1 r59 r60 r61 r62 r63 (fun r65 r66 r67 r68 r69 r70 r71 => K r65 r66 r67 r68 r69 r70 r71)) (K A B C D F J false))) (cond (decide (r1 = (ByteArray.mk #[108, 101, 116]))) (cond (decide (r1 = (ByteArray.mk #[108, 101, 116]))) (g.f64 r2 (ByteArray.mk #[32]) (fun r72 => g.f63 r72 (fun r73 r74 => cond r74 (cond (decide ((r73.length : Int) = 3)) (cond (decide (0 ≤ (0 : Int)) && decide ((0 : Int) < (r73.length : Int))) (cond (decide (0 ≤ (1 : Int)) && decide ((1 : Int) < (r73.length : Int))) (cond (decide (0 ≤ (2 : Int)) && decide ((2 : Int) < (r73.length : Int))) (g.f65 A B C D F J r1 (r73.getD 0 (0 : Int)) (r73.getD 1 (0 : Int)) (r73.getD 2 (0 : Int)) (fun r75 r76 r77 r78 r79 r80 r81 => K r75 r76 r77 r78 r79 r80 r81)) none) none) none) (K A B C D F J false)) (K A B C D F J false)))) (K A B C D F J false)) (cond (decide (r1 = (ByteArray.mk #[101, 97, 116]))) (cond (decide (r1 = (ByteArray.mk #[101, 97, 116]))) (g.f64 r2 (ByteArray.mk #[32]) (fun r82 => g.f63 r82 (fun r83 r84 => cond r84 (cond (decide ((r83.length : Int) = 3)) (cond (decide (0 ≤ (0 : Int)) && decide ((0 : Int) < (r83.length : Int))) (cond (decide (0 ≤ (1 : Int)) && decide ((1 : Int) < (r83.length : Int))) (cond (decide (0 ≤ (2 : Int)) && decide ((2 : Int) < (r83.length : Int))) (g.f65 A B C D F J r1 (r83.getD 0 (0 : Int)) (r83.getD 1 (0 : Int)) (r83.getD 2 (0 : Int)) (fun r85 r86 r87 r88 r89 r90 r91 => K r85 r86 r87 r88 r89 r90 r91)) none) none) none) (K A B C D F J false)) (K A B C D F J false)))) (K A B C D F J false)) (let y92 := (decide (r1 = (ByteArray.mk #[109, 97, 114, 107]))); cond y92 (g.f64 r2 (ByteArray.mk #[32]) (fun r93 => g.f63 r93 (fun r94 r95 => cond r95 (cond (decide ((r94.length : Int) = 3)) (cond (decide (0 ≤ (0 : Int)) && decide ((0 : Int) < (r94.length : Int))) (cond (decide (0 ≤ (1 : Int)) && decide ((1 : Int) < (r94.length : Int))) (cond (decide (0 ≤ (2 : Int)) && decide ((2 : Int) < (r94.length : Int))) (g.f65 A B C D F J r1 (r94.getD 0 (0 : Int)) (r94.getD 1 (0 : Int)) (r94.getD 2 (0 : Int)) (fun r96 r97 r98 r99 r100 r101 r102 => K r96 r97 r98 r99 r100 r101 r102)) none) none) none) (K A B C D F J false)) (K A B C D F J false)))) (K A B C D F J false))))) (let y103 := (decide (r1 = (ByteArray.mk #[104, 101, 108, 100]))); cond y103 (cond y103 (g.f61 r2 (fun r104 r105 r106 r107 r108 r109 => cond r109 (g.f62 A B C D F J r1 r104 r105 r106 r107 r108 (fun r110 r111 r112 r113 r114 r115 r116 => K r110 r111 r112 r113 r114 r115 r116)) (K A B C D F J false))) (cond (decide (r1 = (ByteArray.mk #[108, 101, 116]))) (cond (decide (r1 = (ByteArray.mk #[108, 101, 116]))) (g.f64 r2 (ByteArray.mk #[32]) (fun r117 => g.f63 r117 (fun r118 r119 => cond r119 (cond (decide ((r118.length : Int) = 3)) (cond (decide (0 ≤ (0 : Int)) && decide ((0 : Int) < (r118.length : Int))) (cond (decide (0 ≤ (1 : Int)) && decide ((1 : Int) < (r118.length : Int))) (cond (decide (0 ≤ (2 : Int)) && decide ((2 : Int) < (r118.length : Int))) (g.f65 A B C D F J r1 (r118.getD 0 (0 : Int)) (r118.getD 1 (0 : Int)) (r118.getD 2 (0 : Int)) (fun r120 r121 r122 r123 r124 r125 r126 => K r120 r121 r122 r123 r124 r125 r126)) none) none) none) (K A B C D F J false)) (K A B C D F J false)))) (K A B C D F J false)) (cond (decide (r1 = (ByteArray.mk #[101, 97, 116]))) (cond (decide (r1 = (ByteArray.mk #[101, 97, 116]))) (g.f64 r2 (ByteArray.mk #[32]) (fun r127 => g.f63 r127 (fun r128 r129 => cond r129 (cond (decide ((r128.length : Int) = 3)) (cond (decide (0 ≤ (0 : Int)) && decide ((0 : Int) < (r128.length : Int))) (cond (decide (0 ≤ (1 : Int)) && decide ((1 : Int) < (r128.length : Int))) (cond (decide (0 ≤ (2 : Int)) && decide ((2 : Int) < (r128.length : Int))) (g.f65 A B C D F J r1 (r128.getD 0 (0 : Int)) (r128.getD 1 (0 : Int)) (r128.getD 2 (0 : Int)) (fun r130 r131 r132 r133 r134 r135 r136 => K r130 r131 r132 r133 r134 r135 r136)) none) none) none) (K A B C D F J false)) (K A B C D F J false)))) (K A B C D F J false)) (let y137 := (decide (r1 = (ByteArray.mk #[109, 97, 114, 107]))); cond y137 (g.f64 r2 (ByteArray.mk #[32]) (fun r138 => g.f63 r138 (fun r139 r140 => cond r140 (cond (decide ((r139.length : Int) = 3)) (cond (decide (0 ≤ (0 : Int)) && decide ((0 : Int) < (r139.length : Int))) (cond (decide (0 ≤ (1 : Int)) && decide ((1 : Int) < (r139.length : Int))) (cond (decide (0 ≤ (2 : Int)) && decide ((2 : Int) < (r139.length : Int))) (g.f65 A B C D F J r1 (r139.getD 0 (0 : Int)) (r139.getD 1 (0 : Int)) (r139.getD 2 (0 : Int)) (fun r141 r142 r143 r144 r145 r146 r147 => K r141 r142 r143 r144 r145 r146 r147)) none) none) none) (K A B C D F J false)) (K A B C D F J false)))) (K A B C D F J false))))) (let y148 := (decide (r1 = (ByteArray.mk #[105, 110, 98, 111, 120]))); cond y148 (g.f61 r2 (fun r149 r150 r151 r152 r153 r154 => cond r154 (g.f62 A B C D F J r1 r149 r150 r151 r152 r153 (fun r155 r156 r157 r158 r159 r160 r161 => K r155 r156 r157 r158 r159 r160 r161)) (K A B C D F J false))) (cond (decide (r1 = (ByteArray.mk #[108, 101, 116]))) (cond (decide (r1 = (ByteArray.mk #[108, 101, 116]))) (g.f64 r2 (ByteArray.mk #[32]) (fun r162 => g.f63 r162 (fun r163 r164 => cond r164 (cond (decide ((r163.length : Int) = 3)) (cond (decide (0 ≤ (0 : Int)) && decide ((0 : Int) < (r163.length : Int))) (cond (decide (0 ≤ (1 : Int)) && decide ((1 : Int) < (r163.length : Int))) (cond (decide (0 ≤ (2 : Int)) && decide ((2 : Int) < (r163.length : Int))) (g.f65 A B C D F J r1 (r163.getD 0 (0 : Int)) (r163.getD 1 (0 : Int)) (r163.getD 2 (0 : Int)) (fun r165 r166 r167 r168 r169 r170 r171 => K r165 r166 r167 r168 r169 r170 r171)) none) none) none) (K A B C D F J false)) (K A B C D F J false)))) (K A B C D F J false)) (cond (decide (r1 = (ByteArray.mk #[101, 97, 116]))) (cond (decide (r1 = (ByteArray.mk #[101, 97, 116]))) (g.f64 r2 (ByteArray.mk #[32]) (fun r172 => g.f63 r172 (fun r173 r174 => cond r174 (cond (decide ((r173.length : Int) = 3)) (cond (decide (0 ≤ (0 : Int)) && decide ((0 : Int) < (r173.length : Int))) (cond (decide (0 ≤ (1 : Int)) && decide ((1 : Int) < (r173.length : Int))) (cond (decide (0 ≤ (2 : Int)) && decide ((2 : Int) < (r173.length : Int))) (g.f65 A B C D F J r1 (r173.getD 0 (0 : Int)) (r173.getD 1 (0 : Int)) (r173.getD 2 (0 : Int)) (fun r175 r176 r177 r178 r179 r180 r181 => K r175 r176 r177 r178 r179 r180 r181)) none) none) none) (K A B C D F J false)) (K A B C D F J false)))) (K A B C D F J false)) (let y182 := (decide (r1 = (ByteArray.mk #[109, 97, 114, 107]))); cond y182 (g.f64 r2 (ByteArray.mk #[32]) (fun r183 => g.f63 r183 (fun r184 r185 => cond r185 (cond (decide ((r184.length : Int) = 3)) (cond (decide (0 ≤ (0 : Int)) && decide ((0 : Int) < (r184.length : Int))) (cond (decide (0 ≤ (1 : Int)) && decide ((1 : Int) < (r184.length : Int))) (cond (decide (0 ≤ (2 : Int)) && decide ((2 : Int) < (r184.length : Int))) (g.f65 A B C D F J r1 (r184.getD 0 (0 : Int)) (r184.getD 1 (0 : Int)) (r184.getD 2 (0 : Int)) (fun r186 r187 r188 r189 r190 r191 r192 => K r186 r187 r188 r189 r190 r191 r192)) none) none) none) (K A B C D F J false)) (K A B C D F J false)))) (K A B C D F J false))))))))) (let y193 := (decide (r1 = (ByteArray.mk #[110, 101, 120, 116]))); cond y193 (g.f59 r2 (fun r194 r195 => cond r195 (g.f60 A B C D F J r1 r194 (fun r196 r197 r198 r199 r200 r201 r202 => K r196 r197 r198 r199 r200 r201 r202)) (K A B C D F J false))) (cond (decide (r1 = (ByteArray.mk #[111, 119, 110]))) (cond (decide (r1 = (ByteArray.mk #[111, 119, 110]))) (g.f61 r2 (fun r203 r204 r205 r206 r207 r208 => cond r208 (g.f62 A B C D F J r1 r203 r204 r205 r206 r207 (fun r209 r210 r211 r212 r213 r214 r215 => K r209 r210 r211 r212 r213 r214 r215)) (K A B C D F J false))) (cond (decide (r1 = (ByteArray.mk #[108, 101, 116]))) (cond (decide (r1 = (ByteArray.mk #[108, 101, 116]))) (g.f64 r2 (ByteArray.mk #[32]) (fun r216 => g.f63 r216 (fun r217 r218 => cond r218 (cond (decide ((r217.length : Int) = 3)) (cond (decide (0 ≤ (0 : Int)) && decide ((0 : Int) < (r217.length : Int))) (cond (decide (0 ≤ (1 : Int)) && decide ((1 : Int) < (r217.length : Int))) (cond (decide (0 ≤ (2 : Int)) && decide ((2 : Int) < (r217.length : Int))) (g.f65 A B C D F J r1 (r217.getD 0 (0 : Int)) (r217.getD 1 (0 : Int)) (r217.getD 2 (0 : Int)) (fun r219 r220 r221 r222 r223 r224 r225 => K r219 r220 r221 r222 r223 r224 r225)) none) none) none) (K A B C D F J false)) (K A B C D F J false)))) (K A B C D F J false)) (cond (decide (r1 = (ByteArray.mk #[101, 97, 116]))) (cond (decide (r1 = (ByteArray.mk #[101, 97, 116]))) (g.f64 r2 (ByteArray.mk #[32]) (fun r226 => g.f63 r226 (fun r227 r228 => cond r228 (cond (decide ((r227.length : Int) = 3)) (cond (decide (0 ≤ (0 : Int)) && decide ((0 : Int) < (r227.length : Int))) (cond (decide (0 ≤ (1 : Int)) && decide ((1 : Int) < (r227.length : Int))) (cond (decide (0 ≤ (2 : Int)) && decide ((2 : Int) < (r227.length : Int))) (g.f65 A B C D F J r1 (r227.getD 0 (0 : Int)) (r227.getD 1 (0 : Int)) (r227.getD 2 (0 : Int)) (fun r229 r230 r231 r232 r233 r234 r235 => K r229 r230 r231 r232 r233 r234 r235)) none) none) none) (K A B C D F J false)) (K A B C D F J false)))) (K A B C D F J false)) (let y236 := (decide (r1 = (ByteArray.mk #[109, 97, 114, 107]))); cond y236 (g.f64 r2 (ByteArray.mk #[32]) (fun r237 => g.f63 r237 (fun r238 r239 => cond r239 (cond (decide ((r238.length : Int) = 3)) (cond (decide (0 ≤ (0 : Int)) && decide ((0 : Int) < (r238.length : Int))) (cond (decide (0 ≤ (1 : Int)) && decide ((1 : Int) < (r238.length : Int))) (cond (decide (0 ≤ (2 : Int)) && decide ((2 : Int) < (r238.length : Int))) (g.f65 A B C D F J r1 (r238.getD 0 (0 : Int)) (r238.getD 1 (0 : Int)) (r238.getD 2 (0 : Int)) (fun r240 r241 r242 r243 r244 r245 r246 => K r240 r241 r242 r243 r244 r245 r246)) none) none) none) (K A B C D F J false)) (K A B C D F J false)))) (K A B C D F J false))))) (let y247 := (decide (r1 = (ByteArray.mk #[116, 97, 107, 101]))); cond y247 (cond y247 (g.f61 r2 (fun r248 r249 r250 r251 r252 r253 => cond r253 (g.f62 A B C D F J r1 r248 r249 r250 r251 r252 (fun r254 r255 r256 r257 r258 r259 r260 => K r254 r255 r256 r257 r258 r259 r260)) (K A B C D F J false))) (cond (decide (r1 = (ByteArray.mk #[108, 101, 116]))) (cond (decide (r1 = (ByteArray.mk #[108, 101, 116]))) (g.f64 r2 (ByteArray.mk #[32]) (fun r261 => g.f63 r261 (fun r262 r263 => cond r263 (cond (decide ((r262.length : Int) = 3)) (cond (decide (0 ≤ (0 : Int)) && decide ((0 : Int) < (r262.length : Int))) (cond (decide (0 ≤ (1 : Int)) && decide ((1 : Int) < (r262.length : Int))) (cond (decide (0 ≤ (2 : Int)) && decide ((2 : Int) < (r262.length : Int))) (g.f65 A B C D F J r1 (r262.getD 0 (0 : Int)) (r262.getD 1 (0 : Int)) (r262.getD 2 (0 : Int)) (fun r264 r265 r266 r267 r268 r269 r270 => K r264 r265 r266 r267 r268 r269 r270)) none) none) none) (K A B C D F J false)) (K A B C D F J false)))) (K A B C D F J false)) (cond (decide (r1 = (ByteArray.mk #[101, 97, 116]))) (cond (decide (r1 = (ByteArray.mk #[101, 97, 116]))) (g.f64 r2 (ByteArray.mk #[32]) (fun r271 => g.f63 r271 (fun r272 r273 => cond r273 (cond (decide ((r272.length : Int) = 3)) (cond (decide (0 ≤ (0 : Int)) && decide ((0 : Int) < (r272.length : Int))) (cond (decide (0 ≤ (1 : Int)) && decide ((1 : Int) < (r272.length : Int))) (cond (decide (0 ≤ (2 : Int)) && decide ((2 : Int) < (r272.length : Int))) (g.f65 A B C D F J r1 (r272.getD 0 (0 : Int)) (r272.getD 1 (0 : Int)) (r272.getD 2 (0 : Int)) (fun r274 r275 r276 r277 r278 r279 r280 => K r274 r275 r276 r277 r278 r279 r280)) none) none) none) (K A B C D F J false)) (K A B C D F J false)))) (K A B C D F J false)) (let y281 := (decide (r1 = (ByteArray.mk #[109, 97, 114, 107]))); cond y281 (g.f64 r2 (ByteArray.mk #[32]) (fun r282 => g.f63 r282 (fun r283 r284 => cond r284 (cond (decide ((r283.length : Int) = 3)) (cond (decide (0 ≤ (0 : Int)) && decide ((0 : Int) < (r283.length : Int))) (cond (decide (0 ≤ (1 : Int)) && decide ((1 : Int) < (r283.length : Int))) (cond (decide (0 ≤ (2 : Int)) && decide ((2 : Int) < (r283.length : Int))) (g.f65 A B C D F J r1 (r283.getD 0 (0 : Int)) (r283.getD 1 (0 : Int)) (r283.getD 2 (0 : Int)) (fun r285 r286 r287 r288 r289 r290 r291 => K r285 r286 r287 r288 r289 r290 r291)) none) none) none) (K A B C D F J false)) (K A B C D F J false)))) (K A B C D F J false))))) (let y292 := (decide (r1 = (ByteArray.mk #[104, 101, 108, 100]))); cond y292 (cond y292 (g.f61 r2 (fun r293 r294 r295 r296 r297 r298 => cond r298 (g.f62 A B C D F J r1 r293 r294 r295 r296 r297 (fun r299 r300 r301 r302 r303 r304 r305 => K r299 r300 r301 r302 r303 r304 r305)) (K A B C D F J false))) (cond (decide (r1 = (ByteArray.mk #[108, 101, 116]))) (cond (decide (r1 = (ByteArray.mk #[108, 101, 116]))) (g.f64 r2 (ByteArray.mk #[32]) (fun r306 => g.f63 r306 (fun r307 r308 => cond r308 (cond (decide ((r307.length : Int) = 3)) (cond (decide (0 ≤ (0 : Int)) && decide ((0 : Int) < (r307.length : Int))) (cond (decide (0 ≤ (1 : Int)) && decide ((1 : Int) < (r307.length : Int))) (cond (decide (0 ≤ (2 : Int)) && decide ((2 : Int) < (r307.length : Int))) (g.f65 A B C D F J r1 (r307.getD 0 (0 : Int)) (r307.getD 1 (0 : Int)) (r307.getD 2 (0 : Int)) (fun r309 r310 r311 r312 r313 r314 r315 => K r309 r310 r311 r312 r313 r314 r315)) none) none) none) (K A B C D F J false)) (K A B C D F J false)))) (K A B C D F J false)) (cond (decide (r1 = (ByteArray.mk #[101, 97, 116]))) (cond (decide (r1 = (ByteArray.mk #[101, 97, 116]))) (g.f64 r2 (ByteArray.mk #[32]) (fun r316 => g.f63 r316 (fun r317 r318 => cond r318 (cond (decide ((r317.length : Int) = 3)) (cond (decide (0 ≤ (0 : Int)) && decide ((0 : Int) < (r317.length : Int))) (cond (decide (0 ≤ (1 : Int)) && decide ((1 : Int) < (r317.length : Int))) (cond (decide (0 ≤ (2 : Int)) && decide ((2 : Int) < (r317.length : Int))) (g.f65 A B C D F J r1 (r317.getD 0 (0 : Int)) (r317.getD 1 (0 : Int)) (r317.getD 2 (0 : Int)) (fun r319 r320 r321 r322 r323 r324 r325 => K r319 r320 r321 r322 r323 r324 r325)) none) none) none) (K A B C D F J false)) (K A B C D F J false)))) (K A B C D F J false)) (let y326 := (decide (r1 = (ByteArray.mk #[109, 97, 114, 107]))); cond y326 (g.f64 r2 (ByteArray.mk #[32]) (fun r327 => g.f63 r327 (fun r328 r329 => cond r329 (cond (decide ((r328.length : Int) = 3)) (cond (decide (0 ≤ (0 : Int)) && decide ((0 : Int) < (r328.length : Int))) (cond (decide (0 ≤ (1 : Int)) && decide ((1 : Int) < (r328.length : Int))) (cond (decide (0 ≤ (2 : Int)) && decide ((2 : Int) < (r328.length : Int))) (g.f65 A B C D F J r1 (r328.getD 0 (0 : Int)) (r328.getD 1 (0 : Int)) (r328.getD 2 (0 : Int)) (fun r330 r331 r332 r333 r334 r335 r336 => K r330 r331 r332 r333 r334 r335 r336)) none) none) none) (K A B C D F J false)) (K A B C D F J false)))) (K A B C D F J false))))) (let y337 := (decide (r1 = (ByteArray.mk #[105, 110, 98, 111, 120]))); cond y337 (g.f61 r2 (fun r338 r339 r340 r341 r342 r343 => cond r343 (g.f62 A B C D F J r1 r338 r339 r340 r341 r342 (fun r344 r345 r346 r347 r348 r349 r350 => K r344 r345 r346 r347 r348 r349 r350)) (K A B C D F J false))) (cond (decide (r1 = (ByteArray.mk #[108, 101, 116]))) (cond (decide (r1 = (ByteArray.mk #[108, 101, 116]))) (g.f64 r2 (ByteArray.mk #[32]) (fun r351 => g.f63 r351 (fun r352 r353 => cond r353 (cond (decide ((r352.length : Int) = 3)) (cond (decide (0 ≤ (0 : Int)) && decide ((0 : Int) < (r352.length : Int))) (cond (decide (0 ≤ (1 : Int)) && decide ((1 : Int) < (r352.length : Int))) (cond (decide (0 ≤ (2 : Int)) && decide ((2 : Int) < (r352.length : Int))) (g.f65 A B C D F J r1 (r352.getD 0 (0 : Int)) (r352.getD 1 (0 : Int)) (r352.getD 2 (0 : Int)) (fun r354 r355 r356 r357 r358 r359 r360 => K r354 r355 r356 r357 r358 r359 r360)) none) none) none) (K A B C D F J false)) (K A B C D F J false)))) (K A B C D F J false)) (cond (decide (r1 = (ByteArray.mk #[101, 97, 116]))) (cond (decide (r1 = (ByteArray.mk #[101, 97, 116]))) (g.f64 r2 (ByteArray.mk #[32]) (fun r361 => g.f63 r361 (fun r362 r363 => cond r363 (cond (decide ((r362.length : Int) = 3)) (cond (decide (0 ≤ (0 : Int)) && decide ((0 : Int) < (r362.length : Int))) (cond (decide (0 ≤ (1 : Int)) && decide ((1 : Int) < (r362.length : Int))) (cond (decide (0 ≤ (2 : Int)) && decide ((2 : Int) < (r362.length : Int))) (g.f65 A B C D F J r1 (r362.getD 0 (0 : Int)) (r362.getD 1 (0 : Int)) (r362.getD 2 (0 : Int)) (fun r364 r365 r366 r367 r368 r369 r370 => K r364 r365 r366 r367 r368 r369 r370)) none) none) none) (K A B C D F J false)) (K A B C D F J false)))) (K A B C D F J false)) (let y371 := (decide (r1 = (ByteArray.mk #[109, 97, 114, 107]))); cond y371 (g.f64 r2 (ByteArray.mk #[32]) (fun r372 => g.f63 r372 (fun r373 r374 => cond r374 (cond (decide ((r373.length : Int) = 3)) (cond (decide (0 ≤ (0 : Int)) && decide ((0 : Int) < (r373.length : Int))) (cond (decide (0 ≤ (1 : Int)) && decide ((1 : Int) < (r373.length : Int))) (cond (decide (0 ≤ (2 : Int)) && decide ((2 : Int) < (r373.length : Int))) (g.f65 A B C D F J r1 (r373.getD 0 (0 : Int)) (r373.getD 1 (0 : Int)) (r373.getD 2 (0 : Int)) (fun r375 r376 r377 r378 r379 r380 r381 => K r375 r376 r377 r378 r379 r380 r381)) none) none) none) (K A B C D F J false)) (K A B C D F J false)))) (K A B C D F J false)))))))))))
theorem evs (A B C : Int) (D : L5) (F : L3) (J : L5) (a1 : ByteArray) (KF : Ret → Option R) : evFunc E (G g) k H [] false Tryz.f31 [.val true [ri A, ri B, ri C, .row .ro q5 D, .row .ro q3 F, .row .ro q5 J], .val false [.s (.string a1)]] KF = b g k A B C D F J a1 (fun r1 r2 r3 r4 r5 r6 r7 => KF ⟨[.val true [ri r1, ri r2, ri r3, .row .ro q5 r4, .row .ro q3 r5, .row .ro q5 r6], .val false [.s (.bool r7)]], []⟩) :=
 by kernel_rfl
end impl_apply
namespace impl_apply
def g (k : Nat) : Cs R := ⟨(), strings_Cut.c k, impl_natural.c k, impl_doNum.c k, impl_NoteRead.c k, impl_doNote.c k, strings_Split.c k, impl_naturals.c k, impl_doMark.c k⟩
def c (k : Nat) : T R := b (g k) k
end impl_apply
/-! ### impl_Note: function 66 -/
namespace impl_Note
abbrev T (R : Type) : Type := (L5) → ((L5) → Option R) → Option R
def con (f : T R) : Con R := ⟨[], fun args K => match args with
 | [.val false [pa0]] => withRow q5 pa0 fun a0 => f a0 (fun r1 => K ⟨[.val false [.row .own q5 r1]], []⟩)
 | _ => none⟩
structure Cs (R : Type) where
  none_ : Unit := ()
def G (g : Cs R) : Cons R := []
def H : List (Nat × Meet) := []
variable (g : Cs R) (k : Nat)
def b (g : Cs R) (k : Nat) (a0 : L5) (K : (L5) → Option R) : Option R :=
 cond (decide ((a0.length : Int) = 0)) (K []) (cond (decide (0 ≤ (a0.length : Int)) && decide ((a0.length : Int) = (a0.length : Int)) && Nat.ble ((a0.length : Int).toNat) lim) (let y1 := (List.replicate ((a0.length : Int).toNat) n5); K (a0.take y1.length ++ y1.drop a0.length)) none)
theorem evs (a0 : L5) (KF : Ret → Option R) : evFunc E (G g) k H [] false Tryz.f66 [.val false [.row .ro q5 a0]] KF = b g k a0 (fun r1 => KF ⟨[.val false [.row .own q5 r1]], []⟩) :=
 by kernel_rfl
end impl_Note
namespace impl_Note
def g (k : Nat) : Cs R := ⟨()⟩
def c (k : Nat) : T R := b (g k) k
end impl_Note
/-! ### impl_Mark: function 67 -/
namespace impl_Mark
abbrev T (R : Type) : Type := (L3) → ((L3) → Option R) → Option R
def con (f : T R) : Con R := ⟨[], fun args K => match args with
 | [.val false [pa0]] => withRow q3 pa0 fun a0 => f a0 (fun r1 => K ⟨[.val false [.row .own q3 r1]], []⟩)
 | _ => none⟩
structure Cs (R : Type) where
  none_ : Unit := ()
def G (g : Cs R) : Cons R := []
def H : List (Nat × Meet) := []
variable (g : Cs R) (k : Nat)
def b (g : Cs R) (k : Nat) (a0 : L3) (K : (L3) → Option R) : Option R :=
 cond (decide ((a0.length : Int) = 0)) (K []) (cond (decide (0 ≤ (a0.length : Int)) && decide ((a0.length : Int) = (a0.length : Int)) && Nat.ble ((a0.length : Int).toNat) lim) (let y1 := (List.replicate ((a0.length : Int).toNat) n3); K (a0.take y1.length ++ y1.drop a0.length)) none)
theorem evs (a0 : L3) (KF : Ret → Option R) : evFunc E (G g) k H [] false Tryz.f67 [.val false [.row .ro q3 a0]] KF = b g k a0 (fun r1 => KF ⟨[.val false [.row .own q3 r1]], []⟩) :=
 by kernel_rfl
end impl_Mark
namespace impl_Mark
def g (k : Nat) : Cs R := ⟨()⟩
def c (k : Nat) : T R := b (g k) k
end impl_Mark
/-! ### impl_keepCopy: function 32 -/
namespace impl_keepCopy
abbrev T (R : Type) : Type := Int → Int → Int → (L5) → (L3) → (L5) → (Int → Int → Int → (L5) → (L3) → (L5) → Option R) → Option R
def con (f : T R) : Con R := ⟨[], fun args K => match args with
 | [.val true [.s (.int .i64 A), .s (.int .i64 B), .s (.int .i64 C), D, F, J]] => withRow q5 D fun M => withRow q3 F fun N => withRow q5 J fun O => f A B C M N O (fun r1 r2 r3 r4 r5 r6 => K ⟨[.val true [ri r1, ri r2, ri r3, .row .own q5 r4, .row .own q3 r5, .row .own q5 r6]], []⟩)
 | _ => none⟩
structure Cs (R : Type) where
  none_ : Unit := ()
  f66 : impl_Note.T R
  f67 : impl_Mark.T R
def G (g : Cs R) : Cons R := [(66, impl_Note.con g.f66), (67, impl_Mark.con g.f67)]
def H : List (Nat × Meet) := []
variable (g : Cs R) (k : Nat)
def b (g : Cs R) (k : Nat) (A B C : Int) (D : L5) (F : L3) (J : L5) (K : Int → Int → Int → (L5) → (L3) → (L5) → Option R) : Option R :=
 g.f66 D (fun r1 => g.f67 F (fun r2 => g.f66 J (fun r3 => K A B C r1 r2 r3)))
theorem evs (A B C : Int) (D : L5) (F : L3) (J : L5) (KF : Ret → Option R) : evFunc E (G g) k H [] false Tryz.f32 [.val true [ri A, ri B, ri C, .row .ro q5 D, .row .ro q3 F, .row .ro q5 J]] KF = b g k A B C D F J (fun r1 r2 r3 r4 r5 r6 => KF ⟨[.val true [ri r1, ri r2, ri r3, .row .own q5 r4, .row .own q3 r5, .row .own q5 r6]], []⟩) :=
 by kernel_rfl
end impl_keepCopy
namespace impl_keepCopy
def g (k : Nat) : Cs R := ⟨(), impl_Note.c k, impl_Mark.c k⟩
def c (k : Nat) : T R := b (g k) k
end impl_keepCopy
/-! ### impl_KeepDo: function 10 -/
namespace impl_KeepDo
abbrev T (R : Type) : Type := Int → Int → Int → (L5) → (L3) → (L5) → ByteArray → (Int → Int → Int → (L5) → (L3) → (L5) → Bool → Option R) → Option R
def con (f : T R) : Con R := ⟨[], fun args K => match args with
 | [.val true [.s (.int .i64 A), .s (.int .i64 B), .s (.int .i64 C), D, F, J], .val false [.s (.string a1)]] => withRow q5 D fun M => withRow q3 F fun N => withRow q5 J fun O => f A B C M N O a1 (fun r1 r2 r3 r4 r5 r6 r7 => K ⟨[.val true [ri r1, ri r2, ri r3, .row .own q5 r4, .row .own q3 r5, .row .own q5 r6], .val false [.s (.bool r7)]], []⟩)
 | _ => none⟩
structure Cs (R : Type) where
  none_ : Unit := ()
  f30 : impl_KeepOk.T R
  f32 : impl_keepCopy.T R
  f31 : impl_apply.T R
def G (g : Cs R) : Cons R := [(30, impl_KeepOk.con g.f30), (32, impl_keepCopy.con g.f32), (31, impl_apply.con g.f31)]
def H : List (Nat × Meet) := []
variable (g : Cs R) (k : Nat)
def b (g : Cs R) (k : Nat) (A B C : Int) (D : L5) (F : L3) (J : L5) (a1 : ByteArray) (K : Int → Int → Int → (L5) → (L3) → (L5) → Bool → Option R) : Option R :=
 g.f30 A B C D F J (fun r1 => cond (!r1) (K 0 0 0 [] [] [] false) (g.f32 A B C D F J (fun r2 r3 r4 r5 r6 r7 => g.f31 r2 r3 r4 r5 r6 r7 a1 (fun r8 r9 r10 r11 r12 r13 r14 => cond (!r14) (g.f32 A B C D F J (fun r15 r16 r17 r18 r19 r20 => K r15 r16 r17 r18 r19 r20 false)) (g.f30 r8 r9 r10 r11 r12 r13 (fun r21 => cond (!r21) (g.f32 A B C D F J (fun r22 r23 r24 r25 r26 r27 => K r22 r23 r24 r25 r26 r27 false)) (g.f32 r8 r9 r10 r11 r12 r13 (fun r28 r29 r30 r31 r32 r33 => K r28 r29 r30 r31 r32 r33 true))))))))
theorem evs (A B C : Int) (D : L5) (F : L3) (J : L5) (a1 : ByteArray) (KF : Ret → Option R) : evFunc E (G g) k H [] false Tryz.f10 [.val true [ri A, ri B, ri C, .row .ro q5 D, .row .ro q3 F, .row .ro q5 J], .val false [.s (.string a1)]] KF = b g k A B C D F J a1 (fun r1 r2 r3 r4 r5 r6 r7 => KF ⟨[.val true [ri r1, ri r2, ri r3, .row .own q5 r4, .row .own q3 r5, .row .own q5 r6], .val false [.s (.bool r7)]], []⟩) :=
 by kernel_rfl
end impl_KeepDo
namespace impl_KeepDo
def g (k : Nat) : Cs R := ⟨(), impl_KeepOk.c k, impl_keepCopy.c k, impl_apply.c k⟩
def c (k : Nat) : T R := b (g k) k
end impl_KeepDo
/-! ### impl_KeepStart: function 11 -/
namespace impl_KeepStart
abbrev T (R : Type) : Type := Int → (Int → Int → Int → (L5) → (L3) → (L5) → Option R) → Option R
def con (f : T R) : Con R := ⟨[], fun args K => match args with
 | [.val false [.s (.int .i64 a0)]] => f a0 (fun r1 r2 r3 r4 r5 r6 => K ⟨[.val true [ri r1, ri r2, ri r3, .row .own q5 r4, .row .own q3 r5, .row .own q5 r6]], []⟩)
 | _ => none⟩
structure Cs (R : Type) where
  none_ : Unit := ()
  f27 : impl_isNode.T R
def G (g : Cs R) : Cons R := [(27, impl_isNode.con g.f27)]
def H : List (Nat × Meet) := []
variable (g : Cs R) (k : Nat)
def b (g : Cs R) (k : Nat) (a0 : Int) (K : Int → Int → Int → (L5) → (L3) → (L5) → Option R) : Option R :=
 g.f27 a0 (fun r1 => cond (!r1) (K 0 0 0 [] [] []) (K a0 0 1 [] [] []))
theorem evs (a0 : Int) (KF : Ret → Option R) : evFunc E (G g) k H [] false Tryz.f11 [.val false [ri a0]] KF = b g k a0 (fun r1 r2 r3 r4 r5 r6 => KF ⟨[.val true [ri r1, ri r2, ri r3, .row .own q5 r4, .row .own q3 r5, .row .own q5 r6]], []⟩) :=
 by kernel_rfl
end impl_KeepStart
namespace impl_KeepStart
def g (k : Nat) : Cs R := ⟨(), impl_isNode.c k⟩
def c (k : Nat) : T R := b (g k) k
end impl_KeepStart
/-! ### impl_KeepOf: function 8 -/
namespace impl_KeepOf
abbrev T (R : Type) : Type := Int → List ByteArray → (Int → Int → Int → (L5) → (L3) → (L5) → Bool → Option R) → Option R
def con (f : T R) : Con R := ⟨[], fun args K => match args with
 | [.val false [.s (.int .i64 a0)], .val false [pa1]] => withRow [.str] pa1 fun a1 => f a0 a1 (fun r1 r2 r3 r4 r5 r6 r7 => K ⟨[.val true [ri r1, ri r2, ri r3, .row .own q5 r4, .row .own q3 r5, .row .own q5 r6], .val false [.s (.bool r7)]], []⟩)
 | _ => none⟩
structure Cs (R : Type) where
  none_ : Unit := ()
  f27 : impl_isNode.T R
  f11 : impl_KeepStart.T R
  f10 : impl_KeepDo.T R
def G (g : Cs R) : Cons R := [(27, impl_isNode.con g.f27), (11, impl_KeepStart.con g.f11), (10, impl_KeepDo.con g.f10)]
def H : List (Nat × Meet) := [(14, ⟨[(1, [(0, [.str])]), (4, [(3, q5), (4, q3), (5, q5)]), (6, [(3, q5), (4, q3), (5, q5)])], []⟩), (53, ⟨[(4, [(3, q5), (4, q3), (5, q5)]), (5, [])], []⟩), (60, ⟨[(4, [(3, q5), (4, q3), (5, q5)]), (6, [(3, q5), (4, q3), (5, q5)]), (17, [(0, [.str])]), (18, []), (19, [])], []⟩), (63, ⟨[(4, [(3, q5), (4, q3), (5, q5)]), (5, [])], []⟩), (122, ⟨[(4, [(3, q5), (4, q3), (5, q5)]), (6, [(3, q5), (4, q3), (5, q5)]), (17, [(0, [.str])]), (18, []), (19, [])], []⟩), (1957, ⟨[(4, [(3, q5), (4, q3), (5, q5)]), (6, [(3, q5), (4, q3), (5, q5)])], []⟩), (1959, ⟨[(4, [(3, q5), (4, q3), (5, q5)]), (6, [(3, q5), (4, q3), (5, q5)]), (17, [(0, [.str])]), (18, []), (19, [])], []⟩), (250677, ⟨[(4, [(3, q5), (4, q3), (5, q5)]), (5, [])], []⟩)]
abbrev S1 (x1 : List ByteArray) (x2 x3 x4 x5 x6 x7 : Int) (x8 : L5) (x9 : L3) (x10 x11 : L5) (x12 : L3) (x13 : L5) : St := mkSt [(1, .c (.sl 32)), (4, .c (.ptr 9004 0 0)), (6, .c (.ptr 9006 0 0))] [(32, .row .ro [.str] x1), (9004, .box [si x2, si x3, si x4, .sl 1039004, .sl 1049004, .sl 1059004]), (9006, .box [si x5, si x6, si x7, .sl 1039006, .sl 1049006, .sl 1059006]), (1039004, .row .own q5 x8), (1049004, .row .own q3 x9), (1059004, .row .own q5 x10), (1039006, .row .own q5 x11), (1049006, .row .own q3 x12), (1059006, .row .own q5 x13)]
abbrev S2 (x1 : Bool) (x2 x3 x4 : Int) (x5 : L5) (x6 : L3) (x7 : L5) : St := mkSt [(4, .c (.ptr 9004 0 0)), (5, .c (.s (.bool x1)))] [(9004, .box [si x2, si x3, si x4, .sl 1039004, .sl 1049004, .sl 1059004]), (1039004, .row .own q5 x5), (1049004, .row .own q3 x6), (1059004, .row .own q5 x7)]
abbrev S3 (x1 x2 x3 x4 x5 x6 x7 x8 : Int) (x9 : List ByteArray) (x10 : L5) (x11 : L3) (x12 x13 : L5) (x14 : L3) (x15 : L5) : St := mkSt [(4, .c (.ptr 9004 0 0)), (6, .c (.ptr 9006 0 0)), (17, .c (.sl 32)), (18, .c (si x1)), (19, .c (si x2))] [(9004, .box [si x3, si x4, si x5, .sl 1039004, .sl 1049004, .sl 1059004]), (9006, .box [si x6, si x7, si x8, .sl 1039006, .sl 1049006, .sl 1059006]), (32, .row .ro [.str] x9), (1039004, .row .own q5 x10), (1049004, .row .own q3 x11), (1059004, .row .own q5 x12), (1039006, .row .own q5 x13), (1049006, .row .own q3 x14), (1059006, .row .own q5 x15)]
abbrev S4 (x1 x2 x3 x4 x5 x6 : Int) (x7 : L5) (x8 : L3) (x9 x10 : L5) (x11 : L3) (x12 : L5) : St := mkSt [(4, .c (.ptr 9004 0 0)), (6, .c (.ptr 9006 0 0))] [(9004, .box [si x1, si x2, si x3, .sl 1039004, .sl 1049004, .sl 1059004]), (9006, .box [si x4, si x5, si x6, .sl 1039006, .sl 1049006, .sl 1059006]), (1039004, .row .own q5 x7), (1049004, .row .own q3 x8), (1059004, .row .own q5 x9), (1039006, .row .own q5 x10), (1049006, .row .own q3 x11), (1059006, .row .own q5 x12)]
noncomputable abbrev V (g : Cs R) (k : Nat) (K : Kont R) (b : List Bool) (p : Nat) (st : St) : Option R := ev E (G g) k H (nodeAt (bodyOf Tryz.f8) b) p st K
noncomputable abbrev U (g : Cs R) (k : Nat) (n : Nat) (b : List Bool) : Nat → St → (St → Option R) → Kont R → Option R := evPre E (G g) k H n (nodeAt (bodyOf Tryz.f8) b)
noncomputable abbrev W (g : Cs R) (k : Nat) (b : List Bool) (p : Nat) : St → Kont R → Option R := ev E (G g) k H (nodeAt (bodyOf Tryz.f8) b) p
variable (g : Cs R) (k : Nat)
def s1 (g : Cs R) (k : Nat) (a0 : Int) (a1 : List ByteArray) (j : Int → Int → Int → Int → Int → Int → (L5) → (L3) → (L5) → (L5) → (L3) → (L5) → Option R) (q : Bool → Int → Int → Int → (L5) → (L3) → (L5) → Option R) : Option R :=
 g.f27 a0 (fun r1 => cond (!r1) (q false 0 0 0 [] [] []) (g.f11 a0 (fun r2 r3 r4 r5 r6 r7 => j 0 0 0 r2 r3 r4 [] [] [] r5 r6 r7)))
theorem s1_ev (a0 : Int) (a1 : List ByteArray) (X : St → Option R) (K : Kont R) : U g k 3 [] 1 (mkSt [(0, .c (si a0)), (1, .c (.sl 32))] [(32, .row .ro [.str] a1)]) X K = s1 g k a0 a1 (fun z0 z1 z2 z3 z4 z5 z6 z7 z8 z9 z10 z11 => X (S1 a1 z0 z1 z2 z3 z4 z5 z6 z7 z8 z9 z10 z11)) (fun z12 z13 z14 z15 z16 z17 z18 => K .ret (S2 z12 z13 z14 z15 z16 z17 z18)) := by kernel_rfl
def s2 (g : Cs R) (k : Nat) (a1 : List ByteArray) (z0 z1 z2 z3 z4 z5 : Int) (z6 : L5) (z7 : L3) (z8 z9 : L5) (z10 : L3) (z11 : L5) (j : Int → Int → Option R) : Option R :=
 j (a1.length : Int) 0
theorem s2_ev (a1 : List ByteArray) (z0 z1 z2 z3 z4 z5 : Int) (z6 : L5) (z7 : L3) (z8 z9 : L5) (z10 : L3) (z11 : L5) (X : St → Option R) (K : Kont R) : U g k 1 [true, true, true, false] 30 (S1 a1 z0 z1 z2 z3 z4 z5 z6 z7 z8 z9 z10 z11) X K = s2 g k a1 z0 z1 z2 z3 z4 z5 z6 z7 z8 z9 z10 z11 (fun z19 z20 => X (S3 z19 z20 z0 z1 z2 z3 z4 z5 a1 z6 z7 z8 z9 z10 z11)) := by kernel_rfl
def s3 (g : Cs R) (k : Nat) (z19 z21 z0 z1 z2 z22 z23 z24 : Int) (a1 : List ByteArray) (z6 : L5) (z7 : L3) (z8 z25 : L5) (z26 : L3) (z27 : L5) (j : Int → Int → Int → Int → (L5) → (L3) → (L5) → Option R) (x0 : Option R) (q : Bool → Int → Int → Int → (L5) → (L3) → (L5) → Option R) : Option R :=
 cond (decide (z21 < z19)) (cond (decide (0 ≤ z21) && decide (z21 < (a1.length : Int))) (g.f10 z22 z23 z24 z25 z26 z27 (a1.getD z21.toNat ByteArray.empty) (fun r1 r2 r3 r4 r5 r6 r7 => cond (!r7) (q false 0 0 0 [] [] []) (j (IntKind.wrap .i64 (z21 + 1)) r1 r2 r3 r4 r5 r6))) none) (x0)
theorem s3_ev (z19 z21 z0 z1 z2 z22 z23 z24 : Int) (a1 : List ByteArray) (z6 : L5) (z7 : L3) (z8 z25 : L5) (z26 : L3) (z27 : L5) (K : Kont R) : V g k K [true, true, true, false, true, false, false] 244 (S3 z19 z21 z0 z1 z2 z22 z23 z24 a1 z6 z7 z8 z25 z26 z27) = s3 g k z19 z21 z0 z1 z2 z22 z23 z24 a1 z6 z7 z8 z25 z26 z27 (fun z28 z29 z30 z31 z32 z33 z34 => K .normal (S3 z19 z28 z0 z1 z2 z29 z30 z31 a1 z6 z7 z8 z32 z33 z34)) (K (.exit 0) (S4 z0 z1 z2 z22 z23 z24 z6 z7 z8 z25 z26 z27)) (fun z35 z36 z37 z38 z39 z40 z41 => K .ret (S2 z35 z36 z37 z38 z39 z40 z41)) := by kernel_rfl
def l4r (g : Cs R) (k : Nat) (z19 z0 z1 z2 : Int) (a1 : List ByteArray) (z6 : L5) (z7 : L3) (z8 : L5) (x0 : Int → Int → Int → (L5) → (L3) → (L5) → Option R) (q : Bool → Int → Int → Int → (L5) → (L3) → (L5) → Option R) : Nat → Int → Int → Int → Int → (L5) → (L3) → (L5) → Option R
 | 0, _, _, _, _, _, _, _ => none
 | n + 1, z21, z22, z23, z24, z25, z26, z27 => s3 g k z19 z21 z0 z1 z2 z22 z23 z24 a1 z6 z7 z8 z25 z26 z27 (fun z28 z29 z30 z31 z32 z33 z34 => l4r g k z19 z0 z1 z2 a1 z6 z7 z8 x0 q n z28 z29 z30 z31 z32 z33 z34) (x0 z22 z23 z24 z25 z26 z27) (fun z35 z36 z37 z38 z39 z40 z41 => q z35 z36 z37 z38 z39 z40 z41)
def l4 (g : Cs R) (k : Nat) (z19 z20 z0 z1 z2 z3 z4 z5 : Int) (a1 : List ByteArray) (z6 : L5) (z7 : L3) (z8 z9 : L5) (z10 : L3) (z11 : L5) (x0 : Int → Int → Int → (L5) → (L3) → (L5) → Option R) (q : Bool → Int → Int → Int → (L5) → (L3) → (L5) → Option R) : Option R := l4r g k z19 z0 z1 z2 a1 z6 z7 z8 x0 q k z20 z3 z4 z5 z9 z10 z11
theorem l4r_ev (z19 z0 z1 z2 : Int) (a1 : List ByteArray) (z6 : L5) (z7 : L3) (z8 : L5) (K : Kont R) : ∀ (n : Nat) (z21 z22 z23 z24 : Int) (z25 : L5) (z26 : L3) (z27 : L5), evLoop (W g k [true, true, true, false, true, false, false] 244) (atMeet H 122) K n (S3 z19 z21 z0 z1 z2 z22 z23 z24 a1 z6 z7 z8 z25 z26 z27) = l4r g k z19 z0 z1 z2 a1 z6 z7 z8 (fun z42 z43 z44 z45 z46 z47 => K (.exit 0) (S4 z0 z1 z2 z42 z43 z44 z6 z7 z8 z45 z46 z47)) (fun z48 z49 z50 z51 z52 z53 z54 => K .ret (S2 z48 z49 z50 z51 z52 z53 z54)) n z21 z22 z23 z24 z25 z26 z27 := by
 intro n
 induction n with
 | zero => intros; rfl
 | succ n ih =>
  intro z21 z22 z23 z24 z25 z26 z27
  exact Eq.trans (by kernel_rfl) ((s3_ev g k z19 z21 z0 z1 z2 z22 z23 z24 a1 z6 z7 z8 z25 z26 z27 (loopK (W g k [true, true, true, false, true, false, false] 244) (atMeet H 122) K n)).trans (Eq.trans (by kernel_rfl) (congrArg (fun f_ => s3 g k z19 z21 z0 z1 z2 z22 z23 z24 a1 z6 z7 z8 z25 z26 z27 f_ (K (.exit 0) (S4 z0 z1 z2 z22 z23 z24 z6 z7 z8 z25 z26 z27)) (fun z35 z36 z37 z38 z39 z40 z41 => K .ret (S2 z35 z36 z37 z38 z39 z40 z41))) (funext fun (z28 : Int) => (funext fun (z29 : Int) => (funext fun (z30 : Int) => (funext fun (z31 : Int) => (funext fun (z32 : L5) => (funext fun (z33 : L3) => (funext fun (z34 : L5) => (ih z28 z29 z30 z31 z32 z33 z34)))))))))))
theorem l4_ev (z19 z20 z0 z1 z2 z3 z4 z5 : Int) (a1 : List ByteArray) (z6 : L5) (z7 : L3) (z8 z9 : L5) (z10 : L3) (z11 : L5) (K : Kont R) : V g k K [true, true, true, false, true, false] 122 (S3 z19 z20 z0 z1 z2 z3 z4 z5 a1 z6 z7 z8 z9 z10 z11) = l4 g k z19 z20 z0 z1 z2 z3 z4 z5 a1 z6 z7 z8 z9 z10 z11 (fun z42 z43 z44 z45 z46 z47 => K (.exit 0) (S4 z0 z1 z2 z42 z43 z44 z6 z7 z8 z45 z46 z47)) (fun z48 z49 z50 z51 z52 z53 z54 => K .ret (S2 z48 z49 z50 z51 z52 z53 z54)) :=
 Eq.trans (by kernel_rfl) (l4r_ev g k z19 z0 z1 z2 a1 z6 z7 z8 K k z20 z3 z4 z5 z9 z10 z11)
def b5 (g : Cs R) (k : Nat) (z19 z20 z0 z1 z2 z3 z4 z5 : Int) (a1 : List ByteArray) (z6 : L5) (z7 : L3) (z8 z9 : L5) (z10 : L3) (z11 : L5) (j : Int → Int → Int → (L5) → (L3) → (L5) → Option R) (q : Bool → Int → Int → Int → (L5) → (L3) → (L5) → Option R) : Option R :=
 l4 g k z19 z20 z0 z1 z2 z3 z4 z5 a1 z6 z7 z8 z9 z10 z11 (fun z42 z43 z44 z45 z46 z47 => j z42 z43 z44 z45 z46 z47) (fun z48 z49 z50 z51 z52 z53 z54 => q z48 z49 z50 z51 z52 z53 z54)
theorem b5_ev (z19 z20 z0 z1 z2 z3 z4 z5 : Int) (a1 : List ByteArray) (z6 : L5) (z7 : L3) (z8 z9 : L5) (z10 : L3) (z11 : L5) (K : Kont R) : V g k K [true, true, true, false, true] 61 (S3 z19 z20 z0 z1 z2 z3 z4 z5 a1 z6 z7 z8 z9 z10 z11) = b5 g k z19 z20 z0 z1 z2 z3 z4 z5 a1 z6 z7 z8 z9 z10 z11 (fun z55 z56 z57 z58 z59 z60 => K .normal (S4 z0 z1 z2 z55 z56 z57 z6 z7 z8 z58 z59 z60)) (fun z61 z62 z63 z64 z65 z66 z67 => K .ret (S2 z61 z62 z63 z64 z65 z66 z67)) :=
 Eq.trans (by kernel_rfl) ((l4_ev g k z19 z20 z0 z1 z2 z3 z4 z5 a1 z6 z7 z8 z9 z10 z11 (blockK 0 (fun st => K .normal (atMeet H 61 st)) K)).trans (by kernel_rfl))
def c6 (g : Cs R) (k : Nat) (a1 : List ByteArray) (z0 z1 z2 z3 z4 z5 : Int) (z6 : L5) (z7 : L3) (z8 z9 : L5) (z10 : L3) (z11 : L5) (j : Int → Int → Int → (L5) → (L3) → (L5) → Option R) (q : Bool → Int → Int → Int → (L5) → (L3) → (L5) → Option R) : Option R :=
 s2 g k a1 z0 z1 z2 z3 z4 z5 z6 z7 z8 z9 z10 z11 (fun z19 z20 => b5 g k z19 z20 z0 z1 z2 z3 z4 z5 a1 z6 z7 z8 z9 z10 z11 (fun z55 z56 z57 z58 z59 z60 => j z55 z56 z57 z58 z59 z60) (fun z61 z62 z63 z64 z65 z66 z67 => q z61 z62 z63 z64 z65 z66 z67))
theorem c6_ev (a1 : List ByteArray) (z0 z1 z2 z3 z4 z5 : Int) (z6 : L5) (z7 : L3) (z8 z9 : L5) (z10 : L3) (z11 : L5) (K : Kont R) : V g k K [true, true, true, false] 30 (S1 a1 z0 z1 z2 z3 z4 z5 z6 z7 z8 z9 z10 z11) = c6 g k a1 z0 z1 z2 z3 z4 z5 z6 z7 z8 z9 z10 z11 (fun z68 z69 z70 z71 z72 z73 => K .normal (S4 z0 z1 z2 z68 z69 z70 z6 z7 z8 z71 z72 z73)) (fun z74 z75 z76 z77 z78 z79 z80 => K .ret (S2 z74 z75 z76 z77 z78 z79 z80)) :=
 (Eq.trans (by kernel_rfl) (s2_ev g k a1 z0 z1 z2 z3 z4 z5 z6 z7 z8 z9 z10 z11 (V g k K [true, true, true, false, true] 61) K)).trans (congrArg (fun f_ => s2 g k a1 z0 z1 z2 z3 z4 z5 z6 z7 z8 z9 z10 z11 f_) (funext fun (z19 : Int) => (funext fun (z20 : Int) => (b5_ev g k z19 z20 z0 z1 z2 z3 z4 z5 a1 z6 z7 z8 z9 z10 z11 K))))
def s7 (g : Cs R) (k : Nat) (z0 z1 z2 z68 z69 z70 : Int) (z6 : L5) (z7 : L3) (z8 z71 : L5) (z72 : L3) (z73 : L5) (q : Bool → Option R) : Option R :=
 q true
theorem s7_ev (z0 z1 z2 z68 z69 z70 : Int) (z6 : L5) (z7 : L3) (z8 z71 : L5) (z72 : L3) (z73 : L5) (K : Kont R) : V g k K [true, true, true, true] 31 (S4 z0 z1 z2 z68 z69 z70 z6 z7 z8 z71 z72 z73) = s7 g k z0 z1 z2 z68 z69 z70 z6 z7 z8 z71 z72 z73 (fun z81 => K .ret (S2 z81 z68 z69 z70 z71 z72 z73)) := by kernel_rfl
def c8 (g : Cs R) (k : Nat) (a1 : List ByteArray) (z0 z1 z2 z3 z4 z5 : Int) (z6 : L5) (z7 : L3) (z8 z9 : L5) (z10 : L3) (z11 : L5) (q : Bool → Int → Int → Int → (L5) → (L3) → (L5) → Option R) : Option R :=
 c6 g k a1 z0 z1 z2 z3 z4 z5 z6 z7 z8 z9 z10 z11 (fun z68 z69 z70 z71 z72 z73 => s7 g k z0 z1 z2 z68 z69 z70 z6 z7 z8 z71 z72 z73 (fun z81 => q z81 z68 z69 z70 z71 z72 z73)) (fun z74 z75 z76 z77 z78 z79 z80 => q z74 z75 z76 z77 z78 z79 z80)
theorem c8_ev (a1 : List ByteArray) (z0 z1 z2 z3 z4 z5 : Int) (z6 : L5) (z7 : L3) (z8 z9 : L5) (z10 : L3) (z11 : L5) (K : Kont R) : V g k K [true, true, true] 15 (S1 a1 z0 z1 z2 z3 z4 z5 z6 z7 z8 z9 z10 z11) = c8 g k a1 z0 z1 z2 z3 z4 z5 z6 z7 z8 z9 z10 z11 (fun z82 z83 z84 z85 z86 z87 z88 => K .ret (S2 z82 z83 z84 z85 z86 z87 z88)) :=
 (Eq.trans (by kernel_rfl) (c6_ev g k a1 z0 z1 z2 z3 z4 z5 z6 z7 z8 z9 z10 z11 (seqK (V g k K [true, true, true, true] 31) K))).trans (congrArg (fun f_ => c6 g k a1 z0 z1 z2 z3 z4 z5 z6 z7 z8 z9 z10 z11 f_ (fun z74 z75 z76 z77 z78 z79 z80 => K .ret (S2 z74 z75 z76 z77 z78 z79 z80))) (funext fun (z68 : Int) => (funext fun (z69 : Int) => (funext fun (z70 : Int) => (funext fun (z71 : L5) => (funext fun (z72 : L3) => (funext fun (z73 : L5) => (seqN (f := (V g k K [true, true, true, true] 31)) (K := K) (s7_ev g k z0 z1 z2 z68 z69 z70 z6 z7 z8 z71 z72 z73 K)))))))))
def c9 (g : Cs R) (k : Nat) (a0 : Int) (a1 : List ByteArray) (q : Bool → Int → Int → Int → (L5) → (L3) → (L5) → Option R) : Option R :=
 s1 g k a0 a1 (fun z0 z1 z2 z3 z4 z5 z6 z7 z8 z9 z10 z11 => c8 g k a1 z0 z1 z2 z3 z4 z5 z6 z7 z8 z9 z10 z11 (fun z82 z83 z84 z85 z86 z87 z88 => q z82 z83 z84 z85 z86 z87 z88)) (fun z12 z13 z14 z15 z16 z17 z18 => q z12 z13 z14 z15 z16 z17 z18)
theorem c9_ev (a0 : Int) (a1 : List ByteArray) (K : Kont R) : V g k K [] 1 (mkSt [(0, .c (si a0)), (1, .c (.sl 32))] [(32, .row .ro [.str] a1)]) = c9 g k a0 a1 (fun z89 z90 z91 z92 z93 z94 z95 => K .ret (S2 z89 z90 z91 z92 z93 z94 z95)) :=
 (Eq.trans (by kernel_rfl) (s1_ev g k a0 a1 (V g k K [true, true, true] 15) K)).trans (congrArg (fun f_ => s1 g k a0 a1 f_ (fun z12 z13 z14 z15 z16 z17 z18 => K .ret (S2 z12 z13 z14 z15 z16 z17 z18))) (funext fun (z0 : Int) => (funext fun (z1 : Int) => (funext fun (z2 : Int) => (funext fun (z3 : Int) => (funext fun (z4 : Int) => (funext fun (z5 : Int) => (funext fun (z6 : L5) => (funext fun (z7 : L3) => (funext fun (z8 : L5) => (funext fun (z9 : L5) => (funext fun (z10 : L3) => (funext fun (z11 : L5) => (c8_ev g k a1 z0 z1 z2 z3 z4 z5 z6 z7 z8 z9 z10 z11 K))))))))))))))
def b (g : Cs R) (k : Nat) (a0 : Int) (a1 : List ByteArray) (K : Int → Int → Int → (L5) → (L3) → (L5) → Bool → Option R) : Option R :=
 c9 g k a0 a1 (fun z89 z90 z91 z92 z93 z94 z95 => K z90 z91 z92 z93 z94 z95 z89)
theorem evs (a0 : Int) (a1 : List ByteArray) (KF : Ret → Option R) : evFunc E (G g) k H [] false Tryz.f8 [.val false [ri a0], .val false [.row .ro [.str] a1]] KF = b g k a0 a1 (fun r1 r2 r3 r4 r5 r6 r7 => KF ⟨[.val true [ri r1, ri r2, ri r3, .row .own q5 r4, .row .own q3 r5, .row .own q5 r6], .val false [.s (.bool r7)]], []⟩) :=
 Eq.trans (by kernel_rfl) ((c9_ev g k a0 a1 (fin E.P false Tryz.f8 [] KF)).trans (by kernel_rfl))
end impl_KeepOf
namespace impl_KeepOf
def g (k : Nat) : Cs R := ⟨(), impl_isNode.c k, impl_KeepStart.c k, impl_KeepDo.c k⟩
def c (k : Nat) : T R := b (g k) k
end impl_KeepOf
/-! ### laws_lbNotes: function 28 -/
namespace laws_lbNotes
abbrev T (R : Type) : Type := (L5) → (L5) → (Bool → Option R) → Option R
def con (f : T R) : Con R := ⟨[], fun args K => match args with
 | [.val false [pa0], .val false [pa1]] => withRow q5 pa0 fun a0 => withRow q5 pa1 fun a1 => f a0 a1 (fun r1 => K ⟨[.val false [.s (.bool r1)]], []⟩)
 | _ => none⟩
structure Cs (R : Type) where
  none_ : Unit := ()
def G (g : Cs R) : Cons R := []
def H : List (Nat × Meet) := [(13, ⟨[(0, [(0, q5)]), (1, [(0, q5)])], []⟩), (28, ⟨[(0, [(0, q5)]), (1, [(0, q5)]), (5, [])], []⟩), (31, ⟨[(4, [])], []⟩), (53, ⟨[(4, [])], []⟩), (58, ⟨[(0, [(0, q5)]), (1, [(0, q5)]), (5, [])], []⟩), (467, ⟨[(0, [(0, q5)]), (1, [(0, q5)]), (5, [])], []⟩), (931, ⟨[], []⟩), (7461, ⟨[(4, [])], []⟩)]
abbrev S1 (x1 x2 : L5) : St := mkSt [(0, .c (.sl 0)), (1, .c (.sl 32))] [(0, .row .ro q5 x1), (32, .row .ro q5 x2)]
abbrev S2 (x1 : Bool) : St := mkSt [(4, .c (.s (.bool x1)))] []
abbrev S3 (x1 : Int) (x2 x3 : L5) : St := mkSt [(0, .c (.sl 0)), (1, .c (.sl 32)), (5, .c (si x1))] [(0, .row .ro q5 x2), (32, .row .ro q5 x3)]
abbrev S4 : St := mkSt [] []
noncomputable abbrev V (g : Cs R) (k : Nat) (K : Kont R) (b : List Bool) (p : Nat) (st : St) : Option R := ev E (G g) k H (nodeAt (bodyOf Tryz.f28) b) p st K
noncomputable abbrev U (g : Cs R) (k : Nat) (n : Nat) (b : List Bool) : Nat → St → (St → Option R) → Kont R → Option R := evPre E (G g) k H n (nodeAt (bodyOf Tryz.f28) b)
noncomputable abbrev W (g : Cs R) (k : Nat) (b : List Bool) (p : Nat) : St → Kont R → Option R := ev E (G g) k H (nodeAt (bodyOf Tryz.f28) b) p
variable (g : Cs R) (k : Nat)
def s1 (g : Cs R) (k : Nat) (a0 a1 : L5) (j : Option R) (q : Bool → Option R) : Option R :=
 let y1 := (!decide ((a0.length : Int) = (a1.length : Int))); cond y1 (q false) (j)
theorem s1_ev (a0 a1 : L5) (X : St → Option R) (K : Kont R) : U g k 2 [] 1 (S1 a0 a1) X K = s1 g k a0 a1 (X (S1 a0 a1)) (fun z0 => K .ret (S2 z0)) := by kernel_rfl
def s2 (g : Cs R) (k : Nat) (a0 a1 : L5) (j : Int → Option R) : Option R :=
 j 0
theorem s2_ev (a0 a1 : L5) (X : St → Option R) (K : Kont R) : U g k 1 [true, true, false] 14 (S1 a0 a1) X K = s2 g k a0 a1 (fun z1 => X (S3 z1 a0 a1)) := by kernel_rfl
def s3 (g : Cs R) (k : Nat) (z2 : Int) (a0 a1 : L5) (j : Int → Option R) (x0 : Option R) (q : Bool → Option R) : Option R :=
 cond (decide (z2 < (a0.length : Int))) (cond (decide (0 ≤ z2) && decide (z2 < (a0.length : Int))) (cond (decide (0 ≤ z2) && decide (z2 < (a1.length : Int))) (let y1 := (!(decide ((a0.getD z2.toNat n5).1 = (a1.getD z2.toNat n5).1) && (decide ((a0.getD z2.toNat n5).2.1 = (a1.getD z2.toNat n5).2.1) && (decide ((a0.getD z2.toNat n5).2.2.1 = (a1.getD z2.toNat n5).2.2.1) && (decide ((a0.getD z2.toNat n5).2.2.2.1 = (a1.getD z2.toNat n5).2.2.2.1) && decide ((a0.getD z2.toNat n5).2.2.2.2 = (a1.getD z2.toNat n5).2.2.2.2)))))); cond y1 (q false) (j (IntKind.wrap .i64 (z2 + 1)))) none) none) (x0)
theorem s3_ev (z2 : Int) (a0 a1 : L5) (K : Kont R) : V g k K [true, true, false, true, false, false] 116 (S3 z2 a0 a1) = s3 g k z2 a0 a1 (fun z3 => K .normal (S3 z3 a0 a1)) (K (.exit 0) S4) (fun z4 => K .ret (S2 z4)) := by kernel_rfl
def l4r (g : Cs R) (k : Nat) (a0 a1 : L5) (x0 : Option R) (q : Bool → Option R) : Nat → Int → Option R
 | 0, _ => none
 | n + 1, z2 => s3 g k z2 a0 a1 (fun z3 => l4r g k a0 a1 x0 q n z3) (x0) (fun z4 => q z4)
def l4 (g : Cs R) (k : Nat) (z1 : Int) (a0 a1 : L5) (x0 : Option R) (q : Bool → Option R) : Option R := l4r g k a0 a1 x0 q k z1
theorem l4r_ev (a0 a1 : L5) (K : Kont R) : ∀ (n : Nat) (z2 : Int), evLoop (W g k [true, true, false, true, false, false] 116) (atMeet H 58) K n (S3 z2 a0 a1) = l4r g k a0 a1 (K (.exit 0) S4) (fun z5 => K .ret (S2 z5)) n z2 := by
 intro n
 induction n with
 | zero => intros; rfl
 | succ n ih =>
  intro z2
  exact Eq.trans (by kernel_rfl) ((s3_ev g k z2 a0 a1 (loopK (W g k [true, true, false, true, false, false] 116) (atMeet H 58) K n)).trans (Eq.trans (by kernel_rfl) (congrArg (fun f_ => s3 g k z2 a0 a1 f_ (K (.exit 0) S4) (fun z4 => K .ret (S2 z4))) (funext fun (z3 : Int) => (ih z3)))))
theorem l4_ev (z1 : Int) (a0 a1 : L5) (K : Kont R) : V g k K [true, true, false, true, false] 58 (S3 z1 a0 a1) = l4 g k z1 a0 a1 (K (.exit 0) S4) (fun z5 => K .ret (S2 z5)) :=
 Eq.trans (by kernel_rfl) (l4r_ev g k a0 a1 K k z1)
def b5 (g : Cs R) (k : Nat) (z1 : Int) (a0 a1 : L5) (j : Option R) (q : Bool → Option R) : Option R :=
 l4 g k z1 a0 a1 (j) (fun z5 => q z5)
theorem b5_ev (z1 : Int) (a0 a1 : L5) (K : Kont R) : V g k K [true, true, false, true] 29 (S3 z1 a0 a1) = b5 g k z1 a0 a1 (K .normal S4) (fun z6 => K .ret (S2 z6)) :=
 Eq.trans (by kernel_rfl) ((l4_ev g k z1 a0 a1 (blockK 0 (fun st => K .normal (atMeet H 29 st)) K)).trans (by kernel_rfl))
def c6 (g : Cs R) (k : Nat) (a0 a1 : L5) (j : Option R) (q : Bool → Option R) : Option R :=
 s2 g k a0 a1 (fun z1 => b5 g k z1 a0 a1 (j) (fun z6 => q z6))
theorem c6_ev (a0 a1 : L5) (K : Kont R) : V g k K [true, true, false] 14 (S1 a0 a1) = c6 g k a0 a1 (K .normal S4) (fun z7 => K .ret (S2 z7)) :=
 (Eq.trans (by kernel_rfl) (s2_ev g k a0 a1 (V g k K [true, true, false, true] 29) K)).trans (congrArg (fun f_ => s2 g k a0 a1 f_) (funext fun (z1 : Int) => (b5_ev g k z1 a0 a1 K)))
def s7 (g : Cs R) (k : Nat)  (q : Bool → Option R) : Option R :=
 q true
theorem s7_ev  (K : Kont R) : V g k K [true, true, true] 15 S4 = s7 g k (fun z8 => K .ret (S2 z8)) := by kernel_rfl
def c8 (g : Cs R) (k : Nat) (a0 a1 : L5) (q : Bool → Option R) : Option R :=
 c6 g k a0 a1 (s7 g k (fun z8 => q z8)) (fun z7 => q z7)
theorem c8_ev (a0 a1 : L5) (K : Kont R) : V g k K [true, true] 7 (S1 a0 a1) = c8 g k a0 a1 (fun z9 => K .ret (S2 z9)) :=
 (Eq.trans (by kernel_rfl) (c6_ev g k a0 a1 (seqK (V g k K [true, true, true] 15) K))).trans (congrArg (fun f_ => c6 g k a0 a1 f_ (fun z7 => K .ret (S2 z7))) (seqN (f := (V g k K [true, true, true] 15)) (K := K) (s7_ev g k K)))
def c9 (g : Cs R) (k : Nat) (a0 a1 : L5) (q : Bool → Option R) : Option R :=
 s1 g k a0 a1 (c8 g k a0 a1 (fun z9 => q z9)) (fun z0 => q z0)
theorem c9_ev (a0 a1 : L5) (K : Kont R) : V g k K [] 1 (S1 a0 a1) = c9 g k a0 a1 (fun z10 => K .ret (S2 z10)) :=
 (Eq.trans (by kernel_rfl) (s1_ev g k a0 a1 (V g k K [true, true] 7) K)).trans (congrArg (fun f_ => s1 g k a0 a1 f_ (fun z0 => K .ret (S2 z0))) (c8_ev g k a0 a1 K))
def b (g : Cs R) (k : Nat) (a0 a1 : L5) (K : Bool → Option R) : Option R :=
 c9 g k a0 a1 (fun z10 => K z10)
theorem evs (a0 a1 : L5) (KF : Ret → Option R) : evFunc E (G g) k H [] false Tryz.f28 [.val false [.row .ro q5 a0], .val false [.row .ro q5 a1]] KF = b g k a0 a1 (fun r1 => KF ⟨[.val false [.s (.bool r1)]], []⟩) :=
 Eq.trans (by kernel_rfl) ((c9_ev g k a0 a1 (fin E.P false Tryz.f28 [] KF)).trans (by kernel_rfl))
end laws_lbNotes
namespace laws_lbNotes
def g (k : Nat) : Cs R := ⟨()⟩
def c (k : Nat) : T R := b (g k) k
end laws_lbNotes
/-! ### laws_lbMarks: function 29 -/
namespace laws_lbMarks
abbrev T (R : Type) : Type := (L3) → (L3) → (Bool → Option R) → Option R
def con (f : T R) : Con R := ⟨[], fun args K => match args with
 | [.val false [pa0], .val false [pa1]] => withRow q3 pa0 fun a0 => withRow q3 pa1 fun a1 => f a0 a1 (fun r1 => K ⟨[.val false [.s (.bool r1)]], []⟩)
 | _ => none⟩
structure Cs (R : Type) where
  none_ : Unit := ()
def G (g : Cs R) : Cons R := []
def H : List (Nat × Meet) := [(13, ⟨[(0, [(0, q3)]), (1, [(0, q3)])], []⟩), (28, ⟨[(0, [(0, q3)]), (1, [(0, q3)]), (5, [])], []⟩), (31, ⟨[(4, [])], []⟩), (53, ⟨[(4, [])], []⟩), (58, ⟨[(0, [(0, q3)]), (1, [(0, q3)]), (5, [])], []⟩), (467, ⟨[(0, [(0, q3)]), (1, [(0, q3)]), (5, [])], []⟩), (931, ⟨[], []⟩), (7461, ⟨[(4, [])], []⟩)]
abbrev S1 (x1 x2 : L3) : St := mkSt [(0, .c (.sl 0)), (1, .c (.sl 32))] [(0, .row .ro q3 x1), (32, .row .ro q3 x2)]
abbrev S2 (x1 : Bool) : St := mkSt [(4, .c (.s (.bool x1)))] []
abbrev S3 (x1 : Int) (x2 x3 : L3) : St := mkSt [(0, .c (.sl 0)), (1, .c (.sl 32)), (5, .c (si x1))] [(0, .row .ro q3 x2), (32, .row .ro q3 x3)]
abbrev S4 : St := mkSt [] []
noncomputable abbrev V (g : Cs R) (k : Nat) (K : Kont R) (b : List Bool) (p : Nat) (st : St) : Option R := ev E (G g) k H (nodeAt (bodyOf Tryz.f29) b) p st K
noncomputable abbrev U (g : Cs R) (k : Nat) (n : Nat) (b : List Bool) : Nat → St → (St → Option R) → Kont R → Option R := evPre E (G g) k H n (nodeAt (bodyOf Tryz.f29) b)
noncomputable abbrev W (g : Cs R) (k : Nat) (b : List Bool) (p : Nat) : St → Kont R → Option R := ev E (G g) k H (nodeAt (bodyOf Tryz.f29) b) p
variable (g : Cs R) (k : Nat)
def s1 (g : Cs R) (k : Nat) (a0 a1 : L3) (j : Option R) (q : Bool → Option R) : Option R :=
 let y1 := (!decide ((a0.length : Int) = (a1.length : Int))); cond y1 (q false) (j)
theorem s1_ev (a0 a1 : L3) (X : St → Option R) (K : Kont R) : U g k 2 [] 1 (S1 a0 a1) X K = s1 g k a0 a1 (X (S1 a0 a1)) (fun z0 => K .ret (S2 z0)) := by kernel_rfl
def s2 (g : Cs R) (k : Nat) (a0 a1 : L3) (j : Int → Option R) : Option R :=
 j 0
theorem s2_ev (a0 a1 : L3) (X : St → Option R) (K : Kont R) : U g k 1 [true, true, false] 14 (S1 a0 a1) X K = s2 g k a0 a1 (fun z1 => X (S3 z1 a0 a1)) := by kernel_rfl
def s3 (g : Cs R) (k : Nat) (z2 : Int) (a0 a1 : L3) (j : Int → Option R) (x0 : Option R) (q : Bool → Option R) : Option R :=
 cond (decide (z2 < (a0.length : Int))) (cond (decide (0 ≤ z2) && decide (z2 < (a0.length : Int))) (cond (decide (0 ≤ z2) && decide (z2 < (a1.length : Int))) (let y1 := (!(decide ((a0.getD z2.toNat n3).1 = (a1.getD z2.toNat n3).1) && (decide ((a0.getD z2.toNat n3).2.1 = (a1.getD z2.toNat n3).2.1) && decide ((a0.getD z2.toNat n3).2.2 = (a1.getD z2.toNat n3).2.2)))); cond y1 (q false) (j (IntKind.wrap .i64 (z2 + 1)))) none) none) (x0)
theorem s3_ev (z2 : Int) (a0 a1 : L3) (K : Kont R) : V g k K [true, true, false, true, false, false] 116 (S3 z2 a0 a1) = s3 g k z2 a0 a1 (fun z3 => K .normal (S3 z3 a0 a1)) (K (.exit 0) S4) (fun z4 => K .ret (S2 z4)) := by kernel_rfl
def l4r (g : Cs R) (k : Nat) (a0 a1 : L3) (x0 : Option R) (q : Bool → Option R) : Nat → Int → Option R
 | 0, _ => none
 | n + 1, z2 => s3 g k z2 a0 a1 (fun z3 => l4r g k a0 a1 x0 q n z3) (x0) (fun z4 => q z4)
def l4 (g : Cs R) (k : Nat) (z1 : Int) (a0 a1 : L3) (x0 : Option R) (q : Bool → Option R) : Option R := l4r g k a0 a1 x0 q k z1
theorem l4r_ev (a0 a1 : L3) (K : Kont R) : ∀ (n : Nat) (z2 : Int), evLoop (W g k [true, true, false, true, false, false] 116) (atMeet H 58) K n (S3 z2 a0 a1) = l4r g k a0 a1 (K (.exit 0) S4) (fun z5 => K .ret (S2 z5)) n z2 := by
 intro n
 induction n with
 | zero => intros; rfl
 | succ n ih =>
  intro z2
  exact Eq.trans (by kernel_rfl) ((s3_ev g k z2 a0 a1 (loopK (W g k [true, true, false, true, false, false] 116) (atMeet H 58) K n)).trans (Eq.trans (by kernel_rfl) (congrArg (fun f_ => s3 g k z2 a0 a1 f_ (K (.exit 0) S4) (fun z4 => K .ret (S2 z4))) (funext fun (z3 : Int) => (ih z3)))))
theorem l4_ev (z1 : Int) (a0 a1 : L3) (K : Kont R) : V g k K [true, true, false, true, false] 58 (S3 z1 a0 a1) = l4 g k z1 a0 a1 (K (.exit 0) S4) (fun z5 => K .ret (S2 z5)) :=
 Eq.trans (by kernel_rfl) (l4r_ev g k a0 a1 K k z1)
def b5 (g : Cs R) (k : Nat) (z1 : Int) (a0 a1 : L3) (j : Option R) (q : Bool → Option R) : Option R :=
 l4 g k z1 a0 a1 (j) (fun z5 => q z5)
theorem b5_ev (z1 : Int) (a0 a1 : L3) (K : Kont R) : V g k K [true, true, false, true] 29 (S3 z1 a0 a1) = b5 g k z1 a0 a1 (K .normal S4) (fun z6 => K .ret (S2 z6)) :=
 Eq.trans (by kernel_rfl) ((l4_ev g k z1 a0 a1 (blockK 0 (fun st => K .normal (atMeet H 29 st)) K)).trans (by kernel_rfl))
def c6 (g : Cs R) (k : Nat) (a0 a1 : L3) (j : Option R) (q : Bool → Option R) : Option R :=
 s2 g k a0 a1 (fun z1 => b5 g k z1 a0 a1 (j) (fun z6 => q z6))
theorem c6_ev (a0 a1 : L3) (K : Kont R) : V g k K [true, true, false] 14 (S1 a0 a1) = c6 g k a0 a1 (K .normal S4) (fun z7 => K .ret (S2 z7)) :=
 (Eq.trans (by kernel_rfl) (s2_ev g k a0 a1 (V g k K [true, true, false, true] 29) K)).trans (congrArg (fun f_ => s2 g k a0 a1 f_) (funext fun (z1 : Int) => (b5_ev g k z1 a0 a1 K)))
def s7 (g : Cs R) (k : Nat)  (q : Bool → Option R) : Option R :=
 q true
theorem s7_ev  (K : Kont R) : V g k K [true, true, true] 15 S4 = s7 g k (fun z8 => K .ret (S2 z8)) := by kernel_rfl
def c8 (g : Cs R) (k : Nat) (a0 a1 : L3) (q : Bool → Option R) : Option R :=
 c6 g k a0 a1 (s7 g k (fun z8 => q z8)) (fun z7 => q z7)
theorem c8_ev (a0 a1 : L3) (K : Kont R) : V g k K [true, true] 7 (S1 a0 a1) = c8 g k a0 a1 (fun z9 => K .ret (S2 z9)) :=
 (Eq.trans (by kernel_rfl) (c6_ev g k a0 a1 (seqK (V g k K [true, true, true] 15) K))).trans (congrArg (fun f_ => c6 g k a0 a1 f_ (fun z7 => K .ret (S2 z7))) (seqN (f := (V g k K [true, true, true] 15)) (K := K) (s7_ev g k K)))
def c9 (g : Cs R) (k : Nat) (a0 a1 : L3) (q : Bool → Option R) : Option R :=
 s1 g k a0 a1 (c8 g k a0 a1 (fun z9 => q z9)) (fun z0 => q z0)
theorem c9_ev (a0 a1 : L3) (K : Kont R) : V g k K [] 1 (S1 a0 a1) = c9 g k a0 a1 (fun z10 => K .ret (S2 z10)) :=
 (Eq.trans (by kernel_rfl) (s1_ev g k a0 a1 (V g k K [true, true] 7) K)).trans (congrArg (fun f_ => s1 g k a0 a1 f_ (fun z0 => K .ret (S2 z0))) (c8_ev g k a0 a1 K))
def b (g : Cs R) (k : Nat) (a0 a1 : L3) (K : Bool → Option R) : Option R :=
 c9 g k a0 a1 (fun z10 => K z10)
theorem evs (a0 a1 : L3) (KF : Ret → Option R) : evFunc E (G g) k H [] false Tryz.f29 [.val false [.row .ro q3 a0], .val false [.row .ro q3 a1]] KF = b g k a0 a1 (fun r1 => KF ⟨[.val false [.s (.bool r1)]], []⟩) :=
 Eq.trans (by kernel_rfl) ((c9_ev g k a0 a1 (fin E.P false Tryz.f29 [] KF)).trans (by kernel_rfl))
end laws_lbMarks
namespace laws_lbMarks
def g (k : Nat) : Cs R := ⟨()⟩
def c (k : Nat) : T R := b (g k) k
end laws_lbMarks
/-! ### laws_lbKeep: function 9 -/
namespace laws_lbKeep
abbrev T (R : Type) : Type := Int → Int → Int → (L5) → (L3) → (L5) → Int → Int → Int → (L5) → (L3) → (L5) → (Bool → Option R) → Option R
def con (f : T R) : Con R := ⟨[], fun args K => match args with
 | [.val true [.s (.int .i64 A), .s (.int .i64 B), .s (.int .i64 C), D, F, J], .val true [.s (.int .i64 M), .s (.int .i64 N), .s (.int .i64 O), P, Q, S]] => withRow q5 D fun U => withRow q3 F fun W => withRow q5 J fun X => withRow q5 P fun Y => withRow q3 Q fun Z => withRow q5 S fun aA => f A B C U W X M N O Y Z aA (fun r1 => K ⟨[.val false [.s (.bool r1)]], []⟩)
 | _ => none⟩
structure Cs (R : Type) where
  none_ : Unit := ()
  f28 : laws_lbNotes.T R
  f29 : laws_lbMarks.T R
def G (g : Cs R) : Cons R := [(28, laws_lbNotes.con g.f28), (29, laws_lbMarks.con g.f29)]
def H : List (Nat × Meet) := []
variable (g : Cs R) (k : Nat)
def b (g : Cs R) (k : Nat) (A B C : Int) (D : L5) (F : L3) (J : L5) (M N O : Int) (P : L5) (Q : L3) (S : L5) (K : Bool → Option R) : Option R :=
 cond (decide (A = M)) (cond (decide (B = N)) (cond (decide (C = O)) (g.f28 D P (fun r1 => cond r1 (g.f29 F Q (fun r2 => cond r2 (g.f28 J S (fun r3 => K r3)) (K false))) (K false))) (K false)) (K false)) (K false)
theorem evs (A B C : Int) (D : L5) (F : L3) (J : L5) (M N O : Int) (P : L5) (Q : L3) (S : L5) (KF : Ret → Option R) : evFunc E (G g) k H [] false Tryz.f9 [.val true [ri A, ri B, ri C, .row .ro q5 D, .row .ro q3 F, .row .ro q5 J], .val true [ri M, ri N, ri O, .row .ro q5 P, .row .ro q3 Q, .row .ro q5 S]] KF = b g k A B C D F J M N O P Q S (fun r1 => KF ⟨[.val false [.s (.bool r1)]], []⟩) :=
 by kernel_rfl
end laws_lbKeep
namespace laws_lbKeep
def g (k : Nat) : Cs R := ⟨(), laws_lbNotes.c k, laws_lbMarks.c k⟩
def c (k : Nat) : T R := b (g k) k
end laws_lbKeep
/-! ### laws_FnKeepOf: function 3 -/
namespace laws_FnKeepOf
abbrev T (R : Type) : Type := List Int → List Int → (Bool → Option R) → Option R
def con (f : T R) : Con R := ⟨[], fun args K => match args with
 | [.val false [pa0], .val false [pa1]] => withRow [.int .u8] pa0 fun a0 => withRow [.int .u8] pa1 fun a1 => f a0 a1 (fun r1 => K ⟨[.val false [.s (.bool r1)]], []⟩)
 | _ => none⟩
structure Cs (R : Type) where
  none_ : Unit := ()
  f6 : spec_DrawKeepOf.T R
  f7 : spec_KeepOf.T R
  f8 : impl_KeepOf.T R
  f9 : laws_lbKeep.T R
  f10 : impl_KeepDo.T R
  f11 : impl_KeepStart.T R
  f12 : spec_KeepStart.T R
def G (g : Cs R) : Cons R := [(6, spec_DrawKeepOf.con g.f6), (7, spec_KeepOf.con g.f7), (8, impl_KeepOf.con g.f8), (9, laws_lbKeep.con g.f9), (10, impl_KeepDo.con g.f10), (11, impl_KeepStart.con g.f11), (12, spec_KeepStart.con g.f12)]
def H : List (Nat × Meet) := [(53, ⟨[(4, [])], []⟩), (510, ⟨[(5, []), (6, [(0, [.str])]), (9, [(3, q5), (4, q3), (5, q5)]), (11, []), (12, [(3, q5), (4, q3), (5, q5)]), (13, [])], []⟩), (1013, ⟨[(4, [])], []⟩), (2044, ⟨[(5, []), (6, [(0, [.str])]), (9, [(3, q5), (4, q3), (5, q5)]), (12, [(3, q5), (4, q3), (5, q5)]), (13, []), (14, [])], []⟩), (2047, ⟨[(4, [])], []⟩), (4090, ⟨[(5, []), (6, [(0, [.str])]), (9, [(3, q5), (4, q3), (5, q5)]), (12, [(3, q5), (4, q3), (5, q5)]), (13, []), (14, [])], []⟩), (32723, ⟨[(5, []), (6, [(0, [.str])]), (9, [(3, q5), (4, q3), (5, q5)]), (12, [(3, q5), (4, q3), (5, q5)]), (13, []), (14, [])], []⟩), (65443, ⟨[(5, []), (9, [(3, q5), (4, q3), (5, q5)]), (12, [(3, q5), (4, q3), (5, q5)]), (13, [])], []⟩)]
abbrev S1 (x1 x2 : List Int) : St := mkSt [(0, .c (.sl 0)), (1, .c (.sl 32))] [(0, .row .ro [.int .u8] x1), (32, .row .ro [.int .u8] x2)]
abbrev S2 (x1 x2 : Int) (x3 : Bool) (x4 : List ByteArray) (x5 x6 x7 x8 x9 x10 : Int) (x11 : L5) (x12 : L3) (x13 x14 : L5) (x15 : L3) (x16 : L5) : St := mkSt [(5, .c (si x1)), (6, .c (.sl 9006)), (9, .c (.ptr 9009 0 0)), (11, .c (si x2)), (12, .c (.ptr 9012 0 0)), (13, .c (.s (.bool x3)))] [(9006, .row .own [.str] x4), (9009, .box [si x5, si x6, si x7, .sl 1039009, .sl 1049009, .sl 1059009]), (9012, .box [si x8, si x9, si x10, .sl 1039012, .sl 1049012, .sl 1059012]), (1039009, .row .own q5 x11), (1049009, .row .own q3 x12), (1059009, .row .own q5 x13), (1039012, .row .own q5 x14), (1049012, .row .own q3 x15), (1059012, .row .own q5 x16)]
abbrev S3 (x1 : Bool) : St := mkSt [(4, .c (.s (.bool x1)))] []
abbrev S4 (x1 : Int) (x2 : Bool) (x3 : Int) (x4 : List ByteArray) (x5 x6 x7 x8 x9 x10 : Int) (x11 : L5) (x12 : L3) (x13 x14 : L5) (x15 : L3) (x16 : L5) : St := mkSt [(5, .c (si x1)), (6, .c (.sl 9006)), (9, .c (.ptr 9009 0 0)), (12, .c (.ptr 9012 0 0)), (13, .c (.s (.bool x2))), (14, .c (si x3))] [(9006, .row .own [.str] x4), (9009, .box [si x5, si x6, si x7, .sl 1039009, .sl 1049009, .sl 1059009]), (9012, .box [si x8, si x9, si x10, .sl 1039012, .sl 1049012, .sl 1059012]), (1039009, .row .own q5 x11), (1049009, .row .own q3 x12), (1059009, .row .own q5 x13), (1039012, .row .own q5 x14), (1049012, .row .own q3 x15), (1059012, .row .own q5 x16)]
abbrev S5 (x1 : Int) (x2 : Bool) (x3 x4 x5 x6 x7 x8 : Int) (x9 : L5) (x10 : L3) (x11 x12 : L5) (x13 : L3) (x14 : L5) : St := mkSt [(5, .c (si x1)), (9, .c (.ptr 9009 0 0)), (12, .c (.ptr 9012 0 0)), (13, .c (.s (.bool x2)))] [(9009, .box [si x3, si x4, si x5, .sl 1039009, .sl 1049009, .sl 1059009]), (9012, .box [si x6, si x7, si x8, .sl 1039012, .sl 1049012, .sl 1059012]), (1039009, .row .own q5 x9), (1049009, .row .own q3 x10), (1059009, .row .own q5 x11), (1039012, .row .own q5 x12), (1049012, .row .own q3 x13), (1059012, .row .own q5 x14)]
noncomputable abbrev V (g : Cs R) (k : Nat) (K : Kont R) (b : List Bool) (p : Nat) (st : St) : Option R := ev E (G g) k H (nodeAt (bodyOf Tryz.f3) b) p st K
noncomputable abbrev U (g : Cs R) (k : Nat) (n : Nat) (b : List Bool) : Nat → St → (St → Option R) → Kont R → Option R := evPre E (G g) k H n (nodeAt (bodyOf Tryz.f3) b)
noncomputable abbrev W (g : Cs R) (k : Nat) (b : List Bool) (p : Nat) : St → Kont R → Option R := ev E (G g) k H (nodeAt (bodyOf Tryz.f3) b) p
variable (g : Cs R) (k : Nat)
def s1 (g : Cs R) (k : Nat) (a0 a1 : List Int) (j : Int → Int → Bool → List ByteArray → Int → Int → Int → Int → Int → Int → (L5) → (L3) → (L5) → (L5) → (L3) → (L5) → Option R) (q : Bool → Option R) : Option R :=
 cond (decide ((1048576 : Int) < (a0.length : Int))) (q true) (cond (decide ((1048576 : Int) < (a1.length : Int))) (q true) (g.f6 a0 (fun r1 r2 => g.f7 r1 r2 (fun r3 r4 r5 r6 r7 r8 r9 => g.f8 r1 r2 (fun r10 r11 r12 r13 r14 r15 r16 => cond (!(r16 == r9)) (cond (r16 == r9) (g.f9 r10 r11 r12 r13 r14 r15 r3 r4 r5 r6 r7 r8 (fun r17 => q r17)) (q false)) (g.f9 r10 r11 r12 r13 r14 r15 r3 r4 r5 r6 r7 r8 (fun r18 => cond (!r18) (cond (r16 == r9) (g.f9 r10 r11 r12 r13 r14 r15 r3 r4 r5 r6 r7 r8 (fun r19 => q r19)) (q false)) (cond (!r16) (cond (r16 == r9) (g.f9 r10 r11 r12 r13 r14 r15 r3 r4 r5 r6 r7 r8 (fun r20 => q r20)) (q false)) (cond (!decide ((IntKind.wrap .i64 ((r2.length : Int) + 1)) = 0)) (let y21 := (Int.tmod (a1.length : Int) (IntKind.wrap .i64 ((r2.length : Int) + 1))); cond (decide (0 ≤ y21) && decide (y21 ≤ (r2.length : Int))) (g.f8 r1 (part (cs := [.str]) r2 0 y21.toNat) (fun r22 r23 r24 r25 r26 r27 r28 => j r1 y21 r28 r2 r10 r11 r12 r22 r23 r24 r13 r14 r15 r25 r26 r27)) none) none)))))))))
theorem s1_ev (a0 a1 : List Int) (X : St → Option R) (K : Kont R) : U g k 8 [] 1 (S1 a0 a1) X K = s1 g k a0 a1 (fun z0 z1 z2 z3 z4 z5 z6 z7 z8 z9 z10 z11 z12 z13 z14 z15 => X (S2 z0 z1 z2 z3 z4 z5 z6 z7 z8 z9 z10 z11 z12 z13 z14 z15)) (fun z16 => K .ret (S3 z16)) := by kernel_rfl
def s2 (g : Cs R) (k : Nat) (z0 z1 : Int) (z2 : Bool) (z3 : List ByteArray) (z4 z5 z6 z7 z8 z9 : Int) (z10 : L5) (z11 : L3) (z12 z13 : L5) (z14 : L3) (z15 : L5) (j : Option R) : Option R :=
 j
theorem s2_ev (z0 z1 : Int) (z2 : Bool) (z3 : List ByteArray) (z4 z5 z6 z7 z8 z9 : Int) (z10 : L5) (z11 : L3) (z12 z13 : L5) (z14 : L3) (z15 : L5) (X : St → Option R) (K : Kont R) : U g k 1 [true, true, true, true, true, true, true, true, false] 1022 (S2 z0 z1 z2 z3 z4 z5 z6 z7 z8 z9 z10 z11 z12 z13 z14 z15) X K = s2 g k z0 z1 z2 z3 z4 z5 z6 z7 z8 z9 z10 z11 z12 z13 z14 z15 (X (S4 z0 z2 z1 z3 z4 z5 z6 z7 z8 z9 z10 z11 z12 z13 z14 z15)) := by kernel_rfl
def s3 (g : Cs R) (k : Nat) (z0 : Int) (z17 : Bool) (z18 : Int) (z3 : List ByteArray) (z4 z5 z6 z19 z20 z21 : Int) (z10 : L5) (z11 : L3) (z12 z22 : L5) (z23 : L3) (z24 : L5) (j : Bool → Int → Int → Int → Int → (L5) → (L3) → (L5) → Option R) (x0 : Option R) : Option R :=
 cond (decide (z18 < (z3.length : Int))) (cond (decide (0 ≤ z18) && decide (z18 < (z3.length : Int))) (g.f10 z19 z20 z21 z22 z23 z24 (z3.getD z18.toNat ByteArray.empty) (fun r1 r2 r3 r4 r5 r6 r7 => cond z17 (j r7 (IntKind.wrap .i64 (z18 + 1)) r1 r2 r3 r4 r5 r6) (j false (IntKind.wrap .i64 (z18 + 1)) r1 r2 r3 r4 r5 r6))) none) (x0)
theorem s3_ev (z0 : Int) (z17 : Bool) (z18 : Int) (z3 : List ByteArray) (z4 z5 z6 z19 z20 z21 : Int) (z10 : L5) (z11 : L3) (z12 z22 : L5) (z23 : L3) (z24 : L5) (K : Kont R) : V g k K [true, true, true, true, true, true, true, true, false, true, false, false] 8180 (S4 z0 z17 z18 z3 z4 z5 z6 z19 z20 z21 z10 z11 z12 z22 z23 z24) = s3 g k z0 z17 z18 z3 z4 z5 z6 z19 z20 z21 z10 z11 z12 z22 z23 z24 (fun z25 z26 z27 z28 z29 z30 z31 z32 => K .normal (S4 z0 z25 z26 z3 z4 z5 z6 z27 z28 z29 z10 z11 z12 z30 z31 z32)) (K (.exit 0) (S5 z0 z17 z4 z5 z6 z19 z20 z21 z10 z11 z12 z22 z23 z24)) := by kernel_rfl
def l4r (g : Cs R) (k : Nat) (z0 : Int) (z3 : List ByteArray) (z4 z5 z6 : Int) (z10 : L5) (z11 : L3) (z12 : L5) (x0 : Bool → Int → Int → Int → (L5) → (L3) → (L5) → Option R) : Nat → Bool → Int → Int → Int → Int → (L5) → (L3) → (L5) → Option R
 | 0, _, _, _, _, _, _, _, _ => none
 | n + 1, z17, z18, z19, z20, z21, z22, z23, z24 => s3 g k z0 z17 z18 z3 z4 z5 z6 z19 z20 z21 z10 z11 z12 z22 z23 z24 (fun z25 z26 z27 z28 z29 z30 z31 z32 => l4r g k z0 z3 z4 z5 z6 z10 z11 z12 x0 n z25 z26 z27 z28 z29 z30 z31 z32) (x0 z17 z19 z20 z21 z22 z23 z24)
def l4 (g : Cs R) (k : Nat) (z0 : Int) (z2 : Bool) (z1 : Int) (z3 : List ByteArray) (z4 z5 z6 z7 z8 z9 : Int) (z10 : L5) (z11 : L3) (z12 z13 : L5) (z14 : L3) (z15 : L5) (x0 : Bool → Int → Int → Int → (L5) → (L3) → (L5) → Option R) : Option R := l4r g k z0 z3 z4 z5 z6 z10 z11 z12 x0 k z2 z1 z7 z8 z9 z13 z14 z15
theorem l4r_ev (z0 : Int) (z3 : List ByteArray) (z4 z5 z6 : Int) (z10 : L5) (z11 : L3) (z12 : L5) (K : Kont R) : ∀ (n : Nat) (z17 : Bool) (z18 z19 z20 z21 : Int) (z22 : L5) (z23 : L3) (z24 : L5), evLoop (W g k [true, true, true, true, true, true, true, true, false, true, false, false] 8180) (atMeet H 4090) K n (S4 z0 z17 z18 z3 z4 z5 z6 z19 z20 z21 z10 z11 z12 z22 z23 z24) = l4r g k z0 z3 z4 z5 z6 z10 z11 z12 (fun z33 z34 z35 z36 z37 z38 z39 => K (.exit 0) (S5 z0 z33 z4 z5 z6 z34 z35 z36 z10 z11 z12 z37 z38 z39)) n z17 z18 z19 z20 z21 z22 z23 z24 := by
 intro n
 induction n with
 | zero => intros; rfl
 | succ n ih =>
  intro z17 z18 z19 z20 z21 z22 z23 z24
  exact Eq.trans (by kernel_rfl) ((s3_ev g k z0 z17 z18 z3 z4 z5 z6 z19 z20 z21 z10 z11 z12 z22 z23 z24 (loopK (W g k [true, true, true, true, true, true, true, true, false, true, false, false] 8180) (atMeet H 4090) K n)).trans (Eq.trans (by kernel_rfl) (congrArg (fun f_ => s3 g k z0 z17 z18 z3 z4 z5 z6 z19 z20 z21 z10 z11 z12 z22 z23 z24 f_ (K (.exit 0) (S5 z0 z17 z4 z5 z6 z19 z20 z21 z10 z11 z12 z22 z23 z24))) (funext fun (z25 : Bool) => (funext fun (z26 : Int) => (funext fun (z27 : Int) => (funext fun (z28 : Int) => (funext fun (z29 : Int) => (funext fun (z30 : L5) => (funext fun (z31 : L3) => (funext fun (z32 : L5) => (ih z25 z26 z27 z28 z29 z30 z31 z32))))))))))))
theorem l4_ev (z0 : Int) (z2 : Bool) (z1 : Int) (z3 : List ByteArray) (z4 z5 z6 z7 z8 z9 : Int) (z10 : L5) (z11 : L3) (z12 z13 : L5) (z14 : L3) (z15 : L5) (K : Kont R) : V g k K [true, true, true, true, true, true, true, true, false, true, false] 4090 (S4 z0 z2 z1 z3 z4 z5 z6 z7 z8 z9 z10 z11 z12 z13 z14 z15) = l4 g k z0 z2 z1 z3 z4 z5 z6 z7 z8 z9 z10 z11 z12 z13 z14 z15 (fun z33 z34 z35 z36 z37 z38 z39 => K (.exit 0) (S5 z0 z33 z4 z5 z6 z34 z35 z36 z10 z11 z12 z37 z38 z39)) :=
 Eq.trans (by kernel_rfl) (l4r_ev g k z0 z3 z4 z5 z6 z10 z11 z12 K k z2 z1 z7 z8 z9 z13 z14 z15)
def b5 (g : Cs R) (k : Nat) (z0 : Int) (z2 : Bool) (z1 : Int) (z3 : List ByteArray) (z4 z5 z6 z7 z8 z9 : Int) (z10 : L5) (z11 : L3) (z12 z13 : L5) (z14 : L3) (z15 : L5) (j : Bool → Int → Int → Int → (L5) → (L3) → (L5) → Option R) : Option R :=
 l4 g k z0 z2 z1 z3 z4 z5 z6 z7 z8 z9 z10 z11 z12 z13 z14 z15 (fun z33 z34 z35 z36 z37 z38 z39 => j z33 z34 z35 z36 z37 z38 z39)
theorem b5_ev (z0 : Int) (z2 : Bool) (z1 : Int) (z3 : List ByteArray) (z4 z5 z6 z7 z8 z9 : Int) (z10 : L5) (z11 : L3) (z12 z13 : L5) (z14 : L3) (z15 : L5) (K : Kont R) : V g k K [true, true, true, true, true, true, true, true, false, true] 2045 (S4 z0 z2 z1 z3 z4 z5 z6 z7 z8 z9 z10 z11 z12 z13 z14 z15) = b5 g k z0 z2 z1 z3 z4 z5 z6 z7 z8 z9 z10 z11 z12 z13 z14 z15 (fun z40 z41 z42 z43 z44 z45 z46 => K .normal (S5 z0 z40 z4 z5 z6 z41 z42 z43 z10 z11 z12 z44 z45 z46)) :=
 Eq.trans (by kernel_rfl) ((l4_ev g k z0 z2 z1 z3 z4 z5 z6 z7 z8 z9 z10 z11 z12 z13 z14 z15 (blockK 0 (fun st => K .normal (atMeet H 2045 st)) K)).trans (by kernel_rfl))
def c6 (g : Cs R) (k : Nat) (z0 z1 : Int) (z2 : Bool) (z3 : List ByteArray) (z4 z5 z6 z7 z8 z9 : Int) (z10 : L5) (z11 : L3) (z12 z13 : L5) (z14 : L3) (z15 : L5) (j : Bool → Int → Int → Int → (L5) → (L3) → (L5) → Option R) : Option R :=
 s2 g k z0 z1 z2 z3 z4 z5 z6 z7 z8 z9 z10 z11 z12 z13 z14 z15 (b5 g k z0 z2 z1 z3 z4 z5 z6 z7 z8 z9 z10 z11 z12 z13 z14 z15 (fun z40 z41 z42 z43 z44 z45 z46 => j z40 z41 z42 z43 z44 z45 z46))
theorem c6_ev (z0 z1 : Int) (z2 : Bool) (z3 : List ByteArray) (z4 z5 z6 z7 z8 z9 : Int) (z10 : L5) (z11 : L3) (z12 z13 : L5) (z14 : L3) (z15 : L5) (K : Kont R) : V g k K [true, true, true, true, true, true, true, true, false] 1022 (S2 z0 z1 z2 z3 z4 z5 z6 z7 z8 z9 z10 z11 z12 z13 z14 z15) = c6 g k z0 z1 z2 z3 z4 z5 z6 z7 z8 z9 z10 z11 z12 z13 z14 z15 (fun z47 z48 z49 z50 z51 z52 z53 => K .normal (S5 z0 z47 z4 z5 z6 z48 z49 z50 z10 z11 z12 z51 z52 z53)) :=
 (Eq.trans (by kernel_rfl) (s2_ev g k z0 z1 z2 z3 z4 z5 z6 z7 z8 z9 z10 z11 z12 z13 z14 z15 (V g k K [true, true, true, true, true, true, true, true, false, true] 2045) K)).trans (congrArg (fun f_ => s2 g k z0 z1 z2 z3 z4 z5 z6 z7 z8 z9 z10 z11 z12 z13 z14 z15 f_) (b5_ev g k z0 z2 z1 z3 z4 z5 z6 z7 z8 z9 z10 z11 z12 z13 z14 z15 K))
def s7 (g : Cs R) (k : Nat) (z0 : Int) (z47 : Bool) (z4 z5 z6 z48 z49 z50 : Int) (z10 : L5) (z11 : L3) (z12 z51 : L5) (z52 : L3) (z53 : L5) (q : Bool → Option R) : Option R :=
 cond z47 (g.f9 z48 z49 z50 z51 z52 z53 z4 z5 z6 z10 z11 z12 (fun r1 => cond r1 (g.f11 z0 (fun r2 r3 r4 r5 r6 r7 => g.f12 z0 (fun r8 r9 r10 r11 r12 r13 => g.f9 r2 r3 r4 r5 r6 r7 r8 r9 r10 r11 r12 r13 (fun r14 => q r14)))) (q false))) (q false)
theorem s7_ev (z0 : Int) (z47 : Bool) (z4 z5 z6 z48 z49 z50 : Int) (z10 : L5) (z11 : L3) (z12 z51 : L5) (z52 : L3) (z53 : L5) (K : Kont R) : V g k K [true, true, true, true, true, true, true, true, true] 1023 (S5 z0 z47 z4 z5 z6 z48 z49 z50 z10 z11 z12 z51 z52 z53) = s7 g k z0 z47 z4 z5 z6 z48 z49 z50 z10 z11 z12 z51 z52 z53 (fun z54 => K .ret (S3 z54)) := by kernel_rfl
def c8 (g : Cs R) (k : Nat) (z0 z1 : Int) (z2 : Bool) (z3 : List ByteArray) (z4 z5 z6 z7 z8 z9 : Int) (z10 : L5) (z11 : L3) (z12 z13 : L5) (z14 : L3) (z15 : L5) (q : Bool → Option R) : Option R :=
 c6 g k z0 z1 z2 z3 z4 z5 z6 z7 z8 z9 z10 z11 z12 z13 z14 z15 (fun z47 z48 z49 z50 z51 z52 z53 => s7 g k z0 z47 z4 z5 z6 z48 z49 z50 z10 z11 z12 z51 z52 z53 (fun z54 => q z54))
theorem c8_ev (z0 z1 : Int) (z2 : Bool) (z3 : List ByteArray) (z4 z5 z6 z7 z8 z9 : Int) (z10 : L5) (z11 : L3) (z12 z13 : L5) (z14 : L3) (z15 : L5) (K : Kont R) : V g k K [true, true, true, true, true, true, true, true] 511 (S2 z0 z1 z2 z3 z4 z5 z6 z7 z8 z9 z10 z11 z12 z13 z14 z15) = c8 g k z0 z1 z2 z3 z4 z5 z6 z7 z8 z9 z10 z11 z12 z13 z14 z15 (fun z55 => K .ret (S3 z55)) :=
 (Eq.trans (by kernel_rfl) (c6_ev g k z0 z1 z2 z3 z4 z5 z6 z7 z8 z9 z10 z11 z12 z13 z14 z15 (seqK (V g k K [true, true, true, true, true, true, true, true, true] 1023) K))).trans (congrArg (fun f_ => c6 g k z0 z1 z2 z3 z4 z5 z6 z7 z8 z9 z10 z11 z12 z13 z14 z15 f_) (funext fun (z47 : Bool) => (funext fun (z48 : Int) => (funext fun (z49 : Int) => (funext fun (z50 : Int) => (funext fun (z51 : L5) => (funext fun (z52 : L3) => (funext fun (z53 : L5) => (seqN (f := (V g k K [true, true, true, true, true, true, true, true, true] 1023)) (K := K) (s7_ev g k z0 z47 z4 z5 z6 z48 z49 z50 z10 z11 z12 z51 z52 z53 K))))))))))
def c9 (g : Cs R) (k : Nat) (a0 a1 : List Int) (q : Bool → Option R) : Option R :=
 s1 g k a0 a1 (fun z0 z1 z2 z3 z4 z5 z6 z7 z8 z9 z10 z11 z12 z13 z14 z15 => c8 g k z0 z1 z2 z3 z4 z5 z6 z7 z8 z9 z10 z11 z12 z13 z14 z15 (fun z55 => q z55)) (fun z16 => q z16)
theorem c9_ev (a0 a1 : List Int) (K : Kont R) : V g k K [] 1 (S1 a0 a1) = c9 g k a0 a1 (fun z56 => K .ret (S3 z56)) :=
 (Eq.trans (by kernel_rfl) (s1_ev g k a0 a1 (V g k K [true, true, true, true, true, true, true, true] 511) K)).trans (congrArg (fun f_ => s1 g k a0 a1 f_ (fun z16 => K .ret (S3 z16))) (funext fun (z0 : Int) => (funext fun (z1 : Int) => (funext fun (z2 : Bool) => (funext fun (z3 : List ByteArray) => (funext fun (z4 : Int) => (funext fun (z5 : Int) => (funext fun (z6 : Int) => (funext fun (z7 : Int) => (funext fun (z8 : Int) => (funext fun (z9 : Int) => (funext fun (z10 : L5) => (funext fun (z11 : L3) => (funext fun (z12 : L5) => (funext fun (z13 : L5) => (funext fun (z14 : L3) => (funext fun (z15 : L5) => (c8_ev g k z0 z1 z2 z3 z4 z5 z6 z7 z8 z9 z10 z11 z12 z13 z14 z15 K))))))))))))))))))
def b (g : Cs R) (k : Nat) (a0 a1 : List Int) (K : Bool → Option R) : Option R :=
 c9 g k a0 a1 (fun z56 => K z56)
theorem evs (a0 a1 : List Int) (KF : Ret → Option R) : evFunc E (G g) k H [] false Tryz.f3 [.val false [.row .ro [.int .u8] a0], .val false [.row .ro [.int .u8] a1]] KF = b g k a0 a1 (fun r1 => KF ⟨[.val false [.s (.bool r1)]], []⟩) :=
 Eq.trans (by kernel_rfl) ((c9_ev g k a0 a1 (fin E.P false Tryz.f3 [] KF)).trans (by kernel_rfl))
end laws_FnKeepOf
namespace laws_FnKeepOf
def g (k : Nat) : Cs R := ⟨(), spec_DrawKeepOf.c k, spec_KeepOf.c k, impl_KeepOf.c k, laws_lbKeep.c k, impl_KeepDo.c k, impl_KeepStart.c k, spec_KeepStart.c k⟩
def c (k : Nat) : T R := b (g k) k
end laws_FnKeepOf
end Go.Ev.F
