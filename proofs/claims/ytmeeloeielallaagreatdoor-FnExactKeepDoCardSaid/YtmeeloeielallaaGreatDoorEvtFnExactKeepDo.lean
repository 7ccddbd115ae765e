/- The Go functions as plain functions, and that the evaluator comes to them. No condition. Written by a program of this session. -/
import Derived.Test.YtmeeloeielallaaGreatDoorEvtFnExactKeepDoa
namespace Go.Ev.F
open Go.Proofs
set_option linter.unusedVariables false
set_option maxRecDepth 100000
variable {R : Type}
/-! ### spec_KeepOk: function 42 -/
namespace spec_KeepOk
abbrev T (R : Type) : Type := Int → Int → Int → (L5) → (L3) → (L5) → (Bool → Option R) → Option R
def con (f : T R) : Con R := ⟨[], fun args K => match args with
 | [.val true [.s (.int .i64 A), .s (.int .i64 B), .s (.int .i64 C), D, F, J]] => withRow q5 D fun M => withRow q3 F fun N => withRow q5 J fun O => f A B C M N O (fun r1 => K ⟨[.val false [.s (.bool r1)]], []⟩)
 | _ => none⟩
structure Cs (R : Type) where
  none_ : Unit := ()
  f26 : spec_l3Keeper.T R
  f52 : spec_l6In.T R
  f71 : spec_l12Notes.T R
  f72 : spec_l12Marks.T R
  f73 : spec_l12Way.T R
  f74 : spec_l12Mark.T R
def G (g : Cs R) : Cons R := [(26, spec_l3Keeper.con g.f26), (52, spec_l6In.con g.f52), (71, spec_l12Notes.con g.f71), (72, spec_l12Marks.con g.f72), (73, spec_l12Way.con g.f73), (74, spec_l12Mark.con g.f74)]
def H : List (Nat × Meet) := [(13, ⟨[(1, [(3, q5), (4, q3), (5, q5)])], []⟩), (28, ⟨[(1, [(3, q5), (4, q3), (5, q5)]), (3, [])], []⟩), (53, ⟨[(2, [])], []⟩), (58, ⟨[(1, [(3, q5), (4, q3), (5, q5)]), (3, [])], []⟩), (60, ⟨[(1, [(3, q5), (4, q3), (5, q5)]), (5, [])], []⟩), (122, ⟨[(1, [(3, q5), (4, q3), (5, q5)]), (5, [])], []⟩), (124, ⟨[(1, [(3, q5), (4, q3), (5, q5)]), (7, [])], []⟩), (127, ⟨[(2, [])], []⟩), (250, ⟨[(1, [(3, q5), (4, q3), (5, q5)]), (7, [])], []⟩), (467, ⟨[(1, [(3, q5), (4, q3), (5, q5)]), (3, [])], []⟩), (931, ⟨[(1, [(3, q5), (4, q3), (5, q5)])], []⟩), (979, ⟨[(1, [(3, q5), (4, q3), (5, q5)]), (5, [])], []⟩), (1955, ⟨[(1, [(3, q5), (4, q3), (5, q5)])], []⟩), (2003, ⟨[(1, [(3, q5), (4, q3), (5, q5)]), (7, [])], []⟩), (4003, ⟨[], []⟩), (14925, ⟨[(2, [])], []⟩), (31309, ⟨[(2, [])], []⟩), (64077, ⟨[(2, [])], []⟩)]
abbrev S1 (x1 x2 x3 : Int) (x4 : L5) (x5 : L3) (x6 : L5) : St := mkSt [(0, .agg [si x1, si x2, si x3, .sl 3, .sl 4, .sl 5])] [(3, .row .ro q5 x4), (4, .row .ro q3 x5), (5, .row .ro q5 x6)]
abbrev S2 (x1 x2 x3 : Int) (x4 : L5) (x5 : L3) (x6 : L5) : St := mkSt [(1, .c (.ptr 9001 0 0))] [(9001, .box [si x1, si x2, si x3, .sl 3, .sl 4, .sl 5]), (3, .row .ro q5 x4), (4, .row .ro q3 x5), (5, .row .ro q5 x6)]
abbrev S3 (x1 : Bool) : St := mkSt [(2, .c (.s (.bool x1)))] []
abbrev S4 (x1 x2 x3 x4 : Int) (x5 : L5) (x6 : L3) (x7 : L5) : St := mkSt [(1, .c (.ptr 9001 0 0)), (3, .c (si x1))] [(9001, .box [si x2, si x3, si x4, .sl 3, .sl 4, .sl 5]), (3, .row .ro q5 x5), (4, .row .ro q3 x6), (5, .row .ro q5 x7)]
abbrev S5 (x1 x2 x3 x4 : Int) (x5 : L5) (x6 : L3) (x7 : L5) : St := mkSt [(1, .c (.ptr 9001 0 0)), (5, .c (si x1))] [(9001, .box [si x2, si x3, si x4, .sl 3, .sl 4, .sl 5]), (3, .row .ro q5 x5), (4, .row .ro q3 x6), (5, .row .ro q5 x7)]
abbrev S6 (x1 x2 x3 x4 : Int) (x5 : L5) (x6 : L3) (x7 : L5) : St := mkSt [(1, .c (.ptr 9001 0 0)), (7, .c (si x1))] [(9001, .box [si x2, si x3, si x4, .sl 3, .sl 4, .sl 5]), (3, .row .ro q5 x5), (4, .row .ro q3 x6), (5, .row .ro q5 x7)]
abbrev S7 : St := mkSt [] []
noncomputable abbrev V (g : Cs R) (k : Nat) (K : Kont R) (b : List Bool) (p : Nat) (st : St) : Option R := ev E (G g) k H (nodeAt (bodyOf Tryz.f42) b) p st K
noncomputable abbrev U (g : Cs R) (k : Nat) (n : Nat) (b : List Bool) : Nat → St → (St → Option R) → Kont R → Option R := evPre E (G g) k H n (nodeAt (bodyOf Tryz.f42) b)
noncomputable abbrev W (g : Cs R) (k : Nat) (b : List Bool) (p : Nat) : St → Kont R → Option R := ev E (G g) k H (nodeAt (bodyOf Tryz.f42) b) p
variable (g : Cs R) (k : Nat)
def s1 (g : Cs R) (k : Nat) (A B C : Int) (D : L5) (F : L3) (J : L5) (j : Option R) (q : Bool → Option R) : Option R :=
 g.f26 A (fun r1 => cond (!r1) (q false) (g.f52 B 0 999 (fun r2 => cond (!r2) (q false) (g.f52 C 1 100 (fun r3 => cond (!r3) (q false) (g.f71 D 6 (fun r4 => cond (!r4) (q false) (g.f72 F (fun r5 => cond (!r5) (q false) (g.f71 J 6 (fun r6 => cond (!r6) (q false) (j))))))))))))
theorem s1_ev (A B C : Int) (D : L5) (F : L3) (J : L5) (X : St → Option R) (K : Kont R) : U g k 2 [] 1 (S1 A B C D F J) X K = s1 g k A B C D F J (X (S2 A B C D F J)) (fun z0 => K .ret (S3 z0)) := by kernel_rfl
def s2 (g : Cs R) (k : Nat) (A B C : Int) (D : L5) (F : L3) (J : L5) (j : Int → Option R) : Option R :=
 j 0
theorem s2_ev (A B C : Int) (D : L5) (F : L3) (J : L5) (X : St → Option R) (K : Kont R) : U g k 1 [true, true, false] 14 (S2 A B C D F J) X K = s2 g k A B C D F J (fun z1 => X (S4 z1 A B C D F J)) := by kernel_rfl
def s3 (g : Cs R) (k : Nat) (z2 B D F : Int) (A : L5) (C : L3) (J : L5) (j : Int → Option R) (x0 : Option R) (q : Bool → Option R) : Option R :=
 cond (decide (z2 < (A.length : Int))) (cond (decide (0 ≤ z2) && decide (z2 < (A.length : Int))) (let y1 := (A.getD z2.toNat n5).2.2.2.1; cond (decide (y1 ≤ D)) (q false) (g.f73 ((A.getD z2.toNat n5).1) ((A.getD z2.toNat n5).2.1) ((A.getD z2.toNat n5).2.2.1) ((A.getD z2.toNat n5).2.2.2.1) ((A.getD z2.toNat n5).2.2.2.2) B (fun r2 => cond (!r2) (q false) (let y3 := (A.getD z2.toNat n5).1; cond (decide (y3 = B)) (let y4 := (A.getD z2.toNat n5).2.1; cond (decide (F ≤ y4)) (q false) (let y5 := (A.getD z2.toNat n5).1; let y6 := (A.getD z2.toNat n5).2.1; g.f74 C y5 y6 (fun r7 => cond (decide ((0 : Int) ≤ r7)) (q false) (j (IntKind.wrap .i64 (z2 + 1)))))) (let y8 := (A.getD z2.toNat n5).1; let y9 := (A.getD z2.toNat n5).2.1; g.f74 C y8 y9 (fun r10 => cond (decide ((0 : Int) ≤ r10)) (q false) (j (IntKind.wrap .i64 (z2 + 1))))))))) none) (x0)
theorem s3_ev (z2 A B C : Int) (D : L5) (F : L3) (J : L5) (K : Kont R) : V g k K [true, true, false, true, false, false] 116 (S4 z2 A B C D F J) = s3 g k z2 A B C D F J (fun z3 => K .normal (S4 z3 A B C D F J)) (K (.exit 0) (S2 A B C D F J)) (fun z4 => K .ret (S3 z4)) := by kernel_rfl
def l4r (g : Cs R) (k : Nat) (A B C : Int) (D : L5) (F : L3) (J : L5) (x0 : Option R) (q : Bool → Option R) : Nat → Int → Option R
 | 0, _ => none
 | n + 1, z2 => s3 g k z2 A B C D F J (fun z3 => l4r g k A B C D F J x0 q n z3) (x0) (fun z4 => q z4)
def l4 (g : Cs R) (k : Nat) (z1 A B C : Int) (D : L5) (F : L3) (J : L5) (x0 : Option R) (q : Bool → Option R) : Option R := l4r g k A B C D F J x0 q k z1
theorem l4r_ev (A B C : Int) (D : L5) (F : L3) (J : L5) (K : Kont R) : ∀ (n : Nat) (z2 : Int), evLoop (W g k [true, true, false, true, false, false] 116) (atMeet H 58) K n (S4 z2 A B C D F J) = l4r g k A B C D F J (K (.exit 0) (S2 A B C D F J)) (fun z5 => K .ret (S3 z5)) n z2 := by
 intro n
 induction n with
 | zero => intros; rfl
 | succ n ih =>
  intro z2
  exact Eq.trans (by kernel_rfl) ((s3_ev g k z2 A B C D F J (loopK (W g k [true, true, false, true, false, false] 116) (atMeet H 58) K n)).trans (Eq.trans (by kernel_rfl) (congrArg (fun f_ => s3 g k z2 A B C D F J f_ (K (.exit 0) (S2 A B C D F J)) (fun z4 => K .ret (S3 z4))) (funext fun (z3 : Int) => (ih z3)))))
theorem l4_ev (z1 A B C : Int) (D : L5) (F : L3) (J : L5) (K : Kont R) : V g k K [true, true, false, true, false] 58 (S4 z1 A B C D F J) = l4 g k z1 A B C D F J (K (.exit 0) (S2 A B C D F J)) (fun z5 => K .ret (S3 z5)) :=
 Eq.trans (by kernel_rfl) (l4r_ev g k A B C D F J K k z1)
def b5 (g : Cs R) (k : Nat) (z1 A B C : Int) (D : L5) (F : L3) (J : L5) (j : Option R) (q : Bool → Option R) : Option R :=
 l4 g k z1 A B C D F J (j) (fun z5 => q z5)
theorem b5_ev (z1 A B C : Int) (D : L5) (F : L3) (J : L5) (K : Kont R) : V g k K [true, true, false, true] 29 (S4 z1 A B C D F J) = b5 g k z1 A B C D F J (K .normal (S2 A B C D F J)) (fun z6 => K .ret (S3 z6)) :=
 Eq.trans (by kernel_rfl) ((l4_ev g k z1 A B C D F J (blockK 0 (fun st => K .normal (atMeet H 29 st)) K)).trans (by kernel_rfl))
def c6 (g : Cs R) (k : Nat) (A B C : Int) (D : L5) (F : L3) (J : L5) (j : Option R) (q : Bool → Option R) : Option R :=
 s2 g k A B C D F J (fun z1 => b5 g k z1 A B C D F J (j) (fun z6 => q z6))
theorem c6_ev (A B C : Int) (D : L5) (F : L3) (J : L5) (K : Kont R) : V g k K [true, true, false] 14 (S2 A B C D F J) = c6 g k A B C D F J (K .normal (S2 A B C D F J)) (fun z7 => K .ret (S3 z7)) :=
 (Eq.trans (by kernel_rfl) (s2_ev g k A B C D F J (V g k K [true, true, false, true] 29) K)).trans (congrArg (fun f_ => s2 g k A B C D F J f_) (funext fun (z1 : Int) => (b5_ev g k z1 A B C D F J K)))
def s7 (g : Cs R) (k : Nat) (A B C : Int) (D : L5) (F : L3) (J : L5) (j : Int → Option R) : Option R :=
 j 0
theorem s7_ev (A B C : Int) (D : L5) (F : L3) (J : L5) (X : St → Option R) (K : Kont R) : U g k 1 [true, true, true, false] 30 (S2 A B C D F J) X K = s7 g k A B C D F J (fun z8 => X (S5 z8 A B C D F J)) := by kernel_rfl
def s8 (g : Cs R) (k : Nat) (z9 B C D : Int) (F : L5) (A : L3) (J : L5) (j : Int → Option R) (x2 : Option R) (q : Bool → Option R) : Option R :=
 cond (decide (z9 < (A.length : Int))) (cond (decide (0 ≤ z9) && decide (z9 < (A.length : Int))) (let y1 := (A.getD z9.toNat n3).2.2; cond (decide (y1 ≤ C)) (q false) (let y2 := (A.getD z9.toNat n3).1; cond (decide (y2 = B)) (let y3 := (A.getD z9.toNat n3).2.1; cond (decide (D ≤ y3)) (q false) (j (IntKind.wrap .i64 (z9 + 1)))) (j (IntKind.wrap .i64 (z9 + 1))))) none) (x2)
theorem s8_ev (z9 A B C : Int) (D : L5) (F : L3) (J : L5) (K : Kont R) : V g k K [true, true, true, false, true, false, false] 244 (S5 z9 A B C D F J) = s8 g k z9 A B C D F J (fun z10 => K .normal (S5 z10 A B C D F J)) (K (.exit 2) (S2 A B C D F J)) (fun z11 => K .ret (S3 z11)) := by kernel_rfl
def l9r (g : Cs R) (k : Nat) (A B C : Int) (D : L5) (F : L3) (J : L5) (x2 : Option R) (q : Bool → Option R) : Nat → Int → Option R
 | 0, _ => none
 | n + 1, z9 => s8 g k z9 A B C D F J (fun z10 => l9r g k A B C D F J x2 q n z10) (x2) (fun z11 => q z11)
def l9 (g : Cs R) (k : Nat) (z8 A B C : Int) (D : L5) (F : L3) (J : L5) (x2 : Option R) (q : Bool → Option R) : Option R := l9r g k A B C D F J x2 q k z8
theorem l9r_ev (A B C : Int) (D : L5) (F : L3) (J : L5) (K : Kont R) : ∀ (n : Nat) (z9 : Int), evLoop (W g k [true, true, true, false, true, false, false] 244) (atMeet H 122) K n (S5 z9 A B C D F J) = l9r g k A B C D F J (K (.exit 2) (S2 A B C D F J)) (fun z12 => K .ret (S3 z12)) n z9 := by
 intro n
 induction n with
 | zero => intros; rfl
 | succ n ih =>
  intro z9
  exact Eq.trans (by kernel_rfl) ((s8_ev g k z9 A B C D F J (loopK (W g k [true, true, true, false, true, false, false] 244) (atMeet H 122) K n)).trans (Eq.trans (by kernel_rfl) (congrArg (fun f_ => s8 g k z9 A B C D F J f_ (K (.exit 2) (S2 A B C D F J)) (fun z11 => K .ret (S3 z11))) (funext fun (z10 : Int) => (ih z10)))))
theorem l9_ev (z8 A B C : Int) (D : L5) (F : L3) (J : L5) (K : Kont R) : V g k K [true, true, true, false, true, false] 122 (S5 z8 A B C D F J) = l9 g k z8 A B C D F J (K (.exit 2) (S2 A B C D F J)) (fun z12 => K .ret (S3 z12)) :=
 Eq.trans (by kernel_rfl) (l9r_ev g k A B C D F J K k z8)
def b10 (g : Cs R) (k : Nat) (z8 A B C : Int) (D : L5) (F : L3) (J : L5) (j : Option R) (q : Bool → Option R) : Option R :=
 l9 g k z8 A B C D F J (j) (fun z12 => q z12)
theorem b10_ev (z8 A B C : Int) (D : L5) (F : L3) (J : L5) (K : Kont R) : V g k K [true, true, true, false, true] 61 (S5 z8 A B C D F J) = b10 g k z8 A B C D F J (K .normal (S2 A B C D F J)) (fun z13 => K .ret (S3 z13)) :=
 Eq.trans (by kernel_rfl) ((l9_ev g k z8 A B C D F J (blockK 2 (fun st => K .normal (atMeet H 61 st)) K)).trans (by kernel_rfl))
def c11 (g : Cs R) (k : Nat) (A B C : Int) (D : L5) (F : L3) (J : L5) (j : Option R) (q : Bool → Option R) : Option R :=
 s7 g k A B C D F J (fun z8 => b10 g k z8 A B C D F J (j) (fun z13 => q z13))
theorem c11_ev (A B C : Int) (D : L5) (F : L3) (J : L5) (K : Kont R) : V g k K [true, true, true, false] 30 (S2 A B C D F J) = c11 g k A B C D F J (K .normal (S2 A B C D F J)) (fun z14 => K .ret (S3 z14)) :=
 (Eq.trans (by kernel_rfl) (s7_ev g k A B C D F J (V g k K [true, true, true, false, true] 61) K)).trans (congrArg (fun f_ => s7 g k A B C D F J f_) (funext fun (z8 : Int) => (b10_ev g k z8 A B C D F J K)))
def s12 (g : Cs R) (k : Nat) (A B C : Int) (D : L5) (F : L3) (J : L5) (j : Int → Option R) : Option R :=
 j 0
theorem s12_ev (A B C : Int) (D : L5) (F : L3) (J : L5) (X : St → Option R) (K : Kont R) : U g k 1 [true, true, true, true, false] 62 (S2 A B C D F J) X K = s12 g k A B C D F J (fun z15 => X (S6 z15 A B C D F J)) := by kernel_rfl
def s13 (g : Cs R) (k : Nat) (z16 B C F : Int) (J : L5) (D : L3) (A : L5) (j : Int → Option R) (x4 : Option R) (q : Bool → Option R) : Option R :=
 cond (decide (z16 < (A.length : Int))) (cond (decide (0 ≤ z16) && decide (z16 < (A.length : Int))) (let y1 := (A.getD z16.toNat n5).2.2.1; cond (!decide (y1 = B)) (q false) (let y2 := (A.getD z16.toNat n5).1; cond (decide (y2 = B)) (let y3 := (A.getD z16.toNat n5).2.1; cond (decide (F ≤ y3)) (q false) (let y4 := (A.getD z16.toNat n5).2.2.2.1; cond (decide (C < y4)) (let y5 := (A.getD z16.toNat n5).1; let y6 := (A.getD z16.toNat n5).2.1; g.f74 D y5 y6 (fun r7 => cond (decide (r7 < 0)) (q false) (j (IntKind.wrap .i64 (z16 + 1))))) (j (IntKind.wrap .i64 (z16 + 1))))) (let y8 := (A.getD z16.toNat n5).2.2.2.1; cond (decide (C < y8)) (let y9 := (A.getD z16.toNat n5).1; let y10 := (A.getD z16.toNat n5).2.1; g.f74 D y9 y10 (fun r11 => cond (decide (r11 < 0)) (q false) (j (IntKind.wrap .i64 (z16 + 1))))) (j (IntKind.wrap .i64 (z16 + 1)))))) none) (x4)
theorem s13_ev (z16 A B C : Int) (D : L5) (F : L3) (J : L5) (K : Kont R) : V g k K [true, true, true, true, false, true, false, false] 500 (S6 z16 A B C D F J) = s13 g k z16 A B C D F J (fun z17 => K .normal (S6 z17 A B C D F J)) (K (.exit 4) S7) (fun z18 => K .ret (S3 z18)) := by kernel_rfl
def l14r (g : Cs R) (k : Nat) (A B C : Int) (D : L5) (F : L3) (J : L5) (x4 : Option R) (q : Bool → Option R) : Nat → Int → Option R
 | 0, _ => none
 | n + 1, z16 => s13 g k z16 A B C D F J (fun z17 => l14r g k A B C D F J x4 q n z17) (x4) (fun z18 => q z18)
def l14 (g : Cs R) (k : Nat) (z15 A B C : Int) (D : L5) (F : L3) (J : L5) (x4 : Option R) (q : Bool → Option R) : Option R := l14r g k A B C D F J x4 q k z15
theorem l14r_ev (A B C : Int) (D : L5) (F : L3) (J : L5) (K : Kont R) : ∀ (n : Nat) (z16 : Int), evLoop (W g k [true, true, true, true, false, true, false, false] 500) (atMeet H 250) K n (S6 z16 A B C D F J) = l14r g k A B C D F J (K (.exit 4) S7) (fun z19 => K .ret (S3 z19)) n z16 := by
 intro n
 induction n with
 | zero => intros; rfl
 | succ n ih =>
  intro z16
  exact Eq.trans (by kernel_rfl) ((s13_ev g k z16 A B C D F J (loopK (W g k [true, true, true, true, false, true, false, false] 500) (atMeet H 250) K n)).trans (Eq.trans (by kernel_rfl) (congrArg (fun f_ => s13 g k z16 A B C D F J f_ (K (.exit 4) S7) (fun z18 => K .ret (S3 z18))) (funext fun (z17 : Int) => (ih z17)))))
theorem l14_ev (z15 A B C : Int) (D : L5) (F : L3) (J : L5) (K : Kont R) : V g k K [true, true, true, true, false, true, false] 250 (S6 z15 A B C D F J) = l14 g k z15 A B C D F J (K (.exit 4) S7) (fun z19 => K .ret (S3 z19)) :=
 Eq.trans (by kernel_rfl) (l14r_ev g k A B C D F J K k z15)
def b15 (g : Cs R) (k : Nat) (z15 A B C : Int) (D : L5) (F : L3) (J : L5) (j : Option R) (q : Bool → Option R) : Option R :=
 l14 g k z15 A B C D F J (j) (fun z19 => q z19)
theorem b15_ev (z15 A B C : Int) (D : L5) (F : L3) (J : L5) (K : Kont R) : V g k K [true, true, true, true, false, true] 125 (S6 z15 A B C D F J) = b15 g k z15 A B C D F J (K .normal S7) (fun z20 => K .ret (S3 z20)) :=
 Eq.trans (by kernel_rfl) ((l14_ev g k z15 A B C D F J (blockK 4 (fun st => K .normal (atMeet H 125 st)) K)).trans (by kernel_rfl))
def c16 (g : Cs R) (k : Nat) (A B C : Int) (D : L5) (F : L3) (J : L5) (j : Option R) (q : Bool → Option R) : Option R :=
 s12 g k A B C D F J (fun z15 => b15 g k z15 A B C D F J (j) (fun z20 => q z20))
theorem c16_ev (A B C : Int) (D : L5) (F : L3) (J : L5) (K : Kont R) : V g k K [true, true, true, true, false] 62 (S2 A B C D F J) = c16 g k A B C D F J (K .normal S7) (fun z21 => K .ret (S3 z21)) :=
 (Eq.trans (by kernel_rfl) (s12_ev g k A B C D F J (V g k K [true, true, true, true, false, true] 125) K)).trans (congrArg (fun f_ => s12 g k A B C D F J f_) (funext fun (z15 : Int) => (b15_ev g k z15 A B C D F J K)))
def s17 (g : Cs R) (k : Nat)  (q : Bool → Option R) : Option R :=
 q true
theorem s17_ev  (K : Kont R) : V g k K [true, true, true, true, true] 63 S7 = s17 g k (fun z22 => K .ret (S3 z22)) := by kernel_rfl
def c18 (g : Cs R) (k : Nat) (A B C : Int) (D : L5) (F : L3) (J : L5) (q : Bool → Option R) : Option R :=
 c16 g k A B C D F J (s17 g k (fun z22 => q z22)) (fun z21 => q z21)
theorem c18_ev (A B C : Int) (D : L5) (F : L3) (J : L5) (K : Kont R) : V g k K [true, true, true, true] 31 (S2 A B C D F J) = c18 g k A B C D F J (fun z23 => K .ret (S3 z23)) :=
 (Eq.trans (by kernel_rfl) (c16_ev g k A B C D F J (seqK (V g k K [true, true, true, true, true] 63) K))).trans (congrArg (fun f_ => c16 g k A B C D F J f_ (fun z21 => K .ret (S3 z21))) (seqN (f := (V g k K [true, true, true, true, true] 63)) (K := K) (s17_ev g k K)))
def c19 (g : Cs R) (k : Nat) (A B C : Int) (D : L5) (F : L3) (J : L5) (q : Bool → Option R) : Option R :=
 c11 g k A B C D F J (c18 g k A B C D F J (fun z23 => q z23)) (fun z14 => q z14)
theorem c19_ev (A B C : Int) (D : L5) (F : L3) (J : L5) (K : Kont R) : V g k K [true, true, true] 15 (S2 A B C D F J) = c19 g k A B C D F J (fun z24 => K .ret (S3 z24)) :=
 (Eq.trans (by kernel_rfl) (c11_ev g k A B C D F J (seqK (V g k K [true, true, true, true] 31) K))).trans (congrArg (fun f_ => c11 g k A B C D F J f_ (fun z14 => K .ret (S3 z14))) (seqN (f := (V g k K [true, true, true, true] 31)) (K := K) (c18_ev g k A B C D F J K)))
def c20 (g : Cs R) (k : Nat) (A B C : Int) (D : L5) (F : L3) (J : L5) (q : Bool → Option R) : Option R :=
 c6 g k A B C D F J (c19 g k A B C D F J (fun z24 => q z24)) (fun z7 => q z7)
theorem c20_ev (A B C : Int) (D : L5) (F : L3) (J : L5) (K : Kont R) : V g k K [true, true] 7 (S2 A B C D F J) = c20 g k A B C D F J (fun z25 => K .ret (S3 z25)) :=
 (Eq.trans (by kernel_rfl) (c6_ev g k A B C D F J (seqK (V g k K [true, true, true] 15) K))).trans (congrArg (fun f_ => c6 g k A B C D F J f_ (fun z7 => K .ret (S3 z7))) (seqN (f := (V g k K [true, true, true] 15)) (K := K) (c19_ev g k A B C D F J K)))
def c21 (g : Cs R) (k : Nat) (A B C : Int) (D : L5) (F : L3) (J : L5) (q : Bool → Option R) : Option R :=
 s1 g k A B C D F J (c20 g k A B C D F J (fun z25 => q z25)) (fun z0 => q z0)
theorem c21_ev (A B C : Int) (D : L5) (F : L3) (J : L5) (K : Kont R) : V g k K [] 1 (S1 A B C D F J) = c21 g k A B C D F J (fun z26 => K .ret (S3 z26)) :=
 (Eq.trans (by kernel_rfl) (s1_ev g k A B C D F J (V g k K [true, true] 7) K)).trans (congrArg (fun f_ => s1 g k A B C D F J f_ (fun z0 => K .ret (S3 z0))) (c20_ev g k A B C D F J K))
def b (g : Cs R) (k : Nat) (A B C : Int) (D : L5) (F : L3) (J : L5) (K : Bool → Option R) : Option R :=
 c21 g k A B C D F J (fun z26 => K z26)
theorem evs (A B C : Int) (D : L5) (F : L3) (J : L5) (KF : Ret → Option R) : evFunc E (G g) k H [] false Tryz.f42 [.val true [ri A, ri B, ri C, .row .ro q5 D, .row .ro q3 F, .row .ro q5 J]] KF = b g k A B C D F J (fun r1 => KF ⟨[.val false [.s (.bool r1)]], []⟩) :=
 Eq.trans (by kernel_rfl) ((c21_ev g k A B C D F J (fin E.P false Tryz.f42 [] KF)).trans (by kernel_rfl))
end spec_KeepOk
namespace spec_KeepOk
def g (k : Nat) : Cs R := ⟨(), spec_l3Keeper.c k, spec_l6In.c k, spec_l12Notes.c k, spec_l12Marks.c k, spec_l12Way.c k, spec_l12Mark.c k⟩
def c (k : Nat) : T R := b (g k) k
end spec_KeepOk
/-! ### spec_l6Dec: function 48 -/
namespace spec_l6Dec
abbrev T (R : Type) : Type := Int → (ByteArray → Option R) → Option R
def con (f : T R) : Con R := ⟨[], fun args K => match args with
 | [.val false [.s (.int .i64 a0)]] => f a0 (fun r1 => K ⟨[.val false [.s (.string r1)]], []⟩)
 | _ => none⟩
structure Cs (R : Type) where
  none_ : Unit := ()
  f48 : T R
def G (g : Cs R) : Cons R := [(48, con g.f48)]
def H : List (Nat × Meet) := []
variable (g : Cs R) (k : Nat)
def b (g : Cs R) (k : Nat) (a0 : Int) (K : ByteArray → Option R) : Option R :=
 cond (decide (a0 < (-9223372036854775807))) (K (ByteArray.mk #[45, 57, 50, 50, 51, 51, 55, 50, 48, 51, 54, 56, 53, 52, 55, 55, 53, 56, 48, 56])) (cond (decide (a0 < 0)) (g.f48 (IntKind.wrap .i64 (0 - a0)) (fun r1 => cond (decide ((ByteArray.mk #[45]).size + r1.size ≤ 9223372036854775807)) (K ((ByteArray.mk #[45]) ++ r1)) none)) (cond (decide (a0 < 10)) (let y2 := (IntKind.wrap .u8 ((IntKind.wrap .i64 ((48 : Int) + a0)))); K (ofBytes ([y2] : List Int))) (cond (!decide ((10 : Int) = 0)) (g.f48 (IntKind.wrap .i64 (Int.tdiv a0 10)) (fun r3 => cond (!decide ((10 : Int) = 0)) (let y4 := (IntKind.wrap .i64 ((48 : Int) + (Int.tmod a0 10))); cond (decide (r3.size + (ofBytes ([(IntKind.wrap .u8 (y4))] : List Int)).size ≤ 9223372036854775807)) (let y5 := (r3 ++ (ofBytes ([(IntKind.wrap .u8 (y4))] : List Int))); K y5) none) none)) none)))
theorem evs (a0 : Int) (KF : Ret → Option R) : evFunc E (G g) k H [] false Tryz.f48 [.val false [ri a0]] KF = b g k a0 (fun r1 => KF ⟨[.val false [.s (.string r1)]], []⟩) :=
 by kernel_rfl
end spec_l6Dec
namespace spec_l6Dec
def c : Nat → T R
 | 0 => fun _ _ => none
 | k + 1 => b ⟨(), c k⟩ k
end spec_l6Dec
namespace spec_l6Dec
def g (k : Nat) : Cs R := ⟨(), c k⟩
end spec_l6Dec
/-! ### spec_l3Word: function 75 -/
namespace spec_l3Word
abbrev T (R : Type) : Type := ByteArray → (ByteArray → ByteArray → Option R) → Option R
def con (f : T R) : Con R := ⟨[], fun args K => match args with
 | [.val false [.s (.string a0)]] => f a0 (fun r1 r2 => K ⟨[.val false [.s (.string r1)], .val false [.s (.string r2)]], []⟩)
 | _ => none⟩
structure Cs (R : Type) where
  none_ : Unit := ()
def G (g : Cs R) : Cons R := []
def H : List (Nat × Meet) := [(2, ⟨[(0, [])], []⟩), (12, ⟨[(0, []), (4, [])], []⟩), (15, ⟨[(2, []), (3, [])], []⟩), (26, ⟨[(0, []), (4, [])], []⟩), (211, ⟨[(0, []), (4, [])], []⟩), (419, ⟨[(0, [])], []⟩), (3365, ⟨[(2, []), (3, [])], []⟩)]
abbrev S1 (x1 : ByteArray) : St := mkSt [(0, .c (.s (.string x1)))] []
abbrev S2 (x1 : ByteArray) (x2 : Int) : St := mkSt [(0, .c (.s (.string x1))), (4, .c (si x2))] []
abbrev S3 (x1 x2 : ByteArray) : St := mkSt [(2, .c (.s (.string x1))), (3, .c (.s (.string x2)))] []
noncomputable abbrev V (g : Cs R) (k : Nat) (K : Kont R) (b : List Bool) (p : Nat) (st : St) : Option R := ev E (G g) k H (nodeAt (bodyOf Tryz.f75) b) p st K
noncomputable abbrev U (g : Cs R) (k : Nat) (n : Nat) (b : List Bool) : Nat → St → (St → Option R) → Kont R → Option R := evPre E (G g) k H n (nodeAt (bodyOf Tryz.f75) b)
noncomputable abbrev W (g : Cs R) (k : Nat) (b : List Bool) (p : Nat) : St → Kont R → Option R := ev E (G g) k H (nodeAt (bodyOf Tryz.f75) b) p
variable (g : Cs R) (k : Nat)
def s1 (g : Cs R) (k : Nat) (a0 : ByteArray) (j : Option R) : Option R :=
 j
theorem s1_ev (a0 : ByteArray) (X : St → Option R) (K : Kont R) : U g k 1 [] 1 (S1 a0) X K = s1 g k a0 (X (S1 a0)) := by kernel_rfl
def s2 (g : Cs R) (k : Nat) (a0 : ByteArray) (j : Int → Option R) : Option R :=
 j 0
theorem s2_ev (a0 : ByteArray) (X : St → Option R) (K : Kont R) : U g k 1 [true, false] 6 (S1 a0) X K = s2 g k a0 (fun z0 => X (S2 a0 z0)) := by kernel_rfl
def s3 (g : Cs R) (k : Nat) (a0 : ByteArray) (z1 : Int) (j : Int → Option R) (x0 : Option R) (q : ByteArray → ByteArray → Option R) : Option R :=
 cond (decide (z1 < (a0.size : Int))) (cond (decide (0 ≤ z1) && decide (z1 < (a0.size : Int))) (cond (decide ((byteAt a0 z1.toNat) = 32)) (cond (decide (0 ≤ z1) && decide (z1 ≤ (a0.size : Int))) (cond (decide (0 ≤ (IntKind.wrap .i64 (z1 + 1))) && decide ((IntKind.wrap .i64 (z1 + 1)) ≤ (a0.size : Int))) (let y1 := (a0.extract ((IntKind.wrap .i64 (z1 + 1)).toNat) a0.size); q (a0.extract 0 z1.toNat) y1) none) none) (j (IntKind.wrap .i64 (z1 + 1)))) none) (x0)
theorem s3_ev (a0 : ByteArray) (z1 : Int) (K : Kont R) : V g k K [true, false, true, false, false] 52 (S2 a0 z1) = s3 g k a0 z1 (fun z2 => K .normal (S2 a0 z2)) (K (.exit 0) (S1 a0)) (fun z3 z4 => K .ret (S3 z3 z4)) := by kernel_rfl
def l4r (g : Cs R) (k : Nat) (a0 : ByteArray) (x0 : Option R) (q : ByteArray → ByteArray → Option R) : Nat → Int → Option R
 | 0, _ => none
 | n + 1, z1 => s3 g k a0 z1 (fun z2 => l4r g k a0 x0 q n z2) (x0) (fun z3 z4 => q z3 z4)
def l4 (g : Cs R) (k : Nat) (a0 : ByteArray) (z0 : Int) (x0 : Option R) (q : ByteArray → ByteArray → Option R) : Option R := l4r g k a0 x0 q k z0
theorem l4r_ev (a0 : ByteArray) (K : Kont R) : ∀ (n : Nat) (z1 : Int), evLoop (W g k [true, false, true, false, false] 52) (atMeet H 26) K n (S2 a0 z1) = l4r g k a0 (K (.exit 0) (S1 a0)) (fun z5 z6 => K .ret (S3 z5 z6)) n z1 := by
 intro n
 induction n with
 | zero => intros; rfl
 | succ n ih =>
  intro z1
  exact Eq.trans (by kernel_rfl) ((s3_ev g k a0 z1 (loopK (W g k [true, false, true, false, false] 52) (atMeet H 26) K n)).trans (Eq.trans (by kernel_rfl) (congrArg (fun f_ => s3 g k a0 z1 f_ (K (.exit 0) (S1 a0)) (fun z3 z4 => K .ret (S3 z3 z4))) (funext fun (z2 : Int) => (ih z2)))))
theorem l4_ev (a0 : ByteArray) (z0 : Int) (K : Kont R) : V g k K [true, false, true, false] 26 (S2 a0 z0) = l4 g k a0 z0 (K (.exit 0) (S1 a0)) (fun z5 z6 => K .ret (S3 z5 z6)) :=
 Eq.trans (by kernel_rfl) (l4r_ev g k a0 K k z0)
def b5 (g : Cs R) (k : Nat) (a0 : ByteArray) (z0 : Int) (j : Option R) (q : ByteArray → ByteArray → Option R) : Option R :=
 l4 g k a0 z0 (j) (fun z5 z6 => q z5 z6)
theorem b5_ev (a0 : ByteArray) (z0 : Int) (K : Kont R) : V g k K [true, false, true] 13 (S2 a0 z0) = b5 g k a0 z0 (K .normal (S1 a0)) (fun z7 z8 => K .ret (S3 z7 z8)) :=
 Eq.trans (by kernel_rfl) ((l4_ev g k a0 z0 (blockK 0 (fun st => K .normal (atMeet H 13 st)) K)).trans (by kernel_rfl))
def c6 (g : Cs R) (k : Nat) (a0 : ByteArray) (j : Option R) (q : ByteArray → ByteArray → Option R) : Option R :=
 s2 g k a0 (fun z0 => b5 g k a0 z0 (j) (fun z7 z8 => q z7 z8))
theorem c6_ev (a0 : ByteArray) (K : Kont R) : V g k K [true, false] 6 (S1 a0) = c6 g k a0 (K .normal (S1 a0)) (fun z9 z10 => K .ret (S3 z9 z10)) :=
 (Eq.trans (by kernel_rfl) (s2_ev g k a0 (V g k K [true, false, true] 13) K)).trans (congrArg (fun f_ => s2 g k a0 f_) (funext fun (z0 : Int) => (b5_ev g k a0 z0 K)))
def s7 (g : Cs R) (k : Nat) (a0 : ByteArray) (q : ByteArray → Option R) : Option R :=
 q (ByteArray.mk #[])
theorem s7_ev (a0 : ByteArray) (K : Kont R) : V g k K [true, true] 7 (S1 a0) = s7 g k a0 (fun z11 => K .ret (S3 a0 z11)) := by kernel_rfl
def c8 (g : Cs R) (k : Nat) (a0 : ByteArray) (q : ByteArray → ByteArray → Option R) : Option R :=
 c6 g k a0 (s7 g k a0 (fun z11 => q a0 z11)) (fun z9 z10 => q z9 z10)
theorem c8_ev (a0 : ByteArray) (K : Kont R) : V g k K [true] 3 (S1 a0) = c8 g k a0 (fun z12 z13 => K .ret (S3 z12 z13)) :=
 (Eq.trans (by kernel_rfl) (c6_ev g k a0 (seqK (V g k K [true, true] 7) K))).trans (congrArg (fun f_ => c6 g k a0 f_ (fun z9 z10 => K .ret (S3 z9 z10))) (seqN (f := (V g k K [true, true] 7)) (K := K) (s7_ev g k a0 K)))
def c9 (g : Cs R) (k : Nat) (a0 : ByteArray) (q : ByteArray → ByteArray → Option R) : Option R :=
 s1 g k a0 (c8 g k a0 (fun z12 z13 => q z12 z13))
theorem c9_ev (a0 : ByteArray) (K : Kont R) : V g k K [] 1 (S1 a0) = c9 g k a0 (fun z14 z15 => K .ret (S3 z14 z15)) :=
 (Eq.trans (by kernel_rfl) (s1_ev g k a0 (V g k K [true] 3) K)).trans (congrArg (fun f_ => s1 g k a0 f_) (c8_ev g k a0 K))
def b (g : Cs R) (k : Nat) (a0 : ByteArray) (K : ByteArray → ByteArray → Option R) : Option R :=
 c9 g k a0 (fun z14 z15 => K z14 z15)
theorem evs (a0 : ByteArray) (KF : Ret → Option R) : evFunc E (G g) k H [] false Tryz.f75 [.val false [.s (.string a0)]] KF = b g k a0 (fun r1 r2 => KF ⟨[.val false [.s (.string r1)], .val false [.s (.string r2)]], []⟩) :=
 Eq.trans (by kernel_rfl) ((c9_ev g k a0 (fin E.P false Tryz.f75 [] KF)).trans (by kernel_rfl))
end spec_l3Word
namespace spec_l3Word
def g (k : Nat) : Cs R := ⟨()⟩
def c (k : Nat) : T R := b (g k) k
end spec_l3Word
/-! ### spec_l3Dec: function 76 -/
namespace spec_l3Dec
abbrev T (R : Type) : Type := ByteArray → (Int → Option R) → Option R
def con (f : T R) : Con R := ⟨[], fun args K => match args with
 | [.val false [.s (.string a0)]] => f a0 (fun r1 => K ⟨[.val false [ri r1]], []⟩)
 | _ => none⟩
structure Cs (R : Type) where
  none_ : Unit := ()
  f48 : spec_l6Dec.T R
def G (g : Cs R) : Cons R := [(48, spec_l6Dec.con g.f48)]
def H : List (Nat × Meet) := [(14, ⟨[(0, []), (3, [])], []⟩), (53, ⟨[(2, [])], []⟩), (60, ⟨[(0, []), (3, []), (4, [])], []⟩), (122, ⟨[(0, []), (3, []), (4, [])], []⟩), (127, ⟨[(2, [])], []⟩), (501, ⟨[(2, [])], []⟩), (979, ⟨[(0, []), (3, []), (4, [])], []⟩), (1955, ⟨[(0, []), (3, [])], []⟩), (31301, ⟨[(2, [])], []⟩)]
abbrev S1 (x1 : ByteArray) (x2 : Int) : St := mkSt [(0, .c (.s (.string x1))), (3, .c (si x2))] []
abbrev S2 (x1 : Int) : St := mkSt [(2, .c (si x1))] []
abbrev S3 (x1 : ByteArray) (x2 x3 : Int) : St := mkSt [(0, .c (.s (.string x1))), (3, .c (si x2)), (4, .c (si x3))] []
noncomputable abbrev V (g : Cs R) (k : Nat) (K : Kont R) (b : List Bool) (p : Nat) (st : St) : Option R := ev E (G g) k H (nodeAt (bodyOf Tryz.f76) b) p st K
noncomputable abbrev U (g : Cs R) (k : Nat) (n : Nat) (b : List Bool) : Nat → St → (St → Option R) → Kont R → Option R := evPre E (G g) k H n (nodeAt (bodyOf Tryz.f76) b)
noncomputable abbrev W (g : Cs R) (k : Nat) (b : List Bool) (p : Nat) : St → Kont R → Option R := ev E (G g) k H (nodeAt (bodyOf Tryz.f76) b) p
variable (g : Cs R) (k : Nat)
def s1 (g : Cs R) (k : Nat) (a0 : ByteArray) (j : Int → Option R) (q : Int → Option R) : Option R :=
 cond (decide ((a0.size : Int) < 1)) (q (-1)) (cond (decide ((4 : Int) < (a0.size : Int))) (q (-1)) (j 0))
theorem s1_ev (a0 : ByteArray) (X : St → Option R) (K : Kont R) : U g k 3 [] 1 (mkSt [(0, .c (.s (.string a0)))] []) X K = s1 g k a0 (fun z0 => X (S1 a0 z0)) (fun z1 => K .ret (S2 z1)) := by kernel_rfl
def s2 (g : Cs R) (k : Nat) (a0 : ByteArray) (z0 : Int) (j : Int → Option R) : Option R :=
 j 0
theorem s2_ev (a0 : ByteArray) (z0 : Int) (X : St → Option R) (K : Kont R) : U g k 1 [true, true, true, false] 30 (S1 a0 z0) X K = s2 g k a0 z0 (fun z2 => X (S3 a0 z0 z2)) := by kernel_rfl
def s3 (g : Cs R) (k : Nat) (a0 : ByteArray) (z3 z4 : Int) (j : Int → Int → Option R) (x0 : Option R) (q : Int → Option R) : Option R :=
 cond (decide (z4 < (a0.size : Int))) (cond (decide (0 ≤ z4) && decide (z4 < (a0.size : Int))) (cond (decide ((byteAt a0 z4.toNat) < 48)) (q (-1)) (cond (decide (0 ≤ z4) && decide (z4 < (a0.size : Int))) (cond (decide ((57 : Int) < (byteAt a0 z4.toNat))) (q (-1)) (cond (decide (0 ≤ z4) && decide (z4 < (a0.size : Int))) (let y1 := (IntKind.wrap .u8 ((byteAt a0 z4.toNat) - 48)); let y2 := (IntKind.wrap .i64 ((IntKind.wrap .i64 (z3 * 10)) + (IntKind.wrap .i64 (y1)))); j y2 (IntKind.wrap .i64 (z4 + 1))) none)) none)) none) (x0)
theorem s3_ev (a0 : ByteArray) (z3 z4 : Int) (K : Kont R) : V g k K [true, true, true, false, true, false, false] 244 (S3 a0 z3 z4) = s3 g k a0 z3 z4 (fun z5 z6 => K .normal (S3 a0 z5 z6)) (K (.exit 0) (S1 a0 z3)) (fun z7 => K .ret (S2 z7)) := by kernel_rfl
def l4r (g : Cs R) (k : Nat) (a0 : ByteArray) (x0 : Int → Option R) (q : Int → Option R) : Nat → Int → Int → Option R
 | 0, _, _ => none
 | n + 1, z3, z4 => s3 g k a0 z3 z4 (fun z5 z6 => l4r g k a0 x0 q n z5 z6) (x0 z3) (fun z7 => q z7)
def l4 (g : Cs R) (k : Nat) (a0 : ByteArray) (z0 z2 : Int) (x0 : Int → Option R) (q : Int → Option R) : Option R := l4r g k a0 x0 q k z0 z2
theorem l4r_ev (a0 : ByteArray) (K : Kont R) : ∀ (n : Nat) (z3 z4 : Int), evLoop (W g k [true, true, true, false, true, false, false] 244) (atMeet H 122) K n (S3 a0 z3 z4) = l4r g k a0 (fun z8 => K (.exit 0) (S1 a0 z8)) (fun z9 => K .ret (S2 z9)) n z3 z4 := by
 intro n
 induction n with
 | zero => intros; rfl
 | succ n ih =>
  intro z3 z4
  exact Eq.trans (by kernel_rfl) ((s3_ev g k a0 z3 z4 (loopK (W g k [true, true, true, false, true, false, false] 244) (atMeet H 122) K n)).trans (Eq.trans (by kernel_rfl) (congrArg (fun f_ => s3 g k a0 z3 z4 f_ (K (.exit 0) (S1 a0 z3)) (fun z7 => K .ret (S2 z7))) (funext fun (z5 : Int) => (funext fun (z6 : Int) => (ih z5 z6))))))
theorem l4_ev (a0 : ByteArray) (z0 z2 : Int) (K : Kont R) : V g k K [true, true, true, false, true, false] 122 (S3 a0 z0 z2) = l4 g k a0 z0 z2 (fun z8 => K (.exit 0) (S1 a0 z8)) (fun z9 => K .ret (S2 z9)) :=
 Eq.trans (by kernel_rfl) (l4r_ev g k a0 K k z0 z2)
def b5 (g : Cs R) (k : Nat) (a0 : ByteArray) (z0 z2 : Int) (j : Int → Option R) (q : Int → Option R) : Option R :=
 l4 g k a0 z0 z2 (fun z8 => j z8) (fun z9 => q z9)
theorem b5_ev (a0 : ByteArray) (z0 z2 : Int) (K : Kont R) : V g k K [true, true, true, false, true] 61 (S3 a0 z0 z2) = b5 g k a0 z0 z2 (fun z10 => K .normal (S1 a0 z10)) (fun z11 => K .ret (S2 z11)) :=
 Eq.trans (by kernel_rfl) ((l4_ev g k a0 z0 z2 (blockK 0 (fun st => K .normal (atMeet H 61 st)) K)).trans (by kernel_rfl))
def c6 (g : Cs R) (k : Nat) (a0 : ByteArray) (z0 : Int) (j : Int → Option R) (q : Int → Option R) : Option R :=
 s2 g k a0 z0 (fun z2 => b5 g k a0 z0 z2 (fun z10 => j z10) (fun z11 => q z11))
theorem c6_ev (a0 : ByteArray) (z0 : Int) (K : Kont R) : V g k K [true, true, true, false] 30 (S1 a0 z0) = c6 g k a0 z0 (fun z12 => K .normal (S1 a0 z12)) (fun z13 => K .ret (S2 z13)) :=
 (Eq.trans (by kernel_rfl) (s2_ev g k a0 z0 (V g k K [true, true, true, false, true] 61) K)).trans (congrArg (fun f_ => s2 g k a0 z0 f_) (funext fun (z2 : Int) => (b5_ev g k a0 z0 z2 K)))
def s7 (g : Cs R) (k : Nat) (a0 : ByteArray) (z12 : Int) (q : Int → Option R) : Option R :=
 g.f48 z12 (fun r1 => cond (!decide (r1 = a0)) (q (-1)) (q z12))
theorem s7_ev (a0 : ByteArray) (z12 : Int) (K : Kont R) : V g k K [true, true, true, true] 31 (S1 a0 z12) = s7 g k a0 z12 (fun z14 => K .ret (S2 z14)) := by kernel_rfl
def c8 (g : Cs R) (k : Nat) (a0 : ByteArray) (z0 : Int) (q : Int → Option R) : Option R :=
 c6 g k a0 z0 (fun z12 => s7 g k a0 z12 (fun z14 => q z14)) (fun z13 => q z13)
theorem c8_ev (a0 : ByteArray) (z0 : Int) (K : Kont R) : V g k K [true, true, true] 15 (S1 a0 z0) = c8 g k a0 z0 (fun z15 => K .ret (S2 z15)) :=
 (Eq.trans (by kernel_rfl) (c6_ev g k a0 z0 (seqK (V g k K [true, true, true, true] 31) K))).trans (congrArg (fun f_ => c6 g k a0 z0 f_ (fun z13 => K .ret (S2 z13))) (funext fun (z12 : Int) => (seqN (f := (V g k K [true, true, true, true] 31)) (K := K) (s7_ev g k a0 z12 K))))
def c9 (g : Cs R) (k : Nat) (a0 : ByteArray) (q : Int → Option R) : Option R :=
 s1 g k a0 (fun z0 => c8 g k a0 z0 (fun z15 => q z15)) (fun z1 => q z1)
theorem c9_ev (a0 : ByteArray) (K : Kont R) : V g k K [] 1 (mkSt [(0, .c (.s (.string a0)))] []) = c9 g k a0 (fun z16 => K .ret (S2 z16)) :=
 (Eq.trans (by kernel_rfl) (s1_ev g k a0 (V g k K [true, true, true] 15) K)).trans (congrArg (fun f_ => s1 g k a0 f_ (fun z1 => K .ret (S2 z1))) (funext fun (z0 : Int) => (c8_ev g k a0 z0 K)))
def b (g : Cs R) (k : Nat) (a0 : ByteArray) (K : Int → Option R) : Option R :=
 c9 g k a0 (fun z16 => K z16)
theorem evs (a0 : ByteArray) (KF : Ret → Option R) : evFunc E (G g) k H [] false Tryz.f76 [.val false [.s (.string a0)]] KF = b g k a0 (fun r1 => KF ⟨[.val false [ri r1]], []⟩) :=
 Eq.trans (by kernel_rfl) ((c9_ev g k a0 (fin E.P false Tryz.f76 [] KF)).trans (by kernel_rfl))
end spec_l3Dec
namespace spec_l3Dec
def g (k : Nat) : Cs R := ⟨(), spec_l6Dec.c k⟩
def c (k : Nat) : T R := b (g k) k
end spec_l3Dec
/-! ### spec_l12Time: function 77 -/
namespace spec_l12Time
abbrev T (R : Type) : Type := Int → Int → Int → (L5) → (L3) → (L5) → Int → (Int → Int → Int → (L5) → (L3) → (L5) → Option R) → Option R
def con (f : T R) : Con R := ⟨[], fun args K => match args with
 | [.val true [.s (.int .i64 A), .s (.int .i64 B), .s (.int .i64 C), D, F, J], .val false [.s (.int .i64 a1)]] => withRow q5 D fun M => withRow q3 F fun N => withRow q5 J fun O => f A B C M N O a1 (fun r1 r2 r3 r4 r5 r6 => K ⟨[.val true [ri r1, ri r2, ri r3, .row .own q5 r4, .row .own q3 r5, .row .ro q5 r6]], []⟩)
 | _ => none⟩
structure Cs (R : Type) where
  none_ : Unit := ()
def G (g : Cs R) : Cons R := []
def H : List (Nat × Meet) := [(6, ⟨[(1, []), (2, [(3, q5), (4, q3), (5, q5)]), (4, [(3, q5), (4, q3), (5, q5)]), (5, [(0, q5)])], []⟩), (28, ⟨[(1, []), (2, [(3, q5), (4, q3), (5, q5)]), (4, [(3, q5), (4, q3), (5, q5)]), (5, [(0, q5)]), (6, [])], []⟩), (30, ⟨[(1, []), (2, [(3, q5), (4, q3), (5, q5)]), (4, [(3, q5), (4, q3), (5, q5)]), (5, [(0, q5)]), (7, [(0, q3)])], []⟩), (58, ⟨[(1, []), (2, [(3, q5), (4, q3), (5, q5)]), (4, [(3, q5), (4, q3), (5, q5)]), (5, [(0, q5)]), (6, [])], []⟩), (124, ⟨[(1, []), (2, [(3, q5), (4, q3), (5, q5)]), (4, [(3, q5), (4, q3), (5, q5)]), (5, [(0, q5)]), (7, [(0, q3)]), (8, [])], []⟩), (250, ⟨[(1, []), (2, [(3, q5), (4, q3), (5, q5)]), (4, [(3, q5), (4, q3), (5, q5)]), (5, [(0, q5)]), (7, [(0, q3)]), (8, [])], []⟩), (467, ⟨[(1, []), (2, [(3, q5), (4, q3), (5, q5)]), (4, [(3, q5), (4, q3), (5, q5)]), (5, [(0, q5)]), (6, [])], []⟩), (931, ⟨[(1, []), (2, [(3, q5), (4, q3), (5, q5)]), (4, [(3, q5), (4, q3), (5, q5)]), (5, [(0, q5)])], []⟩), (1023, ⟨[(4, [(3, q5), (4, q3), (5, q5)])], []⟩), (2003, ⟨[(1, []), (2, [(3, q5), (4, q3), (5, q5)]), (4, [(3, q5), (4, q3), (5, q5)]), (5, [(0, q5)]), (7, [(0, q3)]), (8, [])], []⟩), (4003, ⟨[(1, []), (2, [(3, q5), (4, q3), (5, q5)]), (4, [(3, q5), (4, q3), (5, q5)]), (5, [(0, q5)]), (7, [(0, q3)])], []⟩)]
abbrev S1 (x1 x2 x3 x4 : Int) (x5 : L5) (x6 : L3) (x7 : L5) : St := mkSt [(0, .agg [si x1, si x2, si x3, .sl 3, .sl 4, .sl 5]), (1, .c (si x4))] [(3, .row .ro q5 x5), (4, .row .ro q3 x6), (5, .row .ro q5 x7)]
abbrev S2 (x1 x2 x3 x4 x5 x6 x7 : Int) (x8 x9 : L5) (x10 : L3) (x11 x12 : L5) (x13 : L3) (x14 : L5) : St := mkSt [(1, .c (si x1)), (2, .c (.ptr 9002 0 0)), (4, .c (.ptr 9004 0 0)), (5, .c (.sl 9005))] [(9002, .box [si x2, si x3, si x4, .sl 3, .sl 4, .sl 5]), (9004, .box [si x5, si x6, si x7, .sl 1039004, .sl 1049004, .sl 1059004]), (9005, .row .own q5 x8), (3, .row .ro q5 x9), (4, .row .ro q3 x10), (5, .row .ro q5 x11), (1039004, .row .own q5 x12), (1049004, .row .own q3 x13), (1059004, .row .own q5 x14)]
abbrev S3 (x1 x2 x3 x4 x5 x6 x7 x8 : Int) (x9 x10 : L5) (x11 : L3) (x12 x13 : L5) (x14 : L3) (x15 : L5) : St := mkSt [(1, .c (si x1)), (2, .c (.ptr 9002 0 0)), (4, .c (.ptr 9004 0 0)), (5, .c (.sl 9005)), (6, .c (si x2))] [(9002, .box [si x3, si x4, si x5, .sl 3, .sl 4, .sl 5]), (9004, .box [si x6, si x7, si x8, .sl 1039004, .sl 1049004, .sl 1059004]), (9005, .row .own q5 x9), (3, .row .ro q5 x10), (4, .row .ro q3 x11), (5, .row .ro q5 x12), (1039004, .row .own q5 x13), (1049004, .row .own q3 x14), (1059004, .row .own q5 x15)]
abbrev S4 (x1 x2 x3 x4 x5 x6 x7 : Int) (x8 : L5) (x9 : L3) (x10 : L5) (x11 : L3) (x12 x13 : L5) (x14 : L3) (x15 : L5) : St := mkSt [(1, .c (si x1)), (2, .c (.ptr 9002 0 0)), (4, .c (.ptr 9004 0 0)), (5, .c (.sl 9005)), (7, .c (.sl 9007))] [(9002, .box [si x2, si x3, si x4, .sl 3, .sl 4, .sl 5]), (9004, .box [si x5, si x6, si x7, .sl 1039004, .sl 1049004, .sl 1059004]), (9005, .row .own q5 x8), (9007, .row .own q3 x9), (3, .row .ro q5 x10), (4, .row .ro q3 x11), (5, .row .ro q5 x12), (1039004, .row .own q5 x13), (1049004, .row .own q3 x14), (1059004, .row .own q5 x15)]
abbrev S5 (x1 x2 x3 x4 x5 x6 x7 x8 : Int) (x9 : L5) (x10 : L3) (x11 : L5) (x12 : L3) (x13 x14 : L5) (x15 : L3) (x16 : L5) : St := mkSt [(1, .c (si x1)), (2, .c (.ptr 9002 0 0)), (4, .c (.ptr 9004 0 0)), (5, .c (.sl 9005)), (7, .c (.sl 9007)), (8, .c (si x2))] [(9002, .box [si x3, si x4, si x5, .sl 3, .sl 4, .sl 5]), (9004, .box [si x6, si x7, si x8, .sl 1039004, .sl 1049004, .sl 1059004]), (9005, .row .own q5 x9), (9007, .row .own q3 x10), (3, .row .ro q5 x11), (4, .row .ro q3 x12), (5, .row .ro q5 x13), (1039004, .row .own q5 x14), (1049004, .row .own q3 x15), (1059004, .row .own q5 x16)]
abbrev S6 (x1 x2 x3 : Int) (x4 : L5) (x5 : L3) (x6 : L5) : St := mkSt [(4, .c (.ptr 9004 0 0))] [(9004, .box [si x1, si x2, si x3, .sl 1039004, .sl 1049004, .sl 5]), (1039004, .row .own q5 x4), (1049004, .row .own q3 x5), (5, .row .ro q5 x6)]
noncomputable abbrev V (g : Cs R) (k : Nat) (K : Kont R) (b : List Bool) (p : Nat) (st : St) : Option R := ev E (G g) k H (nodeAt (bodyOf Tryz.f77) b) p st K
noncomputable abbrev U (g : Cs R) (k : Nat) (n : Nat) (b : List Bool) : Nat → St → (St → Option R) → Kont R → Option R := evPre E (G g) k H n (nodeAt (bodyOf Tryz.f77) b)
noncomputable abbrev W (g : Cs R) (k : Nat) (b : List Bool) (p : Nat) : St → Kont R → Option R := ev E (G g) k H (nodeAt (bodyOf Tryz.f77) b) p
variable (g : Cs R) (k : Nat)
def s1 (g : Cs R) (k : Nat) (A B C a1 : Int) (D : L5) (F : L3) (J : L5) (j : Int → Int → Int → (L5) → (L5) → (L3) → (L5) → Option R) : Option R :=
 j 0 0 0 ([] : L5) [] [] []
theorem s1_ev (A B C a1 : Int) (D : L5) (F : L3) (J : L5) (X : St → Option R) (K : Kont R) : U g k 2 [] 1 (S1 A B C a1 D F J) X K = s1 g k A B C a1 D F J (fun z0 z1 z2 z3 z4 z5 z6 => X (S2 a1 A B C z0 z1 z2 z3 D F J z4 z5 z6)) := by kernel_rfl
def s2 (g : Cs R) (k : Nat) (a1 A B C z0 z1 z2 : Int) (z3 D : L5) (F : L3) (J z4 : L5) (z5 : L3) (z6 : L5) (j : Int → Option R) : Option R :=
 j 0
theorem s2_ev (a1 A B C z0 z1 z2 : Int) (z3 D : L5) (F : L3) (J z4 : L5) (z5 : L3) (z6 : L5) (X : St → Option R) (K : Kont R) : U g k 1 [true, true, false] 14 (S2 a1 A B C z0 z1 z2 z3 D F J z4 z5 z6) X K = s2 g k a1 A B C z0 z1 z2 z3 D F J z4 z5 z6 (fun z7 => X (S3 a1 z7 A B C z0 z1 z2 z3 D F J z4 z5 z6)) := by kernel_rfl
def s3 (g : Cs R) (k : Nat) (a1 z8 B C D z0 z1 z2 : Int) (z9 A : L5) (F : L3) (J z4 : L5) (z5 : L3) (z6 : L5) (j : Int → (L5) → Option R) (x0 : Option R) : Option R :=
 cond (decide (z8 < (A.length : Int))) (cond (decide (0 ≤ z8) && decide (z8 < (A.length : Int))) (let y1 := (A.getD z8.toNat n5).2.2.2.1; cond (decide (a1 < y1)) (cond (decide (0 ≤ z8) && decide (z8 < (A.length : Int))) (let y2 := ([((A.getD z8.toNat n5).1, (A.getD z8.toNat n5).2.1, (A.getD z8.toNat n5).2.2.1, (A.getD z8.toNat n5).2.2.2.1, (A.getD z8.toNat n5).2.2.2.2)] : L5); cond (Nat.ble (z9.length + y2.length) lim) (j (IntKind.wrap .i64 (z8 + 1)) (z9 ++ y2)) none) none) (j (IntKind.wrap .i64 (z8 + 1)) z9)) none) (x0)
theorem s3_ev (a1 z8 A B C z0 z1 z2 : Int) (z9 D : L5) (F : L3) (J z4 : L5) (z5 : L3) (z6 : L5) (K : Kont R) : V g k K [true, true, false, true, false, false] 116 (S3 a1 z8 A B C z0 z1 z2 z9 D F J z4 z5 z6) = s3 g k a1 z8 A B C z0 z1 z2 z9 D F J z4 z5 z6 (fun z10 z11 => K .normal (S3 a1 z10 A B C z0 z1 z2 z11 D F J z4 z5 z6)) (K (.exit 0) (S2 a1 A B C z0 z1 z2 z9 D F J z4 z5 z6)) := by kernel_rfl
def l4r (g : Cs R) (k : Nat) (a1 A B C z0 z1 z2 : Int) (D : L5) (F : L3) (J z4 : L5) (z5 : L3) (z6 : L5) (x0 : (L5) → Option R) : Nat → Int → (L5) → Option R
 | 0, _, _ => none
 | n + 1, z8, z9 => s3 g k a1 z8 A B C z0 z1 z2 z9 D F J z4 z5 z6 (fun z10 z11 => l4r g k a1 A B C z0 z1 z2 D F J z4 z5 z6 x0 n z10 z11) (x0 z9)
def l4 (g : Cs R) (k : Nat) (a1 z7 A B C z0 z1 z2 : Int) (z3 D : L5) (F : L3) (J z4 : L5) (z5 : L3) (z6 : L5) (x0 : (L5) → Option R) : Option R := l4r g k a1 A B C z0 z1 z2 D F J z4 z5 z6 x0 k z7 z3
theorem l4r_ev (a1 A B C z0 z1 z2 : Int) (D : L5) (F : L3) (J z4 : L5) (z5 : L3) (z6 : L5) (K : Kont R) : ∀ (n : Nat) (z8 : Int) (z9 : L5), evLoop (W g k [true, true, false, true, false, false] 116) (atMeet H 58) K n (S3 a1 z8 A B C z0 z1 z2 z9 D F J z4 z5 z6) = l4r g k a1 A B C z0 z1 z2 D F J z4 z5 z6 (fun z12 => K (.exit 0) (S2 a1 A B C z0 z1 z2 z12 D F J z4 z5 z6)) n z8 z9 := by
 intro n
 induction n with
 | zero => intros; rfl
 | succ n ih =>
  intro z8 z9
  exact Eq.trans (by kernel_rfl) ((s3_ev g k a1 z8 A B C z0 z1 z2 z9 D F J z4 z5 z6 (loopK (W g k [true, true, false, true, false, false] 116) (atMeet H 58) K n)).trans (Eq.trans (by kernel_rfl) (congrArg (fun f_ => s3 g k a1 z8 A B C z0 z1 z2 z9 D F J z4 z5 z6 f_ (K (.exit 0) (S2 a1 A B C z0 z1 z2 z9 D F J z4 z5 z6))) (funext fun (z10 : Int) => (funext fun (z11 : L5) => (ih z10 z11))))))
theorem l4_ev (a1 z7 A B C z0 z1 z2 : Int) (z3 D : L5) (F : L3) (J z4 : L5) (z5 : L3) (z6 : L5) (K : Kont R) : V g k K [true, true, false, true, false] 58 (S3 a1 z7 A B C z0 z1 z2 z3 D F J z4 z5 z6) = l4 g k a1 z7 A B C z0 z1 z2 z3 D F J z4 z5 z6 (fun z12 => K (.exit 0) (S2 a1 A B C z0 z1 z2 z12 D F J z4 z5 z6)) :=
 Eq.trans (by kernel_rfl) (l4r_ev g k a1 A B C z0 z1 z2 D F J z4 z5 z6 K k z7 z3)
def b5 (g : Cs R) (k : Nat) (a1 z7 A B C z0 z1 z2 : Int) (z3 D : L5) (F : L3) (J z4 : L5) (z5 : L3) (z6 : L5) (j : (L5) → Option R) : Option R :=
 l4 g k a1 z7 A B C z0 z1 z2 z3 D F J z4 z5 z6 (fun z12 => j z12)
theorem b5_ev (a1 z7 A B C z0 z1 z2 : Int) (z3 D : L5) (F : L3) (J z4 : L5) (z5 : L3) (z6 : L5) (K : Kont R) : V g k K [true, true, false, true] 29 (S3 a1 z7 A B C z0 z1 z2 z3 D F J z4 z5 z6) = b5 g k a1 z7 A B C z0 z1 z2 z3 D F J z4 z5 z6 (fun z13 => K .normal (S2 a1 A B C z0 z1 z2 z13 D F J z4 z5 z6)) :=
 Eq.trans (by kernel_rfl) ((l4_ev g k a1 z7 A B C z0 z1 z2 z3 D F J z4 z5 z6 (blockK 0 (fun st => K .normal (atMeet H 29 st)) K)).trans (by kernel_rfl))
def c6 (g : Cs R) (k : Nat) (a1 A B C z0 z1 z2 : Int) (z3 D : L5) (F : L3) (J z4 : L5) (z5 : L3) (z6 : L5) (j : (L5) → Option R) : Option R :=
 s2 g k a1 A B C z0 z1 z2 z3 D F J z4 z5 z6 (fun z7 => b5 g k a1 z7 A B C z0 z1 z2 z3 D F J z4 z5 z6 (fun z13 => j z13))
theorem c6_ev (a1 A B C z0 z1 z2 : Int) (z3 D : L5) (F : L3) (J z4 : L5) (z5 : L3) (z6 : L5) (K : Kont R) : V g k K [true, true, false] 14 (S2 a1 A B C z0 z1 z2 z3 D F J z4 z5 z6) = c6 g k a1 A B C z0 z1 z2 z3 D F J z4 z5 z6 (fun z14 => K .normal (S2 a1 A B C z0 z1 z2 z14 D F J z4 z5 z6)) :=
 (Eq.trans (by kernel_rfl) (s2_ev g k a1 A B C z0 z1 z2 z3 D F J z4 z5 z6 (V g k K [true, true, false, true] 29) K)).trans (congrArg (fun f_ => s2 g k a1 A B C z0 z1 z2 z3 D F J z4 z5 z6 f_) (funext fun (z7 : Int) => (b5_ev g k a1 z7 A B C z0 z1 z2 z3 D F J z4 z5 z6 K)))
def s7 (g : Cs R) (k : Nat) (a1 A B C z0 z1 z2 : Int) (z14 D : L5) (F : L3) (J z4 : L5) (z5 : L3) (z6 : L5) (j : (L3) → Option R) : Option R :=
 j ([] : L3)
theorem s7_ev (a1 A B C z0 z1 z2 : Int) (z14 D : L5) (F : L3) (J z4 : L5) (z5 : L3) (z6 : L5) (X : St → Option R) (K : Kont R) : U g k 1 [true, true, true] 15 (S2 a1 A B C z0 z1 z2 z14 D F J z4 z5 z6) X K = s7 g k a1 A B C z0 z1 z2 z14 D F J z4 z5 z6 (fun z15 => X (S4 a1 A B C z0 z1 z2 z14 z15 D F J z4 z5 z6)) := by kernel_rfl
def s8 (g : Cs R) (k : Nat) (a1 A B C z0 z1 z2 : Int) (z14 : L5) (z15 : L3) (D : L5) (F : L3) (J z4 : L5) (z5 : L3) (z6 : L5) (j : Int → Option R) : Option R :=
 j 0
theorem s8_ev (a1 A B C z0 z1 z2 : Int) (z14 : L5) (z15 : L3) (D : L5) (F : L3) (J z4 : L5) (z5 : L3) (z6 : L5) (X : St → Option R) (K : Kont R) : U g k 1 [true, true, true, true, false] 62 (S4 a1 A B C z0 z1 z2 z14 z15 D F J z4 z5 z6) X K = s8 g k a1 A B C z0 z1 z2 z14 z15 D F J z4 z5 z6 (fun z16 => X (S5 a1 z16 A B C z0 z1 z2 z14 z15 D F J z4 z5 z6)) := by kernel_rfl
def s9 (g : Cs R) (k : Nat) (a1 z17 B C D z0 z1 z2 : Int) (z14 : L5) (z18 : L3) (F : L5) (A : L3) (J z4 : L5) (z5 : L3) (z6 : L5) (j : Int → (L3) → Option R) (x2 : Option R) : Option R :=
 cond (decide (z17 < (A.length : Int))) (cond (decide (0 ≤ z17) && decide (z17 < (A.length : Int))) (let y1 := (A.getD z17.toNat n3).2.2; cond (decide (a1 < y1)) (cond (decide (0 ≤ z17) && decide (z17 < (A.length : Int))) (let y2 := ([((A.getD z17.toNat n3).1, (A.getD z17.toNat n3).2.1, (A.getD z17.toNat n3).2.2)] : L3); cond (Nat.ble (z18.length + y2.length) lim) (j (IntKind.wrap .i64 (z17 + 1)) (z18 ++ y2)) none) none) (j (IntKind.wrap .i64 (z17 + 1)) z18)) none) (x2)
theorem s9_ev (a1 z17 A B C z0 z1 z2 : Int) (z14 : L5) (z18 : L3) (D : L5) (F : L3) (J z4 : L5) (z5 : L3) (z6 : L5) (K : Kont R) : V g k K [true, true, true, true, false, true, false, false] 500 (S5 a1 z17 A B C z0 z1 z2 z14 z18 D F J z4 z5 z6) = s9 g k a1 z17 A B C z0 z1 z2 z14 z18 D F J z4 z5 z6 (fun z19 z20 => K .normal (S5 a1 z19 A B C z0 z1 z2 z14 z20 D F J z4 z5 z6)) (K (.exit 2) (S4 a1 A B C z0 z1 z2 z14 z18 D F J z4 z5 z6)) := by kernel_rfl
def l10r (g : Cs R) (k : Nat) (a1 A B C z0 z1 z2 : Int) (z14 D : L5) (F : L3) (J z4 : L5) (z5 : L3) (z6 : L5) (x2 : (L3) → Option R) : Nat → Int → (L3) → Option R
 | 0, _, _ => none
 | n + 1, z17, z18 => s9 g k a1 z17 A B C z0 z1 z2 z14 z18 D F J z4 z5 z6 (fun z19 z20 => l10r g k a1 A B C z0 z1 z2 z14 D F J z4 z5 z6 x2 n z19 z20) (x2 z18)
def l10 (g : Cs R) (k : Nat) (a1 z16 A B C z0 z1 z2 : Int) (z14 : L5) (z15 : L3) (D : L5) (F : L3) (J z4 : L5) (z5 : L3) (z6 : L5) (x2 : (L3) → Option R) : Option R := l10r g k a1 A B C z0 z1 z2 z14 D F J z4 z5 z6 x2 k z16 z15
theorem l10r_ev (a1 A B C z0 z1 z2 : Int) (z14 D : L5) (F : L3) (J z4 : L5) (z5 : L3) (z6 : L5) (K : Kont R) : ∀ (n : Nat) (z17 : Int) (z18 : L3), evLoop (W g k [true, true, true, true, false, true, false, false] 500) (atMeet H 250) K n (S5 a1 z17 A B C z0 z1 z2 z14 z18 D F J z4 z5 z6) = l10r g k a1 A B C z0 z1 z2 z14 D F J z4 z5 z6 (fun z21 => K (.exit 2) (S4 a1 A B C z0 z1 z2 z14 z21 D F J z4 z5 z6)) n z17 z18 := by
 intro n
 induction n with
 | zero => intros; rfl
 | succ n ih =>
  intro z17 z18
  exact Eq.trans (by kernel_rfl) ((s9_ev g k a1 z17 A B C z0 z1 z2 z14 z18 D F J z4 z5 z6 (loopK (W g k [true, true, true, true, false, true, false, false] 500) (atMeet H 250) K n)).trans (Eq.trans (by kernel_rfl) (congrArg (fun f_ => s9 g k a1 z17 A B C z0 z1 z2 z14 z18 D F J z4 z5 z6 f_ (K (.exit 2) (S4 a1 A B C z0 z1 z2 z14 z18 D F J z4 z5 z6))) (funext fun (z19 : Int) => (funext fun (z20 : L3) => (ih z19 z20))))))
theorem l10_ev (a1 z16 A B C z0 z1 z2 : Int) (z14 : L5) (z15 : L3) (D : L5) (F : L3) (J z4 : L5) (z5 : L3) (z6 : L5) (K : Kont R) : V g k K [true, true, true, true, false, true, false] 250 (S5 a1 z16 A B C z0 z1 z2 z14 z15 D F J z4 z5 z6) = l10 g k a1 z16 A B C z0 z1 z2 z14 z15 D F J z4 z5 z6 (fun z21 => K (.exit 2) (S4 a1 A B C z0 z1 z2 z14 z21 D F J z4 z5 z6)) :=
 Eq.trans (by kernel_rfl) (l10r_ev g k a1 A B C z0 z1 z2 z14 D F J z4 z5 z6 K k z16 z15)
def b11 (g : Cs R) (k : Nat) (a1 z16 A B C z0 z1 z2 : Int) (z14 : L5) (z15 : L3) (D : L5) (F : L3) (J z4 : L5) (z5 : L3) (z6 : L5) (j : (L3) → Option R) : Option R :=
 l10 g k a1 z16 A B C z0 z1 z2 z14 z15 D F J z4 z5 z6 (fun z21 => j z21)
theorem b11_ev (a1 z16 A B C z0 z1 z2 : Int) (z14 : L5) (z15 : L3) (D : L5) (F : L3) (J z4 : L5) (z5 : L3) (z6 : L5) (K : Kont R) : V g k K [true, true, true, true, false, true] 125 (S5 a1 z16 A B C z0 z1 z2 z14 z15 D F J z4 z5 z6) = b11 g k a1 z16 A B C z0 z1 z2 z14 z15 D F J z4 z5 z6 (fun z22 => K .normal (S4 a1 A B C z0 z1 z2 z14 z22 D F J z4 z5 z6)) :=
 Eq.trans (by kernel_rfl) ((l10_ev g k a1 z16 A B C z0 z1 z2 z14 z15 D F J z4 z5 z6 (blockK 2 (fun st => K .normal (atMeet H 125 st)) K)).trans (by kernel_rfl))
def c12 (g : Cs R) (k : Nat) (a1 A B C z0 z1 z2 : Int) (z14 : L5) (z15 : L3) (D : L5) (F : L3) (J z4 : L5) (z5 : L3) (z6 : L5) (j : (L3) → Option R) : Option R :=
 s8 g k a1 A B C z0 z1 z2 z14 z15 D F J z4 z5 z6 (fun z16 => b11 g k a1 z16 A B C z0 z1 z2 z14 z15 D F J z4 z5 z6 (fun z22 => j z22))
theorem c12_ev (a1 A B C z0 z1 z2 : Int) (z14 : L5) (z15 : L3) (D : L5) (F : L3) (J z4 : L5) (z5 : L3) (z6 : L5) (K : Kont R) : V g k K [true, true, true, true, false] 62 (S4 a1 A B C z0 z1 z2 z14 z15 D F J z4 z5 z6) = c12 g k a1 A B C z0 z1 z2 z14 z15 D F J z4 z5 z6 (fun z23 => K .normal (S4 a1 A B C z0 z1 z2 z14 z23 D F J z4 z5 z6)) :=
 (Eq.trans (by kernel_rfl) (s8_ev g k a1 A B C z0 z1 z2 z14 z15 D F J z4 z5 z6 (V g k K [true, true, true, true, false, true] 125) K)).trans (congrArg (fun f_ => s8 g k a1 A B C z0 z1 z2 z14 z15 D F J z4 z5 z6 f_) (funext fun (z16 : Int) => (b11_ev g k a1 z16 A B C z0 z1 z2 z14 z15 D F J z4 z5 z6 K)))
def s13 (g : Cs R) (k : Nat) (a1 A B C z0 z1 z2 : Int) (z14 : L5) (z23 : L3) (D : L5) (F : L3) (J z4 : L5) (z5 : L3) (z6 : L5) (q : Option R) : Option R :=
 q
theorem s13_ev (a1 A D B z0 z1 z2 : Int) (z14 : L5) (z23 : L3) (F : L5) (J : L3) (C z4 : L5) (z5 : L3) (z6 : L5) (K : Kont R) : V g k K [true, true, true, true, true] 63 (S4 a1 A D B z0 z1 z2 z14 z23 F J C z4 z5 z6) = s13 g k a1 A D B z0 z1 z2 z14 z23 F J C z4 z5 z6 (K .ret (S6 A a1 B z14 z23 C)) := by kernel_rfl
def c14 (g : Cs R) (k : Nat) (a1 A B C z0 z1 z2 : Int) (z14 : L5) (z15 : L3) (D : L5) (F : L3) (J z4 : L5) (z5 : L3) (z6 : L5) (q : (L3) → Option R) : Option R :=
 c12 g k a1 A B C z0 z1 z2 z14 z15 D F J z4 z5 z6 (fun z23 => s13 g k a1 A B C z0 z1 z2 z14 z23 D F J z4 z5 z6 (q z23))
theorem c14_ev (a1 A D B z0 z1 z2 : Int) (z14 : L5) (z15 : L3) (F : L5) (J : L3) (C z4 : L5) (z5 : L3) (z6 : L5) (K : Kont R) : V g k K [true, true, true, true] 31 (S4 a1 A D B z0 z1 z2 z14 z15 F J C z4 z5 z6) = c14 g k a1 A D B z0 z1 z2 z14 z15 F J C z4 z5 z6 (fun z24 => K .ret (S6 A a1 B z14 z24 C)) :=
 (Eq.trans (by kernel_rfl) (c12_ev g k a1 A D B z0 z1 z2 z14 z15 F J C z4 z5 z6 (seqK (V g k K [true, true, true, true, true] 63) K))).trans (congrArg (fun f_ => c12 g k a1 A D B z0 z1 z2 z14 z15 F J C z4 z5 z6 f_) (funext fun (z23 : L3) => (seqN (f := (V g k K [true, true, true, true, true] 63)) (K := K) (s13_ev g k a1 A D B z0 z1 z2 z14 z23 F J C z4 z5 z6 K))))
def c15 (g : Cs R) (k : Nat) (a1 A B C z0 z1 z2 : Int) (z14 D : L5) (F : L3) (J z4 : L5) (z5 : L3) (z6 : L5) (q : (L3) → Option R) : Option R :=
 s7 g k a1 A B C z0 z1 z2 z14 D F J z4 z5 z6 (fun z15 => c14 g k a1 A B C z0 z1 z2 z14 z15 D F J z4 z5 z6 (fun z24 => q z24))
theorem c15_ev (a1 A D B z0 z1 z2 : Int) (z14 F : L5) (J : L3) (C z4 : L5) (z5 : L3) (z6 : L5) (K : Kont R) : V g k K [true, true, true] 15 (S2 a1 A D B z0 z1 z2 z14 F J C z4 z5 z6) = c15 g k a1 A D B z0 z1 z2 z14 F J C z4 z5 z6 (fun z25 => K .ret (S6 A a1 B z14 z25 C)) :=
 (Eq.trans (by kernel_rfl) (s7_ev g k a1 A D B z0 z1 z2 z14 F J C z4 z5 z6 (V g k K [true, true, true, true] 31) K)).trans (congrArg (fun f_ => s7 g k a1 A D B z0 z1 z2 z14 F J C z4 z5 z6 f_) (funext fun (z15 : L3) => (c14_ev g k a1 A D B z0 z1 z2 z14 z15 F J C z4 z5 z6 K)))
def c16 (g : Cs R) (k : Nat) (a1 A B C z0 z1 z2 : Int) (z3 D : L5) (F : L3) (J z4 : L5) (z5 : L3) (z6 : L5) (q : (L5) → (L3) → Option R) : Option R :=
 c6 g k a1 A B C z0 z1 z2 z3 D F J z4 z5 z6 (fun z14 => c15 g k a1 A B C z0 z1 z2 z14 D F J z4 z5 z6 (fun z25 => q z14 z25))
theorem c16_ev (a1 A D B z0 z1 z2 : Int) (z3 F : L5) (J : L3) (C z4 : L5) (z5 : L3) (z6 : L5) (K : Kont R) : V g k K [true, true] 7 (S2 a1 A D B z0 z1 z2 z3 F J C z4 z5 z6) = c16 g k a1 A D B z0 z1 z2 z3 F J C z4 z5 z6 (fun z26 z27 => K .ret (S6 A a1 B z26 z27 C)) :=
 (Eq.trans (by kernel_rfl) (c6_ev g k a1 A D B z0 z1 z2 z3 F J C z4 z5 z6 (seqK (V g k K [true, true, true] 15) K))).trans (congrArg (fun f_ => c6 g k a1 A D B z0 z1 z2 z3 F J C z4 z5 z6 f_) (funext fun (z14 : L5) => (seqN (f := (V g k K [true, true, true] 15)) (K := K) (c15_ev g k a1 A D B z0 z1 z2 z14 F J C z4 z5 z6 K))))
def c17 (g : Cs R) (k : Nat) (A B C a1 : Int) (D : L5) (F : L3) (J : L5) (q : (L5) → (L3) → Option R) : Option R :=
 s1 g k A B C a1 D F J (fun z0 z1 z2 z3 z4 z5 z6 => c16 g k a1 A B C z0 z1 z2 z3 D F J z4 z5 z6 (fun z26 z27 => q z26 z27))
theorem c17_ev (A D B a1 : Int) (F : L5) (J : L3) (C : L5) (K : Kont R) : V g k K [] 1 (S1 A D B a1 F J C) = c17 g k A D B a1 F J C (fun z28 z29 => K .ret (S6 A a1 B z28 z29 C)) :=
 (Eq.trans (by kernel_rfl) (s1_ev g k A D B a1 F J C (V g k K [true, true] 7) K)).trans (congrArg (fun f_ => s1 g k A D B a1 F J C f_) (funext fun (z0 : Int) => (funext fun (z1 : Int) => (funext fun (z2 : Int) => (funext fun (z3 : L5) => (funext fun (z4 : L5) => (funext fun (z5 : L3) => (funext fun (z6 : L5) => (c16_ev g k a1 A D B z0 z1 z2 z3 F J C z4 z5 z6 K)))))))))
def b (g : Cs R) (k : Nat) (A D B : Int) (F : L5) (J : L3) (C : L5) (a1 : Int) (K : Int → Int → Int → (L5) → (L3) → (L5) → Option R) : Option R :=
 c17 g k A D B a1 F J C (fun z28 z29 => K A a1 B z28 z29 C)
theorem evs (A B C : Int) (D : L5) (F : L3) (J : L5) (a1 : Int) (KF : Ret → Option R) : evFunc E (G g) k H [] false Tryz.f77 [.val true [ri A, ri B, ri C, .row .ro q5 D, .row .ro q3 F, .row .ro q5 J], .val false [ri a1]] KF = b g k A B C D F J a1 (fun r1 r2 r3 r4 r5 r6 => KF ⟨[.val true [ri r1, ri r2, ri r3, .row .own q5 r4, .row .own q3 r5, .row .ro q5 r6]], []⟩) :=
 Eq.trans (by kernel_rfl) ((c17_ev g k A B C a1 D F J (fin E.P false Tryz.f77 [] KF)).trans (by kernel_rfl))
end spec_l12Time
namespace spec_l12Time
def g (k : Nat) : Cs R := ⟨()⟩
def c (k : Nat) : T R := b (g k) k
end spec_l12Time
/-! ### spec_NoteWrite: function 49 -/
namespace spec_NoteWrite
abbrev T (R : Type) : Type := Int → Int → Int → Int → ByteArray → (ByteArray → Option R) → Option R
def con (f : T R) : Con R := ⟨[], fun args K => match args with
 | [.val true [.s (.int .i64 A), .s (.int .i64 B), .s (.int .i64 C), .s (.int .i64 D), .s (.string F)]] => f A B C D F (fun r1 => K ⟨[.val false [.s (.string r1)]], []⟩)
 | _ => none⟩
structure Cs (R : Type) where
  none_ : Unit := ()
  f90 : spec_NoteOk.T R
  f48 : spec_l6Dec.T R
def G (g : Cs R) : Cons R := [(90, spec_NoteOk.con g.f90), (48, spec_l6Dec.con g.f48)]
def H : List (Nat × Meet) := []
variable (g : Cs R) (k : Nat)
def b (g : Cs R) (k : Nat) (B C D F : Int) (A : ByteArray) (K : ByteArray → Option R) : Option R :=
 g.f90 B C D F A (fun r1 => cond (!r1) (K (ByteArray.mk #[])) (g.f48 B (fun r2 => cond (decide (r2.size + (ByteArray.mk #[32]).size ≤ 9223372036854775807)) (g.f48 C (fun r3 => cond (decide ((r2 ++ (ByteArray.mk #[32])).size + r3.size ≤ 9223372036854775807)) (cond (decide (((r2 ++ (ByteArray.mk #[32])) ++ r3).size + (ByteArray.mk #[32]).size ≤ 9223372036854775807)) (let y4 := (((r2 ++ (ByteArray.mk #[32])) ++ r3) ++ (ByteArray.mk #[32])); g.f48 D (fun r5 => cond (decide (y4.size + r5.size ≤ 9223372036854775807)) (cond (decide ((y4 ++ r5).size + (ByteArray.mk #[32]).size ≤ 9223372036854775807)) (g.f48 F (fun r6 => cond (decide (((y4 ++ r5) ++ (ByteArray.mk #[32])).size + r6.size ≤ 9223372036854775807)) (cond (decide ((((y4 ++ r5) ++ (ByteArray.mk #[32])) ++ r6).size + (ByteArray.mk #[32]).size ≤ 9223372036854775807)) (let y7 := ((((y4 ++ r5) ++ (ByteArray.mk #[32])) ++ r6) ++ (ByteArray.mk #[32])); cond (decide (y7.size + A.size ≤ 9223372036854775807)) (K (y7 ++ A)) none) none) none)) none) none)) none) none)) none)))
theorem evs (A B C D : Int) (F : ByteArray) (KF : Ret → Option R) : evFunc E (G g) k H [] false Tryz.f49 [.val true [ri A, ri B, ri C, ri D, .s (.string F)]] KF = b g k A B C D F (fun r1 => KF ⟨[.val false [.s (.string r1)]], []⟩) :=
 by kernel_rfl
end spec_NoteWrite
namespace spec_NoteWrite
def g (k : Nat) : Cs R := ⟨(), spec_NoteOk.c k, spec_l6Dec.c k⟩
def c (k : Nat) : T R := b (g k) k
end spec_NoteWrite
/-! ### spec_l3Nums: function 82 -/
namespace spec_l3Nums
abbrev T (R : Type) : Type := ByteArray → Int → (List Int → ByteArray → Option R) → Option R
def con (f : T R) : Con R := ⟨[], fun args K => match args with
 | [.val false [.s (.string a0)], .val false [.s (.int .i64 a1)]] => f a0 a1 (fun r1 r2 => K ⟨[.val false [.row .own [.int .i64] r1], .val false [.s (.string r2)]], []⟩)
 | _ => none⟩
structure Cs (R : Type) where
  none_ : Unit := ()
  f75 : spec_l3Word.T R
  f76 : spec_l3Dec.T R
def G (g : Cs R) : Cons R := [(75, spec_l3Word.con g.f75), (76, spec_l3Dec.con g.f76)]
def H : List (Nat × Meet) := [(6, ⟨[(0, []), (1, []), (6, [(0, [.int .i64])])], []⟩), (28, ⟨[(0, []), (1, []), (6, [(0, [.int .i64])]), (7, [])], []⟩), (31, ⟨[(4, [(0, [.int .i64])]), (5, [])], []⟩), (58, ⟨[(0, []), (1, []), (6, [(0, [.int .i64])]), (7, [])], []⟩), (467, ⟨[(0, []), (1, []), (6, [(0, [.int .i64])]), (7, [])], []⟩), (931, ⟨[(0, []), (6, [(0, [.int .i64])])], []⟩)]
abbrev S1 (x1 : ByteArray) (x2 : Int) (x3 : List Int) : St := mkSt [(0, .c (.s (.string x1))), (1, .c (si x2)), (6, .c (.sl 9006))] [(9006, .row .own [.int .i64] x3)]
abbrev S2 (x1 : ByteArray) (x2 x3 : Int) (x4 : List Int) : St := mkSt [(0, .c (.s (.string x1))), (1, .c (si x2)), (6, .c (.sl 9006)), (7, .c (si x3))] [(9006, .row .own [.int .i64] x4)]
abbrev S3 (x1 : ByteArray) (x2 : List Int) : St := mkSt [(0, .c (.s (.string x1))), (6, .c (.sl 9006))] [(9006, .row .own [.int .i64] x2)]
abbrev S4 (x1 : ByteArray) (x2 : List Int) : St := mkSt [(4, .c (.sl 9004)), (5, .c (.s (.string x1)))] [(9004, .row .own [.int .i64] x2)]
noncomputable abbrev V (g : Cs R) (k : Nat) (K : Kont R) (b : List Bool) (p : Nat) (st : St) : Option R := ev E (G g) k H (nodeAt (bodyOf Tryz.f82) b) p st K
noncomputable abbrev U (g : Cs R) (k : Nat) (n : Nat) (b : List Bool) : Nat → St → (St → Option R) → Kont R → Option R := evPre E (G g) k H n (nodeAt (bodyOf Tryz.f82) b)
noncomputable abbrev W (g : Cs R) (k : Nat) (b : List Bool) (p : Nat) : St → Kont R → Option R := ev E (G g) k H (nodeAt (bodyOf Tryz.f82) b) p
variable (g : Cs R) (k : Nat)
def s1 (g : Cs R) (k : Nat) (a0 : ByteArray) (a1 : Int) (j : List Int → Option R) : Option R :=
 j ([] : List Int)
theorem s1_ev (a0 : ByteArray) (a1 : Int) (X : St → Option R) (K : Kont R) : U g k 2 [] 1 (mkSt [(0, .c (.s (.string a0))), (1, .c (si a1))] []) X K = s1 g k a0 a1 (fun z0 => X (S1 a0 a1 z0)) := by kernel_rfl
def s2 (g : Cs R) (k : Nat) (a0 : ByteArray) (a1 : Int) (z0 : List Int) (j : Int → Option R) : Option R :=
 j 0
theorem s2_ev (a0 : ByteArray) (a1 : Int) (z0 : List Int) (X : St → Option R) (K : Kont R) : U g k 1 [true, true, false] 14 (S1 a0 a1 z0) X K = s2 g k a0 a1 z0 (fun z1 => X (S2 a0 a1 z1 z0)) := by kernel_rfl
def s3 (g : Cs R) (k : Nat) (z2 : ByteArray) (a1 z3 : Int) (z4 : List Int) (j : ByteArray → Int → List Int → Option R) (x0 : Option R) : Option R :=
 cond (decide (z3 < a1)) (g.f75 z2 (fun r1 r2 => g.f76 r1 (fun r3 => cond (Nat.ble (z4.length + ([r3] : List Int).length) lim) (j r2 (IntKind.wrap .i64 (z3 + 1)) (z4 ++ ([r3] : List Int))) none))) (x0)
theorem s3_ev (z2 : ByteArray) (a1 z3 : Int) (z4 : List Int) (K : Kont R) : V g k K [true, true, false, true, false, false] 116 (S2 z2 a1 z3 z4) = s3 g k z2 a1 z3 z4 (fun z5 z6 z7 => K .normal (S2 z5 a1 z6 z7)) (K (.exit 0) (S3 z2 z4)) := by kernel_rfl
def l4r (g : Cs R) (k : Nat) (a1 : Int) (x0 : ByteArray → List Int → Option R) : Nat → ByteArray → Int → List Int → Option R
 | 0, _, _, _ => none
 | n + 1, z2, z3, z4 => s3 g k z2 a1 z3 z4 (fun z5 z6 z7 => l4r g k a1 x0 n z5 z6 z7) (x0 z2 z4)
def l4 (g : Cs R) (k : Nat) (a0 : ByteArray) (a1 z1 : Int) (z0 : List Int) (x0 : ByteArray → List Int → Option R) : Option R := l4r g k a1 x0 k a0 z1 z0
theorem l4r_ev (a1 : Int) (K : Kont R) : ∀ (n : Nat) (z2 : ByteArray) (z3 : Int) (z4 : List Int), evLoop (W g k [true, true, false, true, false, false] 116) (atMeet H 58) K n (S2 z2 a1 z3 z4) = l4r g k a1 (fun z8 z9 => K (.exit 0) (S3 z8 z9)) n z2 z3 z4 := by
 intro n
 induction n with
 | zero => intros; rfl
 | succ n ih =>
  intro z2 z3 z4
  exact Eq.trans (by kernel_rfl) ((s3_ev g k z2 a1 z3 z4 (loopK (W g k [true, true, false, true, false, false] 116) (atMeet H 58) K n)).trans (Eq.trans (by kernel_rfl) (congrArg (fun f_ => s3 g k z2 a1 z3 z4 f_ (K (.exit 0) (S3 z2 z4))) (funext fun (z5 : ByteArray) => (funext fun (z6 : Int) => (funext fun (z7 : List Int) => (ih z5 z6 z7)))))))
theorem l4_ev (a0 : ByteArray) (a1 z1 : Int) (z0 : List Int) (K : Kont R) : V g k K [true, true, false, true, false] 58 (S2 a0 a1 z1 z0) = l4 g k a0 a1 z1 z0 (fun z8 z9 => K (.exit 0) (S3 z8 z9)) :=
 Eq.trans (by kernel_rfl) (l4r_ev g k a1 K k a0 z1 z0)
def b5 (g : Cs R) (k : Nat) (a0 : ByteArray) (a1 z1 : Int) (z0 : List Int) (j : ByteArray → List Int → Option R) : Option R :=
 l4 g k a0 a1 z1 z0 (fun z8 z9 => j z8 z9)
theorem b5_ev (a0 : ByteArray) (a1 z1 : Int) (z0 : List Int) (K : Kont R) : V g k K [true, true, false, true] 29 (S2 a0 a1 z1 z0) = b5 g k a0 a1 z1 z0 (fun z10 z11 => K .normal (S3 z10 z11)) :=
 Eq.trans (by kernel_rfl) ((l4_ev g k a0 a1 z1 z0 (blockK 0 (fun st => K .normal (atMeet H 29 st)) K)).trans (by kernel_rfl))
def c6 (g : Cs R) (k : Nat) (a0 : ByteArray) (a1 : Int) (z0 : List Int) (j : ByteArray → List Int → Option R) : Option R :=
 s2 g k a0 a1 z0 (fun z1 => b5 g k a0 a1 z1 z0 (fun z10 z11 => j z10 z11))
theorem c6_ev (a0 : ByteArray) (a1 : Int) (z0 : List Int) (K : Kont R) : V g k K [true, true, false] 14 (S1 a0 a1 z0) = c6 g k a0 a1 z0 (fun z12 z13 => K .normal (S3 z12 z13)) :=
 (Eq.trans (by kernel_rfl) (s2_ev g k a0 a1 z0 (V g k K [true, true, false, true] 29) K)).trans (congrArg (fun f_ => s2 g k a0 a1 z0 f_) (funext fun (z1 : Int) => (b5_ev g k a0 a1 z1 z0 K)))
def s7 (g : Cs R) (k : Nat) (z12 : ByteArray) (z13 : List Int) (q : Option R) : Option R :=
 q
theorem s7_ev (z12 : ByteArray) (z13 : List Int) (K : Kont R) : V g k K [true, true, true] 15 (S3 z12 z13) = s7 g k z12 z13 (K .ret (S4 z12 z13)) := by kernel_rfl
def c8 (g : Cs R) (k : Nat) (a0 : ByteArray) (a1 : Int) (z0 : List Int) (q : ByteArray → List Int → Option R) : Option R :=
 c6 g k a0 a1 z0 (fun z12 z13 => s7 g k z12 z13 (q z12 z13))
theorem c8_ev (a0 : ByteArray) (a1 : Int) (z0 : List Int) (K : Kont R) : V g k K [true, true] 7 (S1 a0 a1 z0) = c8 g k a0 a1 z0 (fun z14 z15 => K .ret (S4 z14 z15)) :=
 (Eq.trans (by kernel_rfl) (c6_ev g k a0 a1 z0 (seqK (V g k K [true, true, true] 15) K))).trans (congrArg (fun f_ => c6 g k a0 a1 z0 f_) (funext fun (z12 : ByteArray) => (funext fun (z13 : List Int) => (seqN (f := (V g k K [true, true, true] 15)) (K := K) (s7_ev g k z12 z13 K)))))
def c9 (g : Cs R) (k : Nat) (a0 : ByteArray) (a1 : Int) (q : ByteArray → List Int → Option R) : Option R :=
 s1 g k a0 a1 (fun z0 => c8 g k a0 a1 z0 (fun z14 z15 => q z14 z15))
theorem c9_ev (a0 : ByteArray) (a1 : Int) (K : Kont R) : V g k K [] 1 (mkSt [(0, .c (.s (.string a0))), (1, .c (si a1))] []) = c9 g k a0 a1 (fun z16 z17 => K .ret (S4 z16 z17)) :=
 (Eq.trans (by kernel_rfl) (s1_ev g k a0 a1 (V g k K [true, true] 7) K)).trans (congrArg (fun f_ => s1 g k a0 a1 f_) (funext fun (z0 : List Int) => (c8_ev g k a0 a1 z0 K)))
def b (g : Cs R) (k : Nat) (a0 : ByteArray) (a1 : Int) (K : List Int → ByteArray → Option R) : Option R :=
 c9 g k a0 a1 (fun z16 z17 => K z17 z16)
theorem evs (a0 : ByteArray) (a1 : Int) (KF : Ret → Option R) : evFunc E (G g) k H [] false Tryz.f82 [.val false [.s (.string a0)], .val false [ri a1]] KF = b g k a0 a1 (fun r1 r2 => KF ⟨[.val false [.row .own [.int .i64] r1], .val false [.s (.string r2)]], []⟩) :=
 Eq.trans (by kernel_rfl) ((c9_ev g k a0 a1 (fin E.P false Tryz.f82 [] KF)).trans (by kernel_rfl))
end spec_l3Nums
namespace spec_l3Nums
def g (k : Nat) : Cs R := ⟨(), spec_l3Word.c k, spec_l3Dec.c k⟩
def c (k : Nat) : T R := b (g k) k
end spec_l3Nums
/-! ### spec_NoteRead: function 78 -/
namespace spec_NoteRead
abbrev T (R : Type) : Type := ByteArray → (Int → Int → Int → Int → ByteArray → Bool → Option R) → Option R
def con (f : T R) : Con R := ⟨[], fun args K => match args with
 | [.val false [.s (.string a0)]] => f a0 (fun r1 r2 r3 r4 r5 r6 => K ⟨[.val true [ri r1, ri r2, ri r3, ri r4, .s (.string r5)], .val false [.s (.bool r6)]], []⟩)
 | _ => none⟩
structure Cs (R : Type) where
  none_ : Unit := ()
  f82 : spec_l3Nums.T R
  f49 : spec_NoteWrite.T R
def G (g : Cs R) : Cons R := [(82, spec_l3Nums.con g.f82), (49, spec_NoteWrite.con g.f49)]
def H : List (Nat × Meet) := []
variable (g : Cs R) (k : Nat)
def b (g : Cs R) (k : Nat) (a0 : ByteArray) (K : Int → Int → Int → Int → ByteArray → Bool → Option R) : Option R :=
 g.f82 a0 4 (fun r1 r2 => cond (decide (0 ≤ (0 : Int)) && decide ((0 : Int) < (r1.length : Int))) (cond (decide (0 ≤ (1 : Int)) && decide ((1 : Int) < (r1.length : Int))) (cond (decide (0 ≤ (2 : Int)) && decide ((2 : Int) < (r1.length : Int))) (cond (decide (0 ≤ (3 : Int)) && decide ((3 : Int) < (r1.length : Int))) (cond (decide (a0 = (ByteArray.mk #[]))) (K 0 0 0 0 (ByteArray.mk #[]) false) (g.f49 (r1.getD 0 (0 : Int)) (r1.getD 1 (0 : Int)) (r1.getD 2 (0 : Int)) (r1.getD 3 (0 : Int)) r2 (fun r3 => cond (!decide (r3 = a0)) (K 0 0 0 0 (ByteArray.mk #[]) false) (K (r1.getD 0 (0 : Int)) (r1.getD 1 (0 : Int)) (r1.getD 2 (0 : Int)) (r1.getD 3 (0 : Int)) r2 true)))) none) none) none) none)
theorem evs (a0 : ByteArray) (KF : Ret → Option R) : evFunc E (G g) k H [] false Tryz.f78 [.val false [.s (.string a0)]] KF = b g k a0 (fun r1 r2 r3 r4 r5 r6 => KF ⟨[.val true [ri r1, ri r2, ri r3, ri r4, .s (.string r5)], .val false [.s (.bool r6)]], []⟩) :=
 by kernel_rfl
end spec_NoteRead
namespace spec_NoteRead
def g (k : Nat) : Cs R := ⟨(), spec_l3Nums.c k, spec_NoteWrite.c k⟩
def c (k : Nat) : T R := b (g k) k
end spec_NoteRead
/-! ### spec_l12PutNote: function 81 -/
namespace spec_l12PutNote
abbrev T (R : Type) : Type := (L5) → Int → Int → Int → Int → ByteArray → ((L5) → Option R) → Option R
def con (f : T R) : Con R := ⟨[], fun args K => match args with
 | [.val false [pa0], .val true [.s (.int .i64 A), .s (.int .i64 B), .s (.int .i64 C), .s (.int .i64 D), .s (.string F)]] => withRow q5 pa0 fun a0 => f a0 A B C D F (fun r1 => K ⟨[.val false [.row .own q5 r1]], []⟩)
 | _ => none⟩
structure Cs (R : Type) where
  none_ : Unit := ()
  f105 : spec_l12Less.T R
def G (g : Cs R) : Cons R := [(105, spec_l12Less.con g.f105)]
def H : List (Nat × Meet) := [(14, ⟨[(0, [(0, q5)]), (3, []), (5, [(0, q5)]), (6, [])], []⟩), (60, ⟨[(0, [(0, q5)]), (3, []), (5, [(0, q5)]), (6, []), (7, [])], []⟩), (122, ⟨[(0, [(0, q5)]), (3, []), (5, [(0, q5)]), (6, []), (7, [])], []⟩), (127, ⟨[(4, [(0, q5)])], []⟩), (979, ⟨[(0, [(0, q5)]), (3, []), (5, [(0, q5)]), (6, []), (7, [])], []⟩), (1955, ⟨[(3, []), (5, [(0, q5)]), (6, [])], []⟩)]
abbrev S1 (x1 : Bool) (x2 : L5) (x3 x4 x5 x6 : Int) (x7 : ByteArray) (x8 : L5) : St := mkSt [(0, .c (.sl 0)), (3, .c (.ptr 9003 0 0)), (5, .c (.sl 9005)), (6, .c (.s (.bool x1)))] [(0, .row .ro q5 x2), (9003, .box [si x3, si x4, si x5, si x6, .s (.string x7)]), (9005, .row .own q5 x8)]
abbrev S2 (x1 : Bool) (x2 : Int) (x3 : L5) (x4 x5 x6 x7 : Int) (x8 : ByteArray) (x9 : L5) : St := mkSt [(0, .c (.sl 0)), (3, .c (.ptr 9003 0 0)), (5, .c (.sl 9005)), (6, .c (.s (.bool x1))), (7, .c (si x2))] [(0, .row .ro q5 x3), (9003, .box [si x4, si x5, si x6, si x7, .s (.string x8)]), (9005, .row .own q5 x9)]
abbrev S3 (x1 : Bool) (x2 x3 x4 x5 : Int) (x6 : ByteArray) (x7 : L5) : St := mkSt [(3, .c (.ptr 9003 0 0)), (5, .c (.sl 9005)), (6, .c (.s (.bool x1)))] [(9003, .box [si x2, si x3, si x4, si x5, .s (.string x6)]), (9005, .row .own q5 x7)]
abbrev S4 (x1 : L5) : St := mkSt [(4, .c (.sl 9004))] [(9004, .row .own q5 x1)]
noncomputable abbrev V (g : Cs R) (k : Nat) (K : Kont R) (b : List Bool) (p : Nat) (st : St) : Option R := ev E (G g) k H (nodeAt (bodyOf Tryz.f81) b) p st K
noncomputable abbrev U (g : Cs R) (k : Nat) (n : Nat) (b : List Bool) : Nat → St → (St → Option R) → Kont R → Option R := evPre E (G g) k H n (nodeAt (bodyOf Tryz.f81) b)
noncomputable abbrev W (g : Cs R) (k : Nat) (b : List Bool) (p : Nat) : St → Kont R → Option R := ev E (G g) k H (nodeAt (bodyOf Tryz.f81) b) p
variable (g : Cs R) (k : Nat)
def s1 (g : Cs R) (k : Nat) (A B C D : Int) (F : ByteArray) (a0 : L5) (j : Bool → (L5) → Option R) : Option R :=
 j false ([] : L5)
theorem s1_ev (A B C D : Int) (F : ByteArray) (a0 : L5) (X : St → Option R) (K : Kont R) : U g k 3 [] 1 (mkSt [(0, .c (.sl 0)), (1, .agg [si A, si B, si C, si D, .s (.string F)])] [(0, .row .ro q5 a0)]) X K = s1 g k A B C D F a0 (fun z0 z1 => X (S1 z0 a0 A B C D F z1)) := by kernel_rfl
def s2 (g : Cs R) (k : Nat) (z0 : Bool) (a0 : L5) (A B C D : Int) (F : ByteArray) (z1 : L5) (j : Int → Option R) : Option R :=
 j 0
theorem s2_ev (z0 : Bool) (a0 : L5) (A B C D : Int) (F : ByteArray) (z1 : L5) (X : St → Option R) (K : Kont R) : U g k 1 [true, true, true, false] 30 (S1 z0 a0 A B C D F z1) X K = s2 g k z0 a0 A B C D F z1 (fun z2 => X (S2 z0 z2 a0 A B C D F z1)) := by kernel_rfl
def s3 (g : Cs R) (k : Nat) (z3 : Bool) (z4 : Int) (a0 : L5) (A B C D : Int) (F : ByteArray) (z5 : L5) (j : Bool → Int → (L5) → Option R) (x0 : Option R) : Option R :=
 cond (decide (z4 < (a0.length : Int))) (cond (!z3) (cond (decide (0 ≤ z4) && decide (z4 < (a0.length : Int))) (let y1 := (a0.getD z4.toNat n5).1; cond (decide (0 ≤ z4) && decide (z4 < (a0.length : Int))) (let y2 := (a0.getD z4.toNat n5).2.1; g.f105 A B y1 y2 (fun r3 => cond r3 (let y4 := ([(A, B, C, D, F)] : L5); cond (Nat.ble (z5.length + y4.length) lim) (cond (decide (0 ≤ z4) && decide (z4 < (a0.length : Int))) (let y5 := ([((a0.getD z4.toNat n5).1, (a0.getD z4.toNat n5).2.1, (a0.getD z4.toNat n5).2.2.1, (a0.getD z4.toNat n5).2.2.2.1, (a0.getD z4.toNat n5).2.2.2.2)] : L5); cond (Nat.ble ((z5 ++ y4).length + y5.length) lim) (j true (IntKind.wrap .i64 (z4 + 1)) ((z5 ++ y4) ++ y5)) none) none) none) (cond (decide (0 ≤ z4) && decide (z4 < (a0.length : Int))) (let y6 := ([((a0.getD z4.toNat n5).1, (a0.getD z4.toNat n5).2.1, (a0.getD z4.toNat n5).2.2.1, (a0.getD z4.toNat n5).2.2.2.1, (a0.getD z4.toNat n5).2.2.2.2)] : L5); cond (Nat.ble (z5.length + y6.length) lim) (j z3 (IntKind.wrap .i64 (z4 + 1)) (z5 ++ y6)) none) none))) none) none) (cond (decide (0 ≤ z4) && decide (z4 < (a0.length : Int))) (let y7 := ([((a0.getD z4.toNat n5).1, (a0.getD z4.toNat n5).2.1, (a0.getD z4.toNat n5).2.2.1, (a0.getD z4.toNat n5).2.2.2.1, (a0.getD z4.toNat n5).2.2.2.2)] : L5); cond (Nat.ble (z5.length + y7.length) lim) (j z3 (IntKind.wrap .i64 (z4 + 1)) (z5 ++ y7)) none) none)) (x0)
theorem s3_ev (z3 : Bool) (z4 : Int) (a0 : L5) (A B C D : Int) (F : ByteArray) (z5 : L5) (K : Kont R) : V g k K [true, true, true, false, true, false, false] 244 (S2 z3 z4 a0 A B C D F z5) = s3 g k z3 z4 a0 A B C D F z5 (fun z6 z7 z8 => K .normal (S2 z6 z7 a0 A B C D F z8)) (K (.exit 0) (S3 z3 A B C D F z5)) := by kernel_rfl
def l4r (g : Cs R) (k : Nat) (a0 : L5) (A B C D : Int) (F : ByteArray) (x0 : Bool → (L5) → Option R) : Nat → Bool → Int → (L5) → Option R
 | 0, _, _, _ => none
 | n + 1, z3, z4, z5 => s3 g k z3 z4 a0 A B C D F z5 (fun z6 z7 z8 => l4r g k a0 A B C D F x0 n z6 z7 z8) (x0 z3 z5)
def l4 (g : Cs R) (k : Nat) (z0 : Bool) (z2 : Int) (a0 : L5) (A B C D : Int) (F : ByteArray) (z1 : L5) (x0 : Bool → (L5) → Option R) : Option R := l4r g k a0 A B C D F x0 k z0 z2 z1
theorem l4r_ev (a0 : L5) (A B C D : Int) (F : ByteArray) (K : Kont R) : ∀ (n : Nat) (z3 : Bool) (z4 : Int) (z5 : L5), evLoop (W g k [true, true, true, false, true, false, false] 244) (atMeet H 122) K n (S2 z3 z4 a0 A B C D F z5) = l4r g k a0 A B C D F (fun z9 z10 => K (.exit 0) (S3 z9 A B C D F z10)) n z3 z4 z5 := by
 intro n
 induction n with
 | zero => intros; rfl
 | succ n ih =>
  intro z3 z4 z5
  exact Eq.trans (by kernel_rfl) ((s3_ev g k z3 z4 a0 A B C D F z5 (loopK (W g k [true, true, true, false, true, false, false] 244) (atMeet H 122) K n)).trans (Eq.trans (by kernel_rfl) (congrArg (fun f_ => s3 g k z3 z4 a0 A B C D F z5 f_ (K (.exit 0) (S3 z3 A B C D F z5))) (funext fun (z6 : Bool) => (funext fun (z7 : Int) => (funext fun (z8 : L5) => (ih z6 z7 z8)))))))
theorem l4_ev (z0 : Bool) (z2 : Int) (a0 : L5) (A B C D : Int) (F : ByteArray) (z1 : L5) (K : Kont R) : V g k K [true, true, true, false, true, false] 122 (S2 z0 z2 a0 A B C D F z1) = l4 g k z0 z2 a0 A B C D F z1 (fun z9 z10 => K (.exit 0) (S3 z9 A B C D F z10)) :=
 Eq.trans (by kernel_rfl) (l4r_ev g k a0 A B C D F K k z0 z2 z1)
def b5 (g : Cs R) (k : Nat) (z0 : Bool) (z2 : Int) (a0 : L5) (A B C D : Int) (F : ByteArray) (z1 : L5) (j : Bool → (L5) → Option R) : Option R :=
 l4 g k z0 z2 a0 A B C D F z1 (fun z9 z10 => j z9 z10)
theorem b5_ev (z0 : Bool) (z2 : Int) (a0 : L5) (A B C D : Int) (F : ByteArray) (z1 : L5) (K : Kont R) : V g k K [true, true, true, false, true] 61 (S2 z0 z2 a0 A B C D F z1) = b5 g k z0 z2 a0 A B C D F z1 (fun z11 z12 => K .normal (S3 z11 A B C D F z12)) :=
 Eq.trans (by kernel_rfl) ((l4_ev g k z0 z2 a0 A B C D F z1 (blockK 0 (fun st => K .normal (atMeet H 61 st)) K)).trans (by kernel_rfl))
def c6 (g : Cs R) (k : Nat) (z0 : Bool) (a0 : L5) (A B C D : Int) (F : ByteArray) (z1 : L5) (j : Bool → (L5) → Option R) : Option R :=
 s2 g k z0 a0 A B C D F z1 (fun z2 => b5 g k z0 z2 a0 A B C D F z1 (fun z11 z12 => j z11 z12))
theorem c6_ev (z0 : Bool) (a0 : L5) (A B C D : Int) (F : ByteArray) (z1 : L5) (K : Kont R) : V g k K [true, true, true, false] 30 (S1 z0 a0 A B C D F z1) = c6 g k z0 a0 A B C D F z1 (fun z13 z14 => K .normal (S3 z13 A B C D F z14)) :=
 (Eq.trans (by kernel_rfl) (s2_ev g k z0 a0 A B C D F z1 (V g k K [true, true, true, false, true] 61) K)).trans (congrArg (fun f_ => s2 g k z0 a0 A B C D F z1 f_) (funext fun (z2 : Int) => (b5_ev g k z0 z2 a0 A B C D F z1 K)))
def s7 (g : Cs R) (k : Nat) (z13 : Bool) (A B C D : Int) (F : ByteArray) (z14 : L5) (q : (L5) → Option R) : Option R :=
 cond (!z13) (let y1 := ([(A, B, C, D, F)] : L5); cond (Nat.ble (z14.length + y1.length) lim) (q (z14 ++ y1)) none) (q z14)
theorem s7_ev (z13 : Bool) (A B C D : Int) (F : ByteArray) (z14 : L5) (K : Kont R) : V g k K [true, true, true, true] 31 (S3 z13 A B C D F z14) = s7 g k z13 A B C D F z14 (fun z15 => K .ret (S4 z15)) := by kernel_rfl
def c8 (g : Cs R) (k : Nat) (z0 : Bool) (a0 : L5) (A B C D : Int) (F : ByteArray) (z1 : L5) (q : (L5) → Option R) : Option R :=
 c6 g k z0 a0 A B C D F z1 (fun z13 z14 => s7 g k z13 A B C D F z14 (fun z15 => q z15))
theorem c8_ev (z0 : Bool) (a0 : L5) (A B C D : Int) (F : ByteArray) (z1 : L5) (K : Kont R) : V g k K [true, true, true] 15 (S1 z0 a0 A B C D F z1) = c8 g k z0 a0 A B C D F z1 (fun z16 => K .ret (S4 z16)) :=
 (Eq.trans (by kernel_rfl) (c6_ev g k z0 a0 A B C D F z1 (seqK (V g k K [true, true, true, true] 31) K))).trans (congrArg (fun f_ => c6 g k z0 a0 A B C D F z1 f_) (funext fun (z13 : Bool) => (funext fun (z14 : L5) => (seqN (f := (V g k K [true, true, true, true] 31)) (K := K) (s7_ev g k z13 A B C D F z14 K)))))
def c9 (g : Cs R) (k : Nat) (A B C D : Int) (F : ByteArray) (a0 : L5) (q : (L5) → Option R) : Option R :=
 s1 g k A B C D F a0 (fun z0 z1 => c8 g k z0 a0 A B C D F z1 (fun z16 => q z16))
theorem c9_ev (A B C D : Int) (F : ByteArray) (a0 : L5) (K : Kont R) : V g k K [] 1 (mkSt [(0, .c (.sl 0)), (1, .agg [si A, si B, si C, si D, .s (.string F)])] [(0, .row .ro q5 a0)]) = c9 g k A B C D F a0 (fun z17 => K .ret (S4 z17)) :=
 (Eq.trans (by kernel_rfl) (s1_ev g k A B C D F a0 (V g k K [true, true, true] 15) K)).trans (congrArg (fun f_ => s1 g k A B C D F a0 f_) (funext fun (z0 : Bool) => (funext fun (z1 : L5) => (c8_ev g k z0 a0 A B C D F z1 K))))
def b (g : Cs R) (k : Nat) (a0 : L5) (A B C D : Int) (F : ByteArray) (K : (L5) → Option R) : Option R :=
 c9 g k A B C D F a0 (fun z17 => K z17)
theorem evs (a0 : L5) (A B C D : Int) (F : ByteArray) (KF : Ret → Option R) : evFunc E (G g) k H [] false Tryz.f81 [.val false [.row .ro q5 a0], .val true [ri A, ri B, ri C, ri D, .s (.string F)]] KF = b g k a0 A B C D F (fun r1 => KF ⟨[.val false [.row .own q5 r1]], []⟩) :=
 Eq.trans (by kernel_rfl) ((c9_ev g k A B C D F a0 (fin E.P false Tryz.f81 [] KF)).trans (by kernel_rfl))
end spec_l12PutNote
namespace spec_l12PutNote
def g (k : Nat) : Cs R := ⟨(), spec_l12Less.c k⟩
def c (k : Nat) : T R := b (g k) k
end spec_l12PutNote
/-! ### spec_l12PutMark: function 85 -/
namespace spec_l12PutMark
abbrev T (R : Type) : Type := (L3) → Int → Int → Int → ((L3) → Option R) → Option R
def con (f : T R) : Con R := ⟨[], fun args K => match args with
 | [.val false [pa0], .val true [.s (.int .i64 A), .s (.int .i64 B), .s (.int .i64 C)]] => withRow q3 pa0 fun a0 => f a0 A B C (fun r1 => K ⟨[.val false [.row .own q3 r1]], []⟩)
 | _ => none⟩
structure Cs (R : Type) where
  none_ : Unit := ()
  f105 : spec_l12Less.T R
def G (g : Cs R) : Cons R := [(105, spec_l12Less.con g.f105)]
def H : List (Nat × Meet) := [(14, ⟨[(0, [(0, q3)]), (3, []), (5, [(0, q3)]), (6, [])], []⟩), (60, ⟨[(0, [(0, q3)]), (3, []), (5, [(0, q3)]), (6, []), (7, [])], []⟩), (122, ⟨[(0, [(0, q3)]), (3, []), (5, [(0, q3)]), (6, []), (7, [])], []⟩), (127, ⟨[(4, [(0, q3)])], []⟩), (979, ⟨[(0, [(0, q3)]), (3, []), (5, [(0, q3)]), (6, []), (7, [])], []⟩), (1955, ⟨[(3, []), (5, [(0, q3)]), (6, [])], []⟩)]
abbrev S1 (x1 x2 x3 : Int) (x4 : L3) : St := mkSt [(0, .c (.sl 0)), (1, .agg [si x1, si x2, si x3])] [(0, .row .ro q3 x4)]
abbrev S2 (x1 : Bool) (x2 : L3) (x3 x4 x5 : Int) (x6 : L3) : St := mkSt [(0, .c (.sl 0)), (3, .c (.ptr 9003 0 0)), (5, .c (.sl 9005)), (6, .c (.s (.bool x1)))] [(0, .row .ro q3 x2), (9003, .box [si x3, si x4, si x5]), (9005, .row .own q3 x6)]
abbrev S3 (x1 : Bool) (x2 : Int) (x3 : L3) (x4 x5 x6 : Int) (x7 : L3) : St := mkSt [(0, .c (.sl 0)), (3, .c (.ptr 9003 0 0)), (5, .c (.sl 9005)), (6, .c (.s (.bool x1))), (7, .c (si x2))] [(0, .row .ro q3 x3), (9003, .box [si x4, si x5, si x6]), (9005, .row .own q3 x7)]
abbrev S4 (x1 : Bool) (x2 x3 x4 : Int) (x5 : L3) : St := mkSt [(3, .c (.ptr 9003 0 0)), (5, .c (.sl 9005)), (6, .c (.s (.bool x1)))] [(9003, .box [si x2, si x3, si x4]), (9005, .row .own q3 x5)]
abbrev S5 (x1 : L3) : St := mkSt [(4, .c (.sl 9004))] [(9004, .row .own q3 x1)]
noncomputable abbrev V (g : Cs R) (k : Nat) (K : Kont R) (b : List Bool) (p : Nat) (st : St) : Option R := ev E (G g) k H (nodeAt (bodyOf Tryz.f85) b) p st K
noncomputable abbrev U (g : Cs R) (k : Nat) (n : Nat) (b : List Bool) : Nat → St → (St → Option R) → Kont R → Option R := evPre E (G g) k H n (nodeAt (bodyOf Tryz.f85) b)
noncomputable abbrev W (g : Cs R) (k : Nat) (b : List Bool) (p : Nat) : St → Kont R → Option R := ev E (G g) k H (nodeAt (bodyOf Tryz.f85) b) p
variable (g : Cs R) (k : Nat)
def s1 (g : Cs R) (k : Nat) (A B C : Int) (a0 : L3) (j : Bool → (L3) → Option R) : Option R :=
 j false ([] : L3)
theorem s1_ev (A B C : Int) (a0 : L3) (X : St → Option R) (K : Kont R) : U g k 3 [] 1 (S1 A B C a0) X K = s1 g k A B C a0 (fun z0 z1 => X (S2 z0 a0 A B C z1)) := by kernel_rfl
def s2 (g : Cs R) (k : Nat) (z0 : Bool) (a0 : L3) (A B C : Int) (z1 : L3) (j : Int → Option R) : Option R :=
 j 0
theorem s2_ev (z0 : Bool) (a0 : L3) (A B C : Int) (z1 : L3) (X : St → Option R) (K : Kont R) : U g k 1 [true, true, true, false] 30 (S2 z0 a0 A B C z1) X K = s2 g k z0 a0 A B C z1 (fun z2 => X (S3 z0 z2 a0 A B C z1)) := by kernel_rfl
def s3 (g : Cs R) (k : Nat) (z3 : Bool) (z4 : Int) (a0 : L3) (A B C : Int) (z5 : L3) (j : Bool → Int → (L3) → Option R) (x0 : Option R) : Option R :=
 cond (decide (z4 < (a0.length : Int))) (cond (!z3) (cond (decide (0 ≤ z4) && decide (z4 < (a0.length : Int))) (let y1 := (a0.getD z4.toNat n3).1; cond (decide (0 ≤ z4) && decide (z4 < (a0.length : Int))) (let y2 := (a0.getD z4.toNat n3).2.1; g.f105 A B y1 y2 (fun r3 => cond r3 (cond (Nat.ble (z5.length + ([(A, B, C)] : L3).length) lim) (let y4 := (z5 ++ ([(A, B, C)] : L3)); cond (decide (0 ≤ z4) && decide (z4 < (a0.length : Int))) (let y5 := ([((a0.getD z4.toNat n3).1, (a0.getD z4.toNat n3).2.1, (a0.getD z4.toNat n3).2.2)] : L3); cond (Nat.ble (y4.length + y5.length) lim) (j true (IntKind.wrap .i64 (z4 + 1)) (y4 ++ y5)) none) none) none) (cond (decide (0 ≤ z4) && decide (z4 < (a0.length : Int))) (let y6 := ([((a0.getD z4.toNat n3).1, (a0.getD z4.toNat n3).2.1, (a0.getD z4.toNat n3).2.2)] : L3); cond (Nat.ble (z5.length + y6.length) lim) (j z3 (IntKind.wrap .i64 (z4 + 1)) (z5 ++ y6)) none) none))) none) none) (cond (decide (0 ≤ z4) && decide (z4 < (a0.length : Int))) (let y7 := ([((a0.getD z4.toNat n3).1, (a0.getD z4.toNat n3).2.1, (a0.getD z4.toNat n3).2.2)] : L3); cond (Nat.ble (z5.length + y7.length) lim) (j z3 (IntKind.wrap .i64 (z4 + 1)) (z5 ++ y7)) none) none)) (x0)
theorem s3_ev (z3 : Bool) (z4 : Int) (a0 : L3) (A B C : Int) (z5 : L3) (K : Kont R) : V g k K [true, true, true, false, true, false, false] 244 (S3 z3 z4 a0 A B C z5) = s3 g k z3 z4 a0 A B C z5 (fun z6 z7 z8 => K .normal (S3 z6 z7 a0 A B C z8)) (K (.exit 0) (S4 z3 A B C z5)) := by kernel_rfl
def l4r (g : Cs R) (k : Nat) (a0 : L3) (A B C : Int) (x0 : Bool → (L3) → Option R) : Nat → Bool → Int → (L3) → Option R
 | 0, _, _, _ => none
 | n + 1, z3, z4, z5 => s3 g k z3 z4 a0 A B C z5 (fun z6 z7 z8 => l4r g k a0 A B C x0 n z6 z7 z8) (x0 z3 z5)
def l4 (g : Cs R) (k : Nat) (z0 : Bool) (z2 : Int) (a0 : L3) (A B C : Int) (z1 : L3) (x0 : Bool → (L3) → Option R) : Option R := l4r g k a0 A B C x0 k z0 z2 z1
theorem l4r_ev (a0 : L3) (A B C : Int) (K : Kont R) : ∀ (n : Nat) (z3 : Bool) (z4 : Int) (z5 : L3), evLoop (W g k [true, true, true, false, true, false, false] 244) (atMeet H 122) K n (S3 z3 z4 a0 A B C z5) = l4r g k a0 A B C (fun z9 z10 => K (.exit 0) (S4 z9 A B C z10)) n z3 z4 z5 := by
 intro n
 induction n with
 | zero => intros; rfl
 | succ n ih =>
  intro z3 z4 z5
  exact Eq.trans (by kernel_rfl) ((s3_ev g k z3 z4 a0 A B C z5 (loopK (W g k [true, true, true, false, true, false, false] 244) (atMeet H 122) K n)).trans (Eq.trans (by kernel_rfl) (congrArg (fun f_ => s3 g k z3 z4 a0 A B C z5 f_ (K (.exit 0) (S4 z3 A B C z5))) (funext fun (z6 : Bool) => (funext fun (z7 : Int) => (funext fun (z8 : L3) => (ih z6 z7 z8)))))))
theorem l4_ev (z0 : Bool) (z2 : Int) (a0 : L3) (A B C : Int) (z1 : L3) (K : Kont R) : V g k K [true, true, true, false, true, false] 122 (S3 z0 z2 a0 A B C z1) = l4 g k z0 z2 a0 A B C z1 (fun z9 z10 => K (.exit 0) (S4 z9 A B C z10)) :=
 Eq.trans (by kernel_rfl) (l4r_ev g k a0 A B C K k z0 z2 z1)
def b5 (g : Cs R) (k : Nat) (z0 : Bool) (z2 : Int) (a0 : L3) (A B C : Int) (z1 : L3) (j : Bool → (L3) → Option R) : Option R :=
 l4 g k z0 z2 a0 A B C z1 (fun z9 z10 => j z9 z10)
theorem b5_ev (z0 : Bool) (z2 : Int) (a0 : L3) (A B C : Int) (z1 : L3) (K : Kont R) : V g k K [true, true, true, false, true] 61 (S3 z0 z2 a0 A B C z1) = b5 g k z0 z2 a0 A B C z1 (fun z11 z12 => K .normal (S4 z11 A B C z12)) :=
 Eq.trans (by kernel_rfl) ((l4_ev g k z0 z2 a0 A B C z1 (blockK 0 (fun st => K .normal (atMeet H 61 st)) K)).trans (by kernel_rfl))
def c6 (g : Cs R) (k : Nat) (z0 : Bool) (a0 : L3) (A B C : Int) (z1 : L3) (j : Bool → (L3) → Option R) : Option R :=
 s2 g k z0 a0 A B C z1 (fun z2 => b5 g k z0 z2 a0 A B C z1 (fun z11 z12 => j z11 z12))
theorem c6_ev (z0 : Bool) (a0 : L3) (A B C : Int) (z1 : L3) (K : Kont R) : V g k K [true, true, true, false] 30 (S2 z0 a0 A B C z1) = c6 g k z0 a0 A B C z1 (fun z13 z14 => K .normal (S4 z13 A B C z14)) :=
 (Eq.trans (by kernel_rfl) (s2_ev g k z0 a0 A B C z1 (V g k K [true, true, true, false, true] 61) K)).trans (congrArg (fun f_ => s2 g k z0 a0 A B C z1 f_) (funext fun (z2 : Int) => (b5_ev g k z0 z2 a0 A B C z1 K)))
def s7 (g : Cs R) (k : Nat) (z13 : Bool) (A B C : Int) (z14 : L3) (q : (L3) → Option R) : Option R :=
 cond (!z13) (cond (Nat.ble (z14.length + ([(A, B, C)] : L3).length) lim) (let y1 := (z14 ++ ([(A, B, C)] : L3)); q y1) none) (q z14)
theorem s7_ev (z13 : Bool) (A B C : Int) (z14 : L3) (K : Kont R) : V g k K [true, true, true, true] 31 (S4 z13 A B C z14) = s7 g k z13 A B C z14 (fun z15 => K .ret (S5 z15)) := by kernel_rfl
def c8 (g : Cs R) (k : Nat) (z0 : Bool) (a0 : L3) (A B C : Int) (z1 : L3) (q : (L3) → Option R) : Option R :=
 c6 g k z0 a0 A B C z1 (fun z13 z14 => s7 g k z13 A B C z14 (fun z15 => q z15))
theorem c8_ev (z0 : Bool) (a0 : L3) (A B C : Int) (z1 : L3) (K : Kont R) : V g k K [true, true, true] 15 (S2 z0 a0 A B C z1) = c8 g k z0 a0 A B C z1 (fun z16 => K .ret (S5 z16)) :=
 (Eq.trans (by kernel_rfl) (c6_ev g k z0 a0 A B C z1 (seqK (V g k K [true, true, true, true] 31) K))).trans (congrArg (fun f_ => c6 g k z0 a0 A B C z1 f_) (funext fun (z13 : Bool) => (funext fun (z14 : L3) => (seqN (f := (V g k K [true, true, true, true] 31)) (K := K) (s7_ev g k z13 A B C z14 K)))))
def c9 (g : Cs R) (k : Nat) (A B C : Int) (a0 : L3) (q : (L3) → Option R) : Option R :=
 s1 g k A B C a0 (fun z0 z1 => c8 g k z0 a0 A B C z1 (fun z16 => q z16))
theorem c9_ev (A B C : Int) (a0 : L3) (K : Kont R) : V g k K [] 1 (S1 A B C a0) = c9 g k A B C a0 (fun z17 => K .ret (S5 z17)) :=
 (Eq.trans (by kernel_rfl) (s1_ev g k A B C a0 (V g k K [true, true, true] 15) K)).trans (congrArg (fun f_ => s1 g k A B C a0 f_) (funext fun (z0 : Bool) => (funext fun (z1 : L3) => (c8_ev g k z0 a0 A B C z1 K))))
def b (g : Cs R) (k : Nat) (a0 : L3) (A B C : Int) (K : (L3) → Option R) : Option R :=
 c9 g k A B C a0 (fun z17 => K z17)
theorem evs (a0 : L3) (A B C : Int) (KF : Ret → Option R) : evFunc E (G g) k H [] false Tryz.f85 [.val false [.row .ro q3 a0], .val true [ri A, ri B, ri C]] KF = b g k a0 A B C (fun r1 => KF ⟨[.val false [.row .own q3 r1]], []⟩) :=
 Eq.trans (by kernel_rfl) ((c9_ev g k A B C a0 (fin E.P false Tryz.f85 [] KF)).trans (by kernel_rfl))
end spec_l12PutMark
namespace spec_l12PutMark
def g (k : Nat) : Cs R := ⟨(), spec_l12Less.c k⟩
def c (k : Nat) : T R := b (g k) k
end spec_l12PutMark
/-! ### spec_l12Held: function 80 -/
namespace spec_l12Held
abbrev T (R : Type) : Type := (L5) → Int → Int → (Int → Option R) → Option R
def con (f : T R) : Con R := ⟨[], fun args K => match args with
 | [.val false [pa0], .val false [.s (.int .i64 a1)], .val false [.s (.int .i64 a2)]] => withRow q5 pa0 fun a0 => f a0 a1 a2 (fun r1 => K ⟨[.val false [ri r1]], []⟩)
 | _ => none⟩
structure Cs (R : Type) where
  none_ : Unit := ()
def G (g : Cs R) : Cons R := []
def H : List (Nat × Meet) := [(2, ⟨[(0, [(0, q5)]), (1, []), (2, [])], []⟩), (12, ⟨[(0, [(0, q5)]), (1, []), (2, []), (7, [])], []⟩), (15, ⟨[(6, [])], []⟩), (26, ⟨[(0, [(0, q5)]), (1, []), (2, []), (7, [])], []⟩), (211, ⟨[(0, [(0, q5)]), (1, []), (2, []), (7, [])], []⟩), (419, ⟨[], []⟩), (3365, ⟨[(6, [])], []⟩)]
abbrev S1 (x1 x2 : Int) (x3 : L5) : St := mkSt [(0, .c (.sl 0)), (1, .c (si x1)), (2, .c (si x2))] [(0, .row .ro q5 x3)]
abbrev S2 (x1 x2 x3 : Int) (x4 : L5) : St := mkSt [(0, .c (.sl 0)), (1, .c (si x1)), (2, .c (si x2)), (7, .c (si x3))] [(0, .row .ro q5 x4)]
abbrev S3 : St := mkSt [] []
abbrev S4 (x1 : Int) : St := mkSt [(6, .c (si x1))] []
noncomputable abbrev V (g : Cs R) (k : Nat) (K : Kont R) (b : List Bool) (p : Nat) (st : St) : Option R := ev E (G g) k H (nodeAt (bodyOf Tryz.f80) b) p st K
noncomputable abbrev U (g : Cs R) (k : Nat) (n : Nat) (b : List Bool) : Nat → St → (St → Option R) → Kont R → Option R := evPre E (G g) k H n (nodeAt (bodyOf Tryz.f80) b)
noncomputable abbrev W (g : Cs R) (k : Nat) (b : List Bool) (p : Nat) : St → Kont R → Option R := ev E (G g) k H (nodeAt (bodyOf Tryz.f80) b) p
variable (g : Cs R) (k : Nat)
def s1 (g : Cs R) (k : Nat) (a1 a2 : Int) (a0 : L5) (j : Option R) : Option R :=
 j
theorem s1_ev (a1 a2 : Int) (a0 : L5) (X : St → Option R) (K : Kont R) : U g k 1 [] 1 (S1 a1 a2 a0) X K = s1 g k a1 a2 a0 (X (S1 a1 a2 a0)) := by kernel_rfl
def s2 (g : Cs R) (k : Nat) (a1 a2 : Int) (a0 : L5) (j : Int → Option R) : Option R :=
 j 0
theorem s2_ev (a1 a2 : Int) (a0 : L5) (X : St → Option R) (K : Kont R) : U g k 1 [true, false] 6 (S1 a1 a2 a0) X K = s2 g k a1 a2 a0 (fun z0 => X (S2 a1 a2 z0 a0)) := by kernel_rfl
def s3 (g : Cs R) (k : Nat) (a1 a2 z1 : Int) (a0 : L5) (j : Int → Option R) (x0 : Option R) (q : Option R) : Option R :=
 cond (decide (z1 < (a0.length : Int))) (cond (decide (0 ≤ z1) && decide (z1 < (a0.length : Int))) (let y1 := (a0.getD z1.toNat n5).1; cond (decide (y1 = a1)) (cond (decide (0 ≤ z1) && decide (z1 < (a0.length : Int))) (let y2 := (a0.getD z1.toNat n5).2.1; cond (decide (y2 = a2)) (q) (j (IntKind.wrap .i64 (z1 + 1)))) none) (j (IntKind.wrap .i64 (z1 + 1)))) none) (x0)
theorem s3_ev (a1 a2 z1 : Int) (a0 : L5) (K : Kont R) : V g k K [true, false, true, false, false] 52 (S2 a1 a2 z1 a0) = s3 g k a1 a2 z1 a0 (fun z2 => K .normal (S2 a1 a2 z2 a0)) (K (.exit 0) S3) (K .ret (S4 z1)) := by kernel_rfl
def l4r (g : Cs R) (k : Nat) (a1 a2 : Int) (a0 : L5) (x0 : Option R) (q : Int → Option R) : Nat → Int → Option R
 | 0, _ => none
 | n + 1, z1 => s3 g k a1 a2 z1 a0 (fun z2 => l4r g k a1 a2 a0 x0 q n z2) (x0) (q z1)
def l4 (g : Cs R) (k : Nat) (a1 a2 z0 : Int) (a0 : L5) (x0 : Option R) (q : Int → Option R) : Option R := l4r g k a1 a2 a0 x0 q k z0
theorem l4r_ev (a1 a2 : Int) (a0 : L5) (K : Kont R) : ∀ (n : Nat) (z1 : Int), evLoop (W g k [true, false, true, false, false] 52) (atMeet H 26) K n (S2 a1 a2 z1 a0) = l4r g k a1 a2 a0 (K (.exit 0) S3) (fun z3 => K .ret (S4 z3)) n z1 := by
 intro n
 induction n with
 | zero => intros; rfl
 | succ n ih =>
  intro z1
  exact Eq.trans (by kernel_rfl) ((s3_ev g k a1 a2 z1 a0 (loopK (W g k [true, false, true, false, false] 52) (atMeet H 26) K n)).trans (Eq.trans (by kernel_rfl) (congrArg (fun f_ => s3 g k a1 a2 z1 a0 f_ (K (.exit 0) S3) (K .ret (S4 z1))) (funext fun (z2 : Int) => (ih z2)))))
theorem l4_ev (a1 a2 z0 : Int) (a0 : L5) (K : Kont R) : V g k K [true, false, true, false] 26 (S2 a1 a2 z0 a0) = l4 g k a1 a2 z0 a0 (K (.exit 0) S3) (fun z3 => K .ret (S4 z3)) :=
 Eq.trans (by kernel_rfl) (l4r_ev g k a1 a2 a0 K k z0)
def b5 (g : Cs R) (k : Nat) (a1 a2 z0 : Int) (a0 : L5) (j : Option R) (q : Int → Option R) : Option R :=
 l4 g k a1 a2 z0 a0 (j) (fun z3 => q z3)
theorem b5_ev (a1 a2 z0 : Int) (a0 : L5) (K : Kont R) : V g k K [true, false, true] 13 (S2 a1 a2 z0 a0) = b5 g k a1 a2 z0 a0 (K .normal S3) (fun z4 => K .ret (S4 z4)) :=
 Eq.trans (by kernel_rfl) ((l4_ev g k a1 a2 z0 a0 (blockK 0 (fun st => K .normal (atMeet H 13 st)) K)).trans (by kernel_rfl))
def c6 (g : Cs R) (k : Nat) (a1 a2 : Int) (a0 : L5) (j : Option R) (q : Int → Option R) : Option R :=
 s2 g k a1 a2 a0 (fun z0 => b5 g k a1 a2 z0 a0 (j) (fun z4 => q z4))
theorem c6_ev (a1 a2 : Int) (a0 : L5) (K : Kont R) : V g k K [true, false] 6 (S1 a1 a2 a0) = c6 g k a1 a2 a0 (K .normal S3) (fun z5 => K .ret (S4 z5)) :=
 (Eq.trans (by kernel_rfl) (s2_ev g k a1 a2 a0 (V g k K [true, false, true] 13) K)).trans (congrArg (fun f_ => s2 g k a1 a2 a0 f_) (funext fun (z0 : Int) => (b5_ev g k a1 a2 z0 a0 K)))
def s7 (g : Cs R) (k : Nat)  (q : Int → Option R) : Option R :=
 q (-1)
theorem s7_ev  (K : Kont R) : V g k K [true, true] 7 S3 = s7 g k (fun z6 => K .ret (S4 z6)) := by kernel_rfl
def c8 (g : Cs R) (k : Nat) (a1 a2 : Int) (a0 : L5) (q : Int → Option R) : Option R :=
 c6 g k a1 a2 a0 (s7 g k (fun z6 => q z6)) (fun z5 => q z5)
theorem c8_ev (a1 a2 : Int) (a0 : L5) (K : Kont R) : V g k K [true] 3 (S1 a1 a2 a0) = c8 g k a1 a2 a0 (fun z7 => K .ret (S4 z7)) :=
 (Eq.trans (by kernel_rfl) (c6_ev g k a1 a2 a0 (seqK (V g k K [true, true] 7) K))).trans (congrArg (fun f_ => c6 g k a1 a2 a0 f_ (fun z5 => K .ret (S4 z5))) (seqN (f := (V g k K [true, true] 7)) (K := K) (s7_ev g k K)))
def c9 (g : Cs R) (k : Nat) (a1 a2 : Int) (a0 : L5) (q : Int → Option R) : Option R :=
 s1 g k a1 a2 a0 (c8 g k a1 a2 a0 (fun z7 => q z7))
theorem c9_ev (a1 a2 : Int) (a0 : L5) (K : Kont R) : V g k K [] 1 (S1 a1 a2 a0) = c9 g k a1 a2 a0 (fun z8 => K .ret (S4 z8)) :=
 (Eq.trans (by kernel_rfl) (s1_ev g k a1 a2 a0 (V g k K [true] 3) K)).trans (congrArg (fun f_ => s1 g k a1 a2 a0 f_) (c8_ev g k a1 a2 a0 K))
def b (g : Cs R) (k : Nat) (a0 : L5) (a1 a2 : Int) (K : Int → Option R) : Option R :=
 c9 g k a1 a2 a0 (fun z8 => K z8)
theorem evs (a0 : L5) (a1 a2 : Int) (KF : Ret → Option R) : evFunc E (G g) k H [] false Tryz.f80 [.val false [.row .ro q5 a0], .val false [ri a1], .val false [ri a2]] KF = b g k a0 a1 a2 (fun r1 => KF ⟨[.val false [ri r1]], []⟩) :=
 Eq.trans (by kernel_rfl) ((c9_ev g k a1 a2 a0 (fin E.P false Tryz.f80 [] KF)).trans (by kernel_rfl))
end spec_l12Held
namespace spec_l12Held
def g (k : Nat) : Cs R := ⟨()⟩
def c (k : Nat) : T R := b (g k) k
end spec_l12Held
/-! ### spec_l12Fresh: function 106 -/
namespace spec_l12Fresh
abbrev T (R : Type) : Type := Int → Int → Int → (L5) → (L3) → (L5) → Int → Int → Int → Int → ByteArray → (Bool → Option R) → Option R
def con (f : T R) : Con R := ⟨[], fun args K => match args with
 | [.val true [.s (.int .i64 A), .s (.int .i64 B), .s (.int .i64 C), D, F, J], .val true [.s (.int .i64 M), .s (.int .i64 N), .s (.int .i64 O), .s (.int .i64 P), .s (.string Q)]] => withRow q5 D fun S => withRow q3 F fun U => withRow q5 J fun W => f A B C S U W M N O P Q (fun r1 => K ⟨[.val false [.s (.bool r1)]], []⟩)
 | _ => none⟩
structure Cs (R : Type) where
  none_ : Unit := ()
  f90 : spec_NoteOk.T R
  f80 : spec_l12Held.T R
  f74 : spec_l12Mark.T R
def G (g : Cs R) : Cons R := [(90, spec_NoteOk.con g.f90), (80, spec_l12Held.con g.f80), (74, spec_l12Mark.con g.f74)]
def H : List (Nat × Meet) := []
variable (g : Cs R) (k : Nat)
def b (g : Cs R) (k : Nat) (P D Q : Int) (F : L5) (J : L3) (M : L5) (A B N C : Int) (O : ByteArray) (K : Bool → Option R) : Option R :=
 g.f90 A B N C O (fun r1 => cond r1 (cond (decide (D < C)) (g.f80 F A B (fun r2 => cond (decide (r2 < 0)) (g.f74 J A B (fun r3 => cond (decide (r3 < 0)) (g.f80 M A B (fun r4 => K (decide (r4 < 0)))) (K false))) (K false))) (K false)) (K false))
theorem evs (A B C : Int) (D : L5) (F : L3) (J : L5) (M N O P : Int) (Q : ByteArray) (KF : Ret → Option R) : evFunc E (G g) k H [] false Tryz.f106 [.val true [ri A, ri B, ri C, .row .ro q5 D, .row .ro q3 F, .row .ro q5 J], .val true [ri M, ri N, ri O, ri P, .s (.string Q)]] KF = b g k A B C D F J M N O P Q (fun r1 => KF ⟨[.val false [.s (.bool r1)]], []⟩) :=
 by kernel_rfl
end spec_l12Fresh
namespace spec_l12Fresh
def g (k : Nat) : Cs R := ⟨(), spec_NoteOk.c k, spec_l12Held.c k, spec_l12Mark.c k⟩
def c (k : Nat) : T R := b (g k) k
end spec_l12Fresh
/-! ### spec_l12Take: function 79 -/
namespace spec_l12Take
abbrev T (R : Type) : Type := Int → Int → Int → (L5) → (L3) → (L5) → Int → Int → Int → Int → ByteArray → (Int → Int → Int → (L5) → (L3) → (L5) → Bool → Option R) → Option R
def con (f : T R) : Con R := ⟨[], fun args K => match args with
 | [.val true [.s (.int .i64 A), .s (.int .i64 B), .s (.int .i64 C), D, F, J], .val true [.s (.int .i64 M), .s (.int .i64 N), .s (.int .i64 O), .s (.int .i64 P), .s (.string Q)]] => withRow q5 D fun S => withRow q3 F fun U => withRow q5 J fun W => f A B C S U W M N O P Q (fun r1 r2 r3 r4 r5 r6 r7 => K ⟨[.val true [ri r1, ri r2, ri r3, .row .ro q5 r4, .row .ro q3 r5, .row .ro q5 r6], .val false [.s (.bool r7)]], []⟩)
 | _ => none⟩
structure Cs (R : Type) where
  none_ : Unit := ()
  f106 : spec_l12Fresh.T R
  f81 : spec_l12PutNote.T R
  f85 : spec_l12PutMark.T R
def G (g : Cs R) : Cons R := [(106, spec_l12Fresh.con g.f106), (81, spec_l12PutNote.con g.f81), (85, spec_l12PutMark.con g.f85)]
def H : List (Nat × Meet) := []
variable (g : Cs R) (k : Nat)
def b (g : Cs R) (k : Nat) (A D F : Int) (B : L5) (C : L3) (J : L5) (M N O P : Int) (Q : ByteArray) (K : Int → Int → Int → (L5) → (L3) → (L5) → Bool → Option R) : Option R :=
 g.f106 A D F B C J M N O P Q (fun r1 => cond (!r1) (K A D F B C J false) (cond (!decide (O = A)) (g.f81 B M N O P Q (fun r2 => let y3 := (IntKind.wrap .i64 ((r2.length : Int) + (C.length : Int))); K A D F r2 C J (decide (y3 ≤ 12)))) (g.f81 J M N O P Q (fun r4 => g.f85 C M N P (fun r5 => let y6 := (IntKind.wrap .i64 ((B.length : Int) + (r5.length : Int))); K A D F B r5 r4 (decide (y6 ≤ 12)))))))
theorem evs (A B C : Int) (D : L5) (F : L3) (J : L5) (M N O P : Int) (Q : ByteArray) (KF : Ret → Option R) : evFunc E (G g) k H [] true Tryz.f79 [.val true [ri A, ri B, ri C, .row .ro q5 D, .row .ro q3 F, .row .ro q5 J], .val true [ri M, ri N, ri O, ri P, .s (.string Q)]] KF = b g k A B C D F J M N O P Q (fun r1 r2 r3 r4 r5 r6 r7 => KF ⟨[.val true [ri r1, ri r2, ri r3, .row .ro q5 r4, .row .ro q3 r5, .row .ro q5 r6], .val false [.s (.bool r7)]], []⟩) :=
 by kernel_rfl
end spec_l12Take
namespace spec_l12Take
def g (k : Nat) : Cs R := ⟨(), spec_l12Fresh.c k, spec_l12PutNote.c k, spec_l12PutMark.c k⟩
def c (k : Nat) : T R := b (g k) k
end spec_l12Take
/-! ### spec_l12Let: function 83 -/
namespace spec_l12Let
abbrev T (R : Type) : Type := Int → Int → Int → (L5) → (L3) → (L5) → Int → Int → (Int → Int → Int → (L5) → (L3) → (L5) → Bool → Option R) → Option R
def con (f : T R) : Con R := ⟨[], fun args K => match args with
 | [.val true [.s (.int .i64 A), .s (.int .i64 B), .s (.int .i64 C), D, F, J], .val false [.s (.int .i64 a1)], .val false [.s (.int .i64 a2)]] => withRow q5 D fun M => withRow q3 F fun N => withRow q5 J fun O => f A B C M N O a1 a2 (fun r1 r2 r3 r4 r5 r6 r7 => K ⟨[.val true [ri r1, ri r2, ri r3, .row .ro q5 r4, .row .ro q3 r5, .row .ro q5 r6], .val false [.s (.bool r7)]], []⟩)
 | _ => none⟩
structure Cs (R : Type) where
  none_ : Unit := ()
  f80 : spec_l12Held.T R
  f85 : spec_l12PutMark.T R
def G (g : Cs R) : Cons R := [(80, spec_l12Held.con g.f80), (85, spec_l12PutMark.con g.f85)]
def H : List (Nat × Meet) := []
variable (g : Cs R) (k : Nat)
def b (g : Cs R) (k : Nat) (B C D : Int) (A : L5) (F : L3) (J : L5) (a1 a2 : Int) (K : Int → Int → Int → (L5) → (L3) → (L5) → Bool → Option R) : Option R :=
 g.f80 A a1 a2 (fun r1 => cond (decide (r1 < 0)) (K B C D A F J false) (cond (decide (0 ≤ r1) && decide (r1 < (A.length : Int))) (cond (decide (0 ≤ r1) && decide (r1 ≤ (A.length : Int))) (cond (Nat.ble (([] : L5).length + (part (cs := q5) A 0 r1.toNat).length) lim) (let y2 := (([] : L5) ++ (part (cs := q5) A 0 r1.toNat)); cond (decide (0 ≤ (IntKind.wrap .i64 (r1 + 1))) && decide ((IntKind.wrap .i64 (r1 + 1)) ≤ (A.length : Int))) (cond (Nat.ble (y2.length + (part (cs := q5) A ((IntKind.wrap .i64 (r1 + 1)).toNat) (A.length - (IntKind.wrap .i64 (r1 + 1)).toNat)).length) lim) (let y3 := (y2 ++ (part (cs := q5) A ((IntKind.wrap .i64 (r1 + 1)).toNat) (A.length - (IntKind.wrap .i64 (r1 + 1)).toNat))); let y4 := (A.getD r1.toNat n5).2.2.2.1; g.f85 F a1 a2 y4 (fun r5 => K B C D y3 r5 J true)) none) none) none) none) none))
theorem evs (A B C : Int) (D : L5) (F : L3) (J : L5) (a1 a2 : Int) (KF : Ret → Option R) : evFunc E (G g) k H [] true Tryz.f83 [.val true [ri A, ri B, ri C, .row .ro q5 D, .row .ro q3 F, .row .ro q5 J], .val false [ri a1], .val false [ri a2]] KF = b g k A B C D F J a1 a2 (fun r1 r2 r3 r4 r5 r6 r7 => KF ⟨[.val true [ri r1, ri r2, ri r3, .row .ro q5 r4, .row .ro q3 r5, .row .ro q5 r6], .val false [.s (.bool r7)]], []⟩) :=
 by kernel_rfl
end spec_l12Let
namespace spec_l12Let
def g (k : Nat) : Cs R := ⟨(), spec_l12Held.c k, spec_l12PutMark.c k⟩
def c (k : Nat) : T R := b (g k) k
end spec_l12Let
/-! ### spec_l12Eat: function 84 -/
namespace spec_l12Eat
abbrev T (R : Type) : Type := Int → Int → Int → (L5) → (L3) → (L5) → Int → Int → (Int → Int → Int → (L5) → (L3) → (L5) → Bool → Option R) → Option R
def con (f : T R) : Con R := ⟨[], fun args K => match args with
 | [.val true [.s (.int .i64 A), .s (.int .i64 B), .s (.int .i64 C), D, F, J], .val false [.s (.int .i64 a1)], .val false [.s (.int .i64 a2)]] => withRow q5 D fun M => withRow q3 F fun N => withRow q5 J fun O => f A B C M N O a1 a2 (fun r1 r2 r3 r4 r5 r6 r7 => K ⟨[.val true [ri r1, ri r2, ri r3, .row .ro q5 r4, .row .ro q3 r5, .row .ro q5 r6], .val false [.s (.bool r7)]], []⟩)
 | _ => none⟩
structure Cs (R : Type) where
  none_ : Unit := ()
  f80 : spec_l12Held.T R
def G (g : Cs R) : Cons R := [(80, spec_l12Held.con g.f80)]
def H : List (Nat × Meet) := []
variable (g : Cs R) (k : Nat)
def b (g : Cs R) (k : Nat) (B C D : Int) (F : L5) (J : L3) (A : L5) (a1 a2 : Int) (K : Int → Int → Int → (L5) → (L3) → (L5) → Bool → Option R) : Option R :=
 g.f80 A a1 a2 (fun r1 => cond (decide (r1 < 0)) (K B C D F J A false) (cond (decide (0 ≤ r1) && decide (r1 ≤ (A.length : Int))) (cond (Nat.ble (([] : L5).length + (part (cs := q5) A 0 r1.toNat).length) lim) (let y2 := (([] : L5) ++ (part (cs := q5) A 0 r1.toNat)); cond (decide (0 ≤ (IntKind.wrap .i64 (r1 + 1))) && decide ((IntKind.wrap .i64 (r1 + 1)) ≤ (A.length : Int))) (cond (Nat.ble (y2.length + (part (cs := q5) A ((IntKind.wrap .i64 (r1 + 1)).toNat) (A.length - (IntKind.wrap .i64 (r1 + 1)).toNat)).length) lim) (let y3 := (y2 ++ (part (cs := q5) A ((IntKind.wrap .i64 (r1 + 1)).toNat) (A.length - (IntKind.wrap .i64 (r1 + 1)).toNat))); K B C D F J y3 true) none) none) none) none))
theorem evs (A B C : Int) (D : L5) (F : L3) (J : L5) (a1 a2 : Int) (KF : Ret → Option R) : evFunc E (G g) k H [] true Tryz.f84 [.val true [ri A, ri B, ri C, .row .ro q5 D, .row .ro q3 F, .row .ro q5 J], .val false [ri a1], .val false [ri a2]] KF = b g k A B C D F J a1 a2 (fun r1 r2 r3 r4 r5 r6 r7 => KF ⟨[.val true [ri r1, ri r2, ri r3, .row .ro q5 r4, .row .ro q3 r5, .row .ro q5 r6], .val false [.s (.bool r7)]], []⟩) :=
 by kernel_rfl
end spec_l12Eat
namespace spec_l12Eat
def g (k : Nat) : Cs R := ⟨(), spec_l12Held.c k⟩
def c (k : Nat) : T R := b (g k) k
end spec_l12Eat
/-! ### spec_l12Rec: function 43 -/
namespace spec_l12Rec
abbrev T (R : Type) : Type := Int → Int → Int → (L5) → (L3) → (L5) → ByteArray → (Int → Int → Int → (L5) → (L3) → (L5) → Bool → Option R) → Option R
def con (f : T R) : Con R := ⟨[], fun args K => match args with
 | [.val true [.s (.int .i64 A), .s (.int .i64 B), .s (.int .i64 C), D, F, J], .val false [.s (.string a1)]] => withRow q5 D fun M => withRow q3 F fun N => withRow q5 J fun O => f A B C M N O a1 (fun r1 r2 r3 r4 r5 r6 r7 => K ⟨[.val true [ri r1, ri r2, ri r3, .row .ro q5 r4, .row .ro q3 r5, .row .ro q5 r6], .val false [.s (.bool r7)]], []⟩)
 | _ => none⟩
structure Cs (R : Type) where
  none_ : Unit := ()
  f75 : spec_l3Word.T R
  f76 : spec_l3Dec.T R
  f77 : spec_l12Time.T R
  f78 : spec_NoteRead.T R
  f79 : spec_l12Take.T R
  f80 : spec_l12Held.T R
  f81 : spec_l12PutNote.T R
  f82 : spec_l3Nums.T R
  f48 : spec_l6Dec.T R
  f83 : spec_l12Let.T R
  f84 : spec_l12Eat.T R
  f74 : spec_l12Mark.T R
  f85 : spec_l12PutMark.T R
def G (g : Cs R) : Cons R := [(75, spec_l3Word.con g.f75), (76, spec_l3Dec.con g.f76), (77, spec_l12Time.con g.f77), (78, spec_NoteRead.con g.f78), (79, spec_l12Take.con g.f79), (80, spec_l12Held.con g.f80), (81, spec_l12PutNote.con g.f81), (82, spec_l3Nums.con g.f82), (48, spec_l6Dec.con g.f48), (83, spec_l12Let.con g.f83), (84, spec_l12Eat.con g.f84), (74, spec_l12Mark.con g.f74), (85, spec_l12PutMark.con g.f85)]
def H : List (Nat × Meet) := []
variable (g : Cs R) (k : Nat)
def b (g : Cs R) (k : Nat) (C F J : Int) (A : L5) (D : L3) (B : L5) (a1 : ByteArray) (K : Int → Int → Int → (L5) → (L3) → (L5) → Bool → Option R) : Option R :=
 g.f75 a1 (fun r1 r2 => let y3 := (decide (r1 = (ByteArray.mk #[116, 105, 109, 101]))); cond y3 (g.f76 r2 (fun r4 => cond (decide (r4 ≤ F)) (K C F J A D B false) (g.f77 C F J A D B r4 (fun r5 r6 r7 r8 r9 r10 => K r5 r6 r7 r8 r9 r10 true)))) (cond (decide (r1 = (ByteArray.mk #[111, 119, 110]))) (g.f78 r2 (fun r11 r12 r13 r14 r15 r16 => cond (!r16) (K C F J A D B false) (cond (!decide (r11 = C)) (K C F J A D B false) (cond (!decide (r12 = J)) (K C F J A D B false) (g.f79 C F (IntKind.wrap .i64 (J + 1)) A D B r11 r12 r13 r14 r15 (fun r17 r18 r19 r20 r21 r22 r23 => K r17 r18 r19 r20 r21 r22 r23)))))) (let y24 := (decide (r1 = (ByteArray.mk #[116, 97, 107, 101]))); cond y24 (g.f78 r2 (fun r25 r26 r27 r28 r29 r30 => cond (!r30) (K C F J A D B false) (cond (decide (r25 = C)) (K C F J A D B false) (g.f79 C F J A D B r25 r26 r27 r28 r29 (fun r31 r32 r33 r34 r35 r36 r37 => K r31 r32 r33 r34 r35 r36 r37))))) (let y38 := (decide (r1 = (ByteArray.mk #[110, 101, 120, 116]))); cond y38 (g.f76 r2 (fun r39 => cond (decide (r39 ≤ J)) (K C F J A D B false) (K C F r39 A D B true))) (let y40 := (decide (r1 = (ByteArray.mk #[104, 101, 108, 100]))); cond y40 (cond y40 (g.f78 r2 (fun r41 r42 r43 r44 r45 r46 => cond (!r46) (K C F J A D B false) (g.f80 A r41 r42 (fun r47 => cond (decide ((0 : Int) ≤ r47)) (K C F J A D B false) (g.f80 B r41 r42 (fun r48 => cond (decide ((0 : Int) ≤ r48)) (K C F J A D B false) (let y49 := (decide (r1 = (ByteArray.mk #[104, 101, 108, 100]))); cond y49 (g.f81 A r41 r42 r43 r44 r45 (fun r50 => K C F J r50 D B true)) (g.f81 B r41 r42 r43 r44 r45 (fun r51 => K C F J A D r51 true))))))))) (g.f82 r2 3 (fun r52 r53 => cond (!decide (r53 = (ByteArray.mk #[]))) (K C F J A D B false) (cond (decide (0 ≤ (0 : Int)) && decide ((0 : Int) < (r52.length : Int))) (g.f48 (r52.getD 0 (0 : Int)) (fun r54 => cond (decide (r54.size + (ByteArray.mk #[32]).size ≤ 9223372036854775807)) (cond (decide (0 ≤ (1 : Int)) && decide ((1 : Int) < (r52.length : Int))) (g.f48 (r52.getD 1 (0 : Int)) (fun r55 => cond (decide ((r54 ++ (ByteArray.mk #[32])).size + r55.size ≤ 9223372036854775807)) (cond (decide (((r54 ++ (ByteArray.mk #[32])) ++ r55).size + (ByteArray.mk #[32]).size ≤ 9223372036854775807)) (let y56 := (((r54 ++ (ByteArray.mk #[32])) ++ r55) ++ (ByteArray.mk #[32])); cond (decide (0 ≤ (2 : Int)) && decide ((2 : Int) < (r52.length : Int))) (g.f48 (r52.getD 2 (0 : Int)) (fun r57 => cond (decide (y56.size + r57.size ≤ 9223372036854775807)) (cond (!decide (r2 = (y56 ++ r57))) (K C F J A D B false) (cond (decide (r1 = (ByteArray.mk #[108, 101, 116]))) (cond (decide (0 ≤ (0 : Int)) && decide ((0 : Int) < (r52.length : Int))) (cond (decide (0 ≤ (1 : Int)) && decide ((1 : Int) < (r52.length : Int))) (g.f80 A (r52.getD 0 (0 : Int)) (r52.getD 1 (0 : Int)) (fun r58 => cond (decide (r58 < 0)) (K C F J A D B false) (cond (decide (0 ≤ r58) && decide (r58 < (A.length : Int))) (let y59 := (A.getD r58.toNat n5).2.2.2.1; cond (decide (0 ≤ (2 : Int)) && decide ((2 : Int) < (r52.length : Int))) (cond (!decide (y59 = (r52.getD 2 (0 : Int)))) (K C F J A D B false) (cond (decide (0 ≤ (0 : Int)) && decide ((0 : Int) < (r52.length : Int))) (cond (decide (0 ≤ (1 : Int)) && decide ((1 : Int) < (r52.length : Int))) (g.f83 C F J A D B (r52.getD 0 (0 : Int)) (r52.getD 1 (0 : Int)) (fun r60 r61 r62 r63 r64 r65 r66 => K r60 r61 r62 r63 r64 r65 r66)) none) none)) none) none))) none) none) (cond (decide (r1 = (ByteArray.mk #[101, 97, 116]))) (cond (decide (0 ≤ (0 : Int)) && decide ((0 : Int) < (r52.length : Int))) (cond (decide (0 ≤ (1 : Int)) && decide ((1 : Int) < (r52.length : Int))) (g.f80 B (r52.getD 0 (0 : Int)) (r52.getD 1 (0 : Int)) (fun r67 => cond (decide (r67 < 0)) (K C F J A D B false) (cond (decide (0 ≤ r67) && decide (r67 < (B.length : Int))) (let y68 := (B.getD r67.toNat n5).2.2.2.1; cond (decide (0 ≤ (2 : Int)) && decide ((2 : Int) < (r52.length : Int))) (cond (!decide (y68 = (r52.getD 2 (0 : Int)))) (K C F J A D B false) (cond (decide (0 ≤ (0 : Int)) && decide ((0 : Int) < (r52.length : Int))) (cond (decide (0 ≤ (1 : Int)) && decide ((1 : Int) < (r52.length : Int))) (g.f84 C F J A D B (r52.getD 0 (0 : Int)) (r52.getD 1 (0 : Int)) (fun r69 r70 r71 r72 r73 r74 r75 => K r69 r70 r71 r72 r73 r74 r75)) none) none)) none) none))) none) none) (let y76 := (decide (r1 = (ByteArray.mk #[109, 97, 114, 107]))); cond y76 (cond (decide (0 ≤ (0 : Int)) && decide ((0 : Int) < (r52.length : Int))) (cond (decide (0 ≤ (1 : Int)) && decide ((1 : Int) < (r52.length : Int))) (g.f74 D (r52.getD 0 (0 : Int)) (r52.getD 1 (0 : Int)) (fun r77 => cond (decide ((0 : Int) ≤ r77)) (K C F J A D B false) (cond (decide (0 ≤ (0 : Int)) && decide ((0 : Int) < (r52.length : Int))) (cond (decide (0 ≤ (1 : Int)) && decide ((1 : Int) < (r52.length : Int))) (cond (decide (0 ≤ (2 : Int)) && decide ((2 : Int) < (r52.length : Int))) (g.f85 D (r52.getD 0 (0 : Int)) (r52.getD 1 (0 : Int)) (r52.getD 2 (0 : Int)) (fun r78 => K C F J A r78 B true)) none) none) none))) none) none) (K C F J A D B false))))) none)) none) none) none)) none) none)) none)))) (let y79 := (decide (r1 = (ByteArray.mk #[105, 110, 98, 111, 120]))); cond y79 (g.f78 r2 (fun r80 r81 r82 r83 r84 r85 => cond (!r85) (K C F J A D B false) (g.f80 A r80 r81 (fun r86 => cond (decide ((0 : Int) ≤ r86)) (K C F J A D B false) (g.f80 B r80 r81 (fun r87 => cond (decide ((0 : Int) ≤ r87)) (K C F J A D B false) (let y88 := (decide (r1 = (ByteArray.mk #[104, 101, 108, 100]))); cond y88 (g.f81 A r80 r81 r82 r83 r84 (fun r89 => K C F J r89 D B true)) (g.f81 B r80 r81 r82 r83 r84 (fun r90 => K C F J A D r90 true))))))))) (g.f82 r2 3 (fun r91 r92 => cond (!decide (r92 = (ByteArray.mk #[]))) (K C F J A D B false) (cond (decide (0 ≤ (0 : Int)) && decide ((0 : Int) < (r91.length : Int))) (g.f48 (r91.getD 0 (0 : Int)) (fun r93 => cond (decide (r93.size + (ByteArray.mk #[32]).size ≤ 9223372036854775807)) (cond (decide (0 ≤ (1 : Int)) && decide ((1 : Int) < (r91.length : Int))) (g.f48 (r91.getD 1 (0 : Int)) (fun r94 => cond (decide ((r93 ++ (ByteArray.mk #[32])).size + r94.size ≤ 9223372036854775807)) (cond (decide (((r93 ++ (ByteArray.mk #[32])) ++ r94).size + (ByteArray.mk #[32]).size ≤ 9223372036854775807)) (let y95 := (((r93 ++ (ByteArray.mk #[32])) ++ r94) ++ (ByteArray.mk #[32])); cond (decide (0 ≤ (2 : Int)) && decide ((2 : Int) < (r91.length : Int))) (g.f48 (r91.getD 2 (0 : Int)) (fun r96 => cond (decide (y95.size + r96.size ≤ 9223372036854775807)) (cond (!decide (r2 = (y95 ++ r96))) (K C F J A D B false) (cond (decide (r1 = (ByteArray.mk #[108, 101, 116]))) (cond (decide (0 ≤ (0 : Int)) && decide ((0 : Int) < (r91.length : Int))) (cond (decide (0 ≤ (1 : Int)) && decide ((1 : Int) < (r91.length : Int))) (g.f80 A (r91.getD 0 (0 : Int)) (r91.getD 1 (0 : Int)) (fun r97 => cond (decide (r97 < 0)) (K C F J A D B false) (cond (decide (0 ≤ r97) && decide (r97 < (A.length : Int))) (let y98 := (A.getD r97.toNat n5).2.2.2.1; cond (decide (0 ≤ (2 : Int)) && decide ((2 : Int) < (r91.length : Int))) (cond (!decide (y98 = (r91.getD 2 (0 : Int)))) (K C F J A D B false) (cond (decide (0 ≤ (0 : Int)) && decide ((0 : Int) < (r91.length : Int))) (cond (decide (0 ≤ (1 : Int)) && decide ((1 : Int) < (r91.length : Int))) (g.f83 C F J A D B (r91.getD 0 (0 : Int)) (r91.getD 1 (0 : Int)) (fun r99 r100 r101 r102 r103 r104 r105 => K r99 r100 r101 r102 r103 r104 r105)) none) none)) none) none))) none) none) (cond (decide (r1 = (ByteArray.mk #[101, 97, 116]))) (cond (decide (0 ≤ (0 : Int)) && decide ((0 : Int) < (r91.length : Int))) (cond (decide (0 ≤ (1 : Int)) && decide ((1 : Int) < (r91.length : Int))) (g.f80 B (r91.getD 0 (0 : Int)) (r91.getD 1 (0 : Int)) (fun r106 => cond (decide (r106 < 0)) (K C F J A D B false) (cond (decide (0 ≤ r106) && decide (r106 < (B.length : Int))) (let y107 := (B.getD r106.toNat n5).2.2.2.1; cond (decide (0 ≤ (2 : Int)) && decide ((2 : Int) < (r91.length : Int))) (cond (!decide (y107 = (r91.getD 2 (0 : Int)))) (K C F J A D B false) (cond (decide (0 ≤ (0 : Int)) && decide ((0 : Int) < (r91.length : Int))) (cond (decide (0 ≤ (1 : Int)) && decide ((1 : Int) < (r91.length : Int))) (g.f84 C F J A D B (r91.getD 0 (0 : Int)) (r91.getD 1 (0 : Int)) (fun r108 r109 r110 r111 r112 r113 r114 => K r108 r109 r110 r111 r112 r113 r114)) none) none)) none) none))) none) none) (let y115 := (decide (r1 = (ByteArray.mk #[109, 97, 114, 107]))); cond y115 (cond (decide (0 ≤ (0 : Int)) && decide ((0 : Int) < (r91.length : Int))) (cond (decide (0 ≤ (1 : Int)) && decide ((1 : Int) < (r91.length : Int))) (g.f74 D (r91.getD 0 (0 : Int)) (r91.getD 1 (0 : Int)) (fun r116 => cond (decide ((0 : Int) ≤ r116)) (K C F J A D B false) (cond (decide (0 ≤ (0 : Int)) && decide ((0 : Int) < (r91.length : Int))) (cond (decide (0 ≤ (1 : Int)) && decide ((1 : Int) < (r91.length : Int))) (cond (decide (0 ≤ (2 : Int)) && decide ((2 : Int) < (r91.length : Int))) (g.f85 D (r91.getD 0 (0 : Int)) (r91.getD 1 (0 : Int)) (r91.getD 2 (0 : Int)) (fun r117 => K C F J A r117 B true)) none) none) none))) none) none) (K C F J A D B false))))) none)) none) none) none)) none) none)) none)))))))))
theorem evs (A B C : Int) (D : L5) (F : L3) (J : L5) (a1 : ByteArray) (KF : Ret → Option R) : evFunc E (G g) k H [] true Tryz.f43 [.val true [ri A, ri B, ri C, .row .ro q5 D, .row .ro q3 F, .row .ro q5 J], .val false [.s (.string a1)]] KF = b g k A B C D F J a1 (fun r1 r2 r3 r4 r5 r6 r7 => KF ⟨[.val true [ri r1, ri r2, ri r3, .row .ro q5 r4, .row .ro q3 r5, .row .ro q5 r6], .val false [.s (.bool r7)]], []⟩) :=
 by kernel_rfl
end spec_l12Rec
namespace spec_l12Rec
def g (k : Nat) : Cs R := ⟨(), spec_l3Word.c k, spec_l3Dec.c k, spec_l12Time.c k, spec_NoteRead.c k, spec_l12Take.c k, spec_l12Held.c k, spec_l12PutNote.c k, spec_l3Nums.c k, spec_l6Dec.c k, spec_l12Let.c k, spec_l12Eat.c k, spec_l12Mark.c k, spec_l12PutMark.c k⟩
def c (k : Nat) : T R := b (g k) k
end spec_l12Rec
/-! ### spec_l12Copy: function 44 -/
namespace spec_l12Copy
abbrev T (R : Type) : Type := Int → Int → Int → (L5) → (L3) → (L5) → (Int → Int → Int → (L5) → (L3) → (L5) → Option R) → Option R
def con (f : T R) : Con R := ⟨[], fun args K => match args with
 | [.val true [.s (.int .i64 A), .s (.int .i64 B), .s (.int .i64 C), D, F, J]] => withRow q5 D fun M => withRow q3 F fun N => withRow q5 J fun O => f A B C M N O (fun r1 r2 r3 r4 r5 r6 => K ⟨[.val true [ri r1, ri r2, ri r3, .row .own q5 r4, .row .own q3 r5, .row .own q5 r6]], []⟩)
 | _ => none⟩
structure Cs (R : Type) where
  none_ : Unit := ()
def G (g : Cs R) : Cons R := []
def H : List (Nat × Meet) := []
variable (g : Cs R) (k : Nat)
def b (g : Cs R) (k : Nat) (D F J : Int) (A : L5) (B : L3) (C : L5) (K : Int → Int → Int → (L5) → (L3) → (L5) → Option R) : Option R :=
 cond (Nat.ble (([] : L5).length + A.length) lim) (let y1 := (([] : L5) ++ A); cond (Nat.ble (([] : L3).length + B.length) lim) (cond (Nat.ble (([] : L5).length + C.length) lim) (let y2 := (([] : L5) ++ C); K D F J y1 (([] : L3) ++ B) y2) none) none) none
theorem evs (A B C : Int) (D : L5) (F : L3) (J : L5) (KF : Ret → Option R) : evFunc E (G g) k H [] false Tryz.f44 [.val true [ri A, ri B, ri C, .row .ro q5 D, .row .ro q3 F, .row .ro q5 J]] KF = b g k A B C D F J (fun r1 r2 r3 r4 r5 r6 => KF ⟨[.val true [ri r1, ri r2, ri r3, .row .own q5 r4, .row .own q3 r5, .row .own q5 r6]], []⟩) :=
 by kernel_rfl
end spec_l12Copy
namespace spec_l12Copy
def g (k : Nat) : Cs R := ⟨()⟩
def c (k : Nat) : T R := b (g k) k
end spec_l12Copy
/-! ### spec_KeepDo: function 21 -/
namespace spec_KeepDo
abbrev T (R : Type) : Type := Int → Int → Int → (L5) → (L3) → (L5) → ByteArray → (Int → Int → Int → (L5) → (L3) → (L5) → Bool → Option R) → Option R
def con (f : T R) : Con R := ⟨[], fun args K => match args with
 | [.val true [.s (.int .i64 A), .s (.int .i64 B), .s (.int .i64 C), D, F, J], .val false [.s (.string a1)]] => withRow q5 D fun M => withRow q3 F fun N => withRow q5 J fun O => f A B C M N O a1 (fun r1 r2 r3 r4 r5 r6 r7 => K ⟨[.val true [ri r1, ri r2, ri r3, .row .own q5 r4, .row .own q3 r5, .row .own q5 r6], .val false [.s (.bool r7)]], []⟩)
 | _ => none⟩
structure Cs (R : Type) where
  none_ : Unit := ()
  f42 : spec_KeepOk.T R
  f44 : spec_l12Copy.T R
  f43 : spec_l12Rec.T R
def G (g : Cs R) : Cons R := [(42, spec_KeepOk.con g.f42), (44, spec_l12Copy.con g.f44), (43, spec_l12Rec.con g.f43)]
def H : List (Nat × Meet) := []
variable (g : Cs R) (k : Nat)
def b (g : Cs R) (k : Nat) (A B C : Int) (D : L5) (F : L3) (J : L5) (a1 : ByteArray) (K : Int → Int → Int → (L5) → (L3) → (L5) → Bool → Option R) : Option R :=
 g.f42 A B C D F J (fun r1 => cond (!r1) (K 0 0 0 [] [] [] false) (g.f44 A B C D F J (fun r2 r3 r4 r5 r6 r7 => g.f43 r2 r3 r4 r5 r6 r7 a1 (fun r8 r9 r10 r11 r12 r13 r14 => cond (!r14) (g.f44 A B C D F J (fun r15 r16 r17 r18 r19 r20 => K r15 r16 r17 r18 r19 r20 false)) (g.f42 r8 r9 r10 r11 r12 r13 (fun r21 => cond (!r21) (g.f44 A B C D F J (fun r22 r23 r24 r25 r26 r27 => K r22 r23 r24 r25 r26 r27 false)) (g.f44 r8 r9 r10 r11 r12 r13 (fun r28 r29 r30 r31 r32 r33 => K r28 r29 r30 r31 r32 r33 true))))))))
theorem evs (A B C : Int) (D : L5) (F : L3) (J : L5) (a1 : ByteArray) (KF : Ret → Option R) : evFunc E (G g) k H [] false Tryz.f21 [.val true [ri A, ri B, ri C, .row .ro q5 D, .row .ro q3 F, .row .ro q5 J], .val false [.s (.string a1)]] KF = b g k A B C D F J a1 (fun r1 r2 r3 r4 r5 r6 r7 => KF ⟨[.val true [ri r1, ri r2, ri r3, .row .own q5 r4, .row .own q3 r5, .row .own q5 r6], .val false [.s (.bool r7)]], []⟩) :=
 by kernel_rfl
end spec_KeepDo
namespace spec_KeepDo
def g (k : Nat) : Cs R := ⟨(), spec_KeepOk.c k, spec_l12Copy.c k, spec_l12Rec.c k⟩
def c (k : Nat) : T R := b (g k) k
end spec_KeepDo
/-! ### laws_toNote: function 86 -/
namespace laws_toNote
abbrev T (R : Type) : Type := Int → Int → Int → Int → ByteArray → (Int → Int → Int → Int → ByteArray → Option R) → Option R
def con (f : T R) : Con R := ⟨[], fun args K => match args with
 | [.val true [.s (.int .i64 A), .s (.int .i64 B), .s (.int .i64 C), .s (.int .i64 D), .s (.string F)]] => f A B C D F (fun r1 r2 r3 r4 r5 => K ⟨[.val true [ri r1, ri r2, ri r3, ri r4, .s (.string r5)]], []⟩)
 | _ => none⟩
structure Cs (R : Type) where
  none_ : Unit := ()
def G (g : Cs R) : Cons R := []
def H : List (Nat × Meet) := []
variable (g : Cs R) (k : Nat)
def b (g : Cs R) (k : Nat) (A B C D : Int) (F : ByteArray) (K : Int → Int → Int → Int → ByteArray → Option R) : Option R :=
 K A B C D F
theorem evs (A B C D : Int) (F : ByteArray) (KF : Ret → Option R) : evFunc E (G g) k H [] false Tryz.f86 [.val true [ri A, ri B, ri C, ri D, .s (.string F)]] KF = b g k A B C D F (fun r1 r2 r3 r4 r5 => KF ⟨[.val true [ri r1, ri r2, ri r3, ri r4, .s (.string r5)]], []⟩) :=
 by kernel_rfl
end laws_toNote
namespace laws_toNote
def g (k : Nat) : Cs R := ⟨()⟩
def c (k : Nat) : T R := b (g k) k
end laws_toNote
/-! ### laws_toNoteS: function 45 -/
namespace laws_toNoteS
abbrev T (R : Type) : Type := (L5) → ((L5) → Option R) → Option R
def con (f : T R) : Con R := ⟨[], fun args K => match args with
 | [.val false [pa0]] => withRow q5 pa0 fun a0 => f a0 (fun r1 => K ⟨[.val false [.row .own q5 r1]], []⟩)
 | _ => none⟩
structure Cs (R : Type) where
  none_ : Unit := ()
  f86 : laws_toNote.T R
def G (g : Cs R) : Cons R := [(86, laws_toNote.con g.f86)]
def H : List (Nat × Meet) := [(6, ⟨[(0, [(0, q5)]), (3, [(0, q5)])], []⟩), (28, ⟨[(0, [(0, q5)]), (3, [(0, q5)]), (4, [])], []⟩), (31, ⟨[(2, [(0, q5)])], []⟩), (58, ⟨[(0, [(0, q5)]), (3, [(0, q5)]), (4, [])], []⟩), (467, ⟨[(0, [(0, q5)]), (3, [(0, q5)]), (4, [])], []⟩), (931, ⟨[(3, [(0, q5)])], []⟩)]
abbrev S1 (x1 : L5) : St := mkSt [(0, .c (.sl 0))] [(0, .row .ro q5 x1)]
abbrev S2 (x1 x2 : L5) : St := mkSt [(0, .c (.sl 0)), (3, .c (.sl 9003))] [(0, .row .ro q5 x1), (9003, .row .own q5 x2)]
abbrev S3 (x1 : Int) (x2 x3 : L5) : St := mkSt [(0, .c (.sl 0)), (3, .c (.sl 9003)), (4, .c (si x1))] [(0, .row .ro q5 x2), (9003, .row .own q5 x3)]
abbrev S4 (x1 : L5) : St := mkSt [(3, .c (.sl 9003))] [(9003, .row .own q5 x1)]
abbrev S5 (x1 : L5) : St := mkSt [(2, .c (.sl 9002))] [(9002, .row .own q5 x1)]
noncomputable abbrev V (g : Cs R) (k : Nat) (K : Kont R) (b : List Bool) (p : Nat) (st : St) : Option R := ev E (G g) k H (nodeAt (bodyOf Tryz.f45) b) p st K
noncomputable abbrev U (g : Cs R) (k : Nat) (n : Nat) (b : List Bool) : Nat → St → (St → Option R) → Kont R → Option R := evPre E (G g) k H n (nodeAt (bodyOf Tryz.f45) b)
noncomputable abbrev W (g : Cs R) (k : Nat) (b : List Bool) (p : Nat) : St → Kont R → Option R := ev E (G g) k H (nodeAt (bodyOf Tryz.f45) b) p
variable (g : Cs R) (k : Nat)
def s1 (g : Cs R) (k : Nat) (a0 : L5) (j : (L5) → Option R) : Option R :=
 cond (decide (0 ≤ (a0.length : Int)) && decide ((a0.length : Int) = (a0.length : Int)) && Nat.ble ((a0.length : Int).toNat) lim) (let y1 := (List.replicate ((a0.length : Int).toNat) n5); j y1) none
theorem s1_ev (a0 : L5) (X : St → Option R) (K : Kont R) : U g k 2 [] 1 (S1 a0) X K = s1 g k a0 (fun z0 => X (S2 a0 z0)) := by kernel_rfl
def s2 (g : Cs R) (k : Nat) (a0 z0 : L5) (j : Int → Option R) : Option R :=
 j 0
theorem s2_ev (a0 z0 : L5) (X : St → Option R) (K : Kont R) : U g k 1 [true, true, false] 14 (S2 a0 z0) X K = s2 g k a0 z0 (fun z1 => X (S3 z1 a0 z0)) := by kernel_rfl
def s3 (g : Cs R) (k : Nat) (z2 : Int) (a0 z3 : L5) (j : Int → (L5) → Option R) (x0 : Option R) : Option R :=
 cond (decide (z2 < (a0.length : Int))) (cond (decide (0 ≤ z2) && decide (z2 < (a0.length : Int))) (g.f86 ((a0.getD z2.toNat n5).1) ((a0.getD z2.toNat n5).2.1) ((a0.getD z2.toNat n5).2.2.1) ((a0.getD z2.toNat n5).2.2.2.1) ((a0.getD z2.toNat n5).2.2.2.2) (fun r1 r2 r3 r4 r5 => cond (decide (0 ≤ z2) && decide (z2 < (z3.length : Int))) (j (IntKind.wrap .i64 (z2 + 1)) (z3.set z2.toNat (r1, r2, r3, r4, r5))) none)) none) (x0)
theorem s3_ev (z2 : Int) (a0 z3 : L5) (K : Kont R) : V g k K [true, true, false, true, false, false] 116 (S3 z2 a0 z3) = s3 g k z2 a0 z3 (fun z4 z5 => K .normal (S3 z4 a0 z5)) (K (.exit 0) (S4 z3)) := by kernel_rfl
def l4r (g : Cs R) (k : Nat) (a0 : L5) (x0 : (L5) → Option R) : Nat → Int → (L5) → Option R
 | 0, _, _ => none
 | n + 1, z2, z3 => s3 g k z2 a0 z3 (fun z4 z5 => l4r g k a0 x0 n z4 z5) (x0 z3)
def l4 (g : Cs R) (k : Nat) (z1 : Int) (a0 z0 : L5) (x0 : (L5) → Option R) : Option R := l4r g k a0 x0 k z1 z0
theorem l4r_ev (a0 : L5) (K : Kont R) : ∀ (n : Nat) (z2 : Int) (z3 : L5), evLoop (W g k [true, true, false, true, false, false] 116) (atMeet H 58) K n (S3 z2 a0 z3) = l4r g k a0 (fun z6 => K (.exit 0) (S4 z6)) n z2 z3 := by
 intro n
 induction n with
 | zero => intros; rfl
 | succ n ih =>
  intro z2 z3
  exact Eq.trans (by kernel_rfl) ((s3_ev g k z2 a0 z3 (loopK (W g k [true, true, false, true, false, false] 116) (atMeet H 58) K n)).trans (Eq.trans (by kernel_rfl) (congrArg (fun f_ => s3 g k z2 a0 z3 f_ (K (.exit 0) (S4 z3))) (funext fun (z4 : Int) => (funext fun (z5 : L5) => (ih z4 z5))))))
theorem l4_ev (z1 : Int) (a0 z0 : L5) (K : Kont R) : V g k K [true, true, false, true, false] 58 (S3 z1 a0 z0) = l4 g k z1 a0 z0 (fun z6 => K (.exit 0) (S4 z6)) :=
 Eq.trans (by kernel_rfl) (l4r_ev g k a0 K k z1 z0)
def b5 (g : Cs R) (k : Nat) (z1 : Int) (a0 z0 : L5) (j : (L5) → Option R) : Option R :=
 l4 g k z1 a0 z0 (fun z6 => j z6)
theorem b5_ev (z1 : Int) (a0 z0 : L5) (K : Kont R) : V g k K [true, true, false, true] 29 (S3 z1 a0 z0) = b5 g k z1 a0 z0 (fun z7 => K .normal (S4 z7)) :=
 Eq.trans (by kernel_rfl) ((l4_ev g k z1 a0 z0 (blockK 0 (fun st => K .normal (atMeet H 29 st)) K)).trans (by kernel_rfl))
def c6 (g : Cs R) (k : Nat) (a0 z0 : L5) (j : (L5) → Option R) : Option R :=
 s2 g k a0 z0 (fun z1 => b5 g k z1 a0 z0 (fun z7 => j z7))
theorem c6_ev (a0 z0 : L5) (K : Kont R) : V g k K [true, true, false] 14 (S2 a0 z0) = c6 g k a0 z0 (fun z8 => K .normal (S4 z8)) :=
 (Eq.trans (by kernel_rfl) (s2_ev g k a0 z0 (V g k K [true, true, false, true] 29) K)).trans (congrArg (fun f_ => s2 g k a0 z0 f_) (funext fun (z1 : Int) => (b5_ev g k z1 a0 z0 K)))
def s7 (g : Cs R) (k : Nat) (z8 : L5) (q : Option R) : Option R :=
 q
theorem s7_ev (z8 : L5) (K : Kont R) : V g k K [true, true, true] 15 (S4 z8) = s7 g k z8 (K .ret (S5 z8)) := by kernel_rfl
def c8 (g : Cs R) (k : Nat) (a0 z0 : L5) (q : (L5) → Option R) : Option R :=
 c6 g k a0 z0 (fun z8 => s7 g k z8 (q z8))
theorem c8_ev (a0 z0 : L5) (K : Kont R) : V g k K [true, true] 7 (S2 a0 z0) = c8 g k a0 z0 (fun z9 => K .ret (S5 z9)) :=
 (Eq.trans (by kernel_rfl) (c6_ev g k a0 z0 (seqK (V g k K [true, true, true] 15) K))).trans (congrArg (fun f_ => c6 g k a0 z0 f_) (funext fun (z8 : L5) => (seqN (f := (V g k K [true, true, true] 15)) (K := K) (s7_ev g k z8 K))))
def c9 (g : Cs R) (k : Nat) (a0 : L5) (q : (L5) → Option R) : Option R :=
 s1 g k a0 (fun z0 => c8 g k a0 z0 (fun z9 => q z9))
theorem c9_ev (a0 : L5) (K : Kont R) : V g k K [] 1 (S1 a0) = c9 g k a0 (fun z10 => K .ret (S5 z10)) :=
 (Eq.trans (by kernel_rfl) (s1_ev g k a0 (V g k K [true, true] 7) K)).trans (congrArg (fun f_ => s1 g k a0 f_) (funext fun (z0 : L5) => (c8_ev g k a0 z0 K)))
def b (g : Cs R) (k : Nat) (a0 : L5) (K : (L5) → Option R) : Option R :=
 c9 g k a0 (fun z10 => K z10)
theorem evs (a0 : L5) (KF : Ret → Option R) : evFunc E (G g) k H [] false Tryz.f45 [.val false [.row .ro q5 a0]] KF = b g k a0 (fun r1 => KF ⟨[.val false [.row .own q5 r1]], []⟩) :=
 Eq.trans (by kernel_rfl) ((c9_ev g k a0 (fin E.P false Tryz.f45 [] KF)).trans (by kernel_rfl))
end laws_toNoteS
namespace laws_toNoteS
def g (k : Nat) : Cs R := ⟨(), laws_toNote.c k⟩
def c (k : Nat) : T R := b (g k) k
end laws_toNoteS
/-! ### laws_toMark: function 87 -/
namespace laws_toMark
abbrev T (R : Type) : Type := Int → Int → Int → (Int → Int → Int → Option R) → Option R
def con (f : T R) : Con R := ⟨[], fun args K => match args with
 | [.val true [.s (.int .i64 A), .s (.int .i64 B), .s (.int .i64 C)]] => f A B C (fun r1 r2 r3 => K ⟨[.val true [ri r1, ri r2, ri r3]], []⟩)
 | _ => none⟩
structure Cs (R : Type) where
  none_ : Unit := ()
def G (g : Cs R) : Cons R := []
def H : List (Nat × Meet) := []
variable (g : Cs R) (k : Nat)
def b (g : Cs R) (k : Nat) (A B C : Int) (K : Int → Int → Int → Option R) : Option R :=
 K A B C
theorem evs (A B C : Int) (KF : Ret → Option R) : evFunc E (G g) k H [] false Tryz.f87 [.val true [ri A, ri B, ri C]] KF = b g k A B C (fun r1 r2 r3 => KF ⟨[.val true [ri r1, ri r2, ri r3]], []⟩) :=
 by kernel_rfl
end laws_toMark
namespace laws_toMark
def g (k : Nat) : Cs R := ⟨()⟩
def c (k : Nat) : T R := b (g k) k
end laws_toMark
/-! ### laws_toMarkS: function 46 -/
namespace laws_toMarkS
abbrev T (R : Type) : Type := (L3) → ((L3) → Option R) → Option R
def con (f : T R) : Con R := ⟨[], fun args K => match args with
 | [.val false [pa0]] => withRow q3 pa0 fun a0 => f a0 (fun r1 => K ⟨[.val false [.row .own q3 r1]], []⟩)
 | _ => none⟩
structure Cs (R : Type) where
  none_ : Unit := ()
  f87 : laws_toMark.T R
def G (g : Cs R) : Cons R := [(87, laws_toMark.con g.f87)]
def H : List (Nat × Meet) := [(6, ⟨[(0, [(0, q3)]), (3, [(0, q3)])], []⟩), (28, ⟨[(0, [(0, q3)]), (3, [(0, q3)]), (4, [])], []⟩), (31, ⟨[(2, [(0, q3)])], []⟩), (58, ⟨[(0, [(0, q3)]), (3, [(0, q3)]), (4, [])], []⟩), (467, ⟨[(0, [(0, q3)]), (3, [(0, q3)]), (4, [])], []⟩), (931, ⟨[(3, [(0, q3)])], []⟩)]
abbrev S1 (x1 : L3) : St := mkSt [(0, .c (.sl 0))] [(0, .row .ro q3 x1)]
abbrev S2 (x1 x2 : L3) : St := mkSt [(0, .c (.sl 0)), (3, .c (.sl 9003))] [(0, .row .ro q3 x1), (9003, .row .own q3 x2)]
abbrev S3 (x1 : Int) (x2 x3 : L3) : St := mkSt [(0, .c (.sl 0)), (3, .c (.sl 9003)), (4, .c (si x1))] [(0, .row .ro q3 x2), (9003, .row .own q3 x3)]
abbrev S4 (x1 : L3) : St := mkSt [(3, .c (.sl 9003))] [(9003, .row .own q3 x1)]
abbrev S5 (x1 : L3) : St := mkSt [(2, .c (.sl 9002))] [(9002, .row .own q3 x1)]
noncomputable abbrev V (g : Cs R) (k : Nat) (K : Kont R) (b : List Bool) (p : Nat) (st : St) : Option R := ev E (G g) k H (nodeAt (bodyOf Tryz.f46) b) p st K
noncomputable abbrev U (g : Cs R) (k : Nat) (n : Nat) (b : List Bool) : Nat → St → (St → Option R) → Kont R → Option R := evPre E (G g) k H n (nodeAt (bodyOf Tryz.f46) b)
noncomputable abbrev W (g : Cs R) (k : Nat) (b : List Bool) (p : Nat) : St → Kont R → Option R := ev E (G g) k H (nodeAt (bodyOf Tryz.f46) b) p
variable (g : Cs R) (k : Nat)
def s1 (g : Cs R) (k : Nat) (a0 : L3) (j : (L3) → Option R) : Option R :=
 cond (decide (0 ≤ (a0.length : Int)) && decide ((a0.length : Int) = (a0.length : Int)) && Nat.ble ((a0.length : Int).toNat) lim) (let y1 := (List.replicate ((a0.length : Int).toNat) n3); j y1) none
theorem s1_ev (a0 : L3) (X : St → Option R) (K : Kont R) : U g k 2 [] 1 (S1 a0) X K = s1 g k a0 (fun z0 => X (S2 a0 z0)) := by kernel_rfl
def s2 (g : Cs R) (k : Nat) (a0 z0 : L3) (j : Int → Option R) : Option R :=
 j 0
theorem s2_ev (a0 z0 : L3) (X : St → Option R) (K : Kont R) : U g k 1 [true, true, false] 14 (S2 a0 z0) X K = s2 g k a0 z0 (fun z1 => X (S3 z1 a0 z0)) := by kernel_rfl
def s3 (g : Cs R) (k : Nat) (z2 : Int) (a0 z3 : L3) (j : Int → (L3) → Option R) (x0 : Option R) : Option R :=
 cond (decide (z2 < (a0.length : Int))) (cond (decide (0 ≤ z2) && decide (z2 < (a0.length : Int))) (g.f87 ((a0.getD z2.toNat n3).1) ((a0.getD z2.toNat n3).2.1) ((a0.getD z2.toNat n3).2.2) (fun r1 r2 r3 => cond (decide (0 ≤ z2) && decide (z2 < (z3.length : Int))) (j (IntKind.wrap .i64 (z2 + 1)) (z3.set z2.toNat (r1, r2, r3))) none)) none) (x0)
theorem s3_ev (z2 : Int) (a0 z3 : L3) (K : Kont R) : V g k K [true, true, false, true, false, false] 116 (S3 z2 a0 z3) = s3 g k z2 a0 z3 (fun z4 z5 => K .normal (S3 z4 a0 z5)) (K (.exit 0) (S4 z3)) := by kernel_rfl
def l4r (g : Cs R) (k : Nat) (a0 : L3) (x0 : (L3) → Option R) : Nat → Int → (L3) → Option R
 | 0, _, _ => none
 | n + 1, z2, z3 => s3 g k z2 a0 z3 (fun z4 z5 => l4r g k a0 x0 n z4 z5) (x0 z3)
def l4 (g : Cs R) (k : Nat) (z1 : Int) (a0 z0 : L3) (x0 : (L3) → Option R) : Option R := l4r g k a0 x0 k z1 z0
theorem l4r_ev (a0 : L3) (K : Kont R) : ∀ (n : Nat) (z2 : Int) (z3 : L3), evLoop (W g k [true, true, false, true, false, false] 116) (atMeet H 58) K n (S3 z2 a0 z3) = l4r g k a0 (fun z6 => K (.exit 0) (S4 z6)) n z2 z3 := by
 intro n
 induction n with
 | zero => intros; rfl
 | succ n ih =>
  intro z2 z3
  exact Eq.trans (by kernel_rfl) ((s3_ev g k z2 a0 z3 (loopK (W g k [true, true, false, true, false, false] 116) (atMeet H 58) K n)).trans (Eq.trans (by kernel_rfl) (congrArg (fun f_ => s3 g k z2 a0 z3 f_ (K (.exit 0) (S4 z3))) (funext fun (z4 : Int) => (funext fun (z5 : L3) => (ih z4 z5))))))
theorem l4_ev (z1 : Int) (a0 z0 : L3) (K : Kont R) : V g k K [true, true, false, true, false] 58 (S3 z1 a0 z0) = l4 g k z1 a0 z0 (fun z6 => K (.exit 0) (S4 z6)) :=
 Eq.trans (by kernel_rfl) (l4r_ev g k a0 K k z1 z0)
def b5 (g : Cs R) (k : Nat) (z1 : Int) (a0 z0 : L3) (j : (L3) → Option R) : Option R :=
 l4 g k z1 a0 z0 (fun z6 => j z6)
theorem b5_ev (z1 : Int) (a0 z0 : L3) (K : Kont R) : V g k K [true, true, false, true] 29 (S3 z1 a0 z0) = b5 g k z1 a0 z0 (fun z7 => K .normal (S4 z7)) :=
 Eq.trans (by kernel_rfl) ((l4_ev g k z1 a0 z0 (blockK 0 (fun st => K .normal (atMeet H 29 st)) K)).trans (by kernel_rfl))
def c6 (g : Cs R) (k : Nat) (a0 z0 : L3) (j : (L3) → Option R) : Option R :=
 s2 g k a0 z0 (fun z1 => b5 g k z1 a0 z0 (fun z7 => j z7))
theorem c6_ev (a0 z0 : L3) (K : Kont R) : V g k K [true, true, false] 14 (S2 a0 z0) = c6 g k a0 z0 (fun z8 => K .normal (S4 z8)) :=
 (Eq.trans (by kernel_rfl) (s2_ev g k a0 z0 (V g k K [true, true, false, true] 29) K)).trans (congrArg (fun f_ => s2 g k a0 z0 f_) (funext fun (z1 : Int) => (b5_ev g k z1 a0 z0 K)))
def s7 (g : Cs R) (k : Nat) (z8 : L3) (q : Option R) : Option R :=
 q
theorem s7_ev (z8 : L3) (K : Kont R) : V g k K [true, true, true] 15 (S4 z8) = s7 g k z8 (K .ret (S5 z8)) := by kernel_rfl
def c8 (g : Cs R) (k : Nat) (a0 z0 : L3) (q : (L3) → Option R) : Option R :=
 c6 g k a0 z0 (fun z8 => s7 g k z8 (q z8))
theorem c8_ev (a0 z0 : L3) (K : Kont R) : V g k K [true, true] 7 (S2 a0 z0) = c8 g k a0 z0 (fun z9 => K .ret (S5 z9)) :=
 (Eq.trans (by kernel_rfl) (c6_ev g k a0 z0 (seqK (V g k K [true, true, true] 15) K))).trans (congrArg (fun f_ => c6 g k a0 z0 f_) (funext fun (z8 : L3) => (seqN (f := (V g k K [true, true, true] 15)) (K := K) (s7_ev g k z8 K))))
def c9 (g : Cs R) (k : Nat) (a0 : L3) (q : (L3) → Option R) : Option R :=
 s1 g k a0 (fun z0 => c8 g k a0 z0 (fun z9 => q z9))
theorem c9_ev (a0 : L3) (K : Kont R) : V g k K [] 1 (S1 a0) = c9 g k a0 (fun z10 => K .ret (S5 z10)) :=
 (Eq.trans (by kernel_rfl) (s1_ev g k a0 (V g k K [true, true] 7) K)).trans (congrArg (fun f_ => s1 g k a0 f_) (funext fun (z0 : L3) => (c8_ev g k a0 z0 K)))
def b (g : Cs R) (k : Nat) (a0 : L3) (K : (L3) → Option R) : Option R :=
 c9 g k a0 (fun z10 => K z10)
theorem evs (a0 : L3) (KF : Ret → Option R) : evFunc E (G g) k H [] false Tryz.f46 [.val false [.row .ro q3 a0]] KF = b g k a0 (fun r1 => KF ⟨[.val false [.row .own q3 r1]], []⟩) :=
 Eq.trans (by kernel_rfl) ((c9_ev g k a0 (fin E.P false Tryz.f46 [] KF)).trans (by kernel_rfl))
end laws_toMarkS
namespace laws_toMarkS
def g (k : Nat) : Cs R := ⟨(), laws_toMark.c k⟩
def c (k : Nat) : T R := b (g k) k
end laws_toMarkS
/-! ### laws_toKeep: function 22 -/
namespace laws_toKeep
abbrev T (R : Type) : Type := Int → Int → Int → (L5) → (L3) → (L5) → (Int → Int → Int → (L5) → (L3) → (L5) → Option R) → Option R
def con (f : T R) : Con R := ⟨[], fun args K => match args with
 | [.val true [.s (.int .i64 A), .s (.int .i64 B), .s (.int .i64 C), D, F, J]] => withRow q5 D fun M => withRow q3 F fun N => withRow q5 J fun O => f A B C M N O (fun r1 r2 r3 r4 r5 r6 => K ⟨[.val true [ri r1, ri r2, ri r3, .row .own q5 r4, .row .own q3 r5, .row .own q5 r6]], []⟩)
 | _ => none⟩
structure Cs (R : Type) where
  none_ : Unit := ()
  f45 : laws_toNoteS.T R
  f46 : laws_toMarkS.T R
def G (g : Cs R) : Cons R := [(45, laws_toNoteS.con g.f45), (46, laws_toMarkS.con g.f46)]
def H : List (Nat × Meet) := []
variable (g : Cs R) (k : Nat)
def b (g : Cs R) (k : Nat) (A B C : Int) (D : L5) (F : L3) (J : L5) (K : Int → Int → Int → (L5) → (L3) → (L5) → Option R) : Option R :=
 g.f45 D (fun r1 => g.f46 F (fun r2 => g.f45 J (fun r3 => K A B C r1 r2 r3)))
theorem evs (A B C : Int) (D : L5) (F : L3) (J : L5) (KF : Ret → Option R) : evFunc E (G g) k H [] false Tryz.f22 [.val true [ri A, ri B, ri C, .row .ro q5 D, .row .ro q3 F, .row .ro q5 J]] KF = b g k A B C D F J (fun r1 r2 r3 r4 r5 r6 => KF ⟨[.val true [ri r1, ri r2, ri r3, .row .own q5 r4, .row .own q3 r5, .row .own q5 r6]], []⟩) :=
 by kernel_rfl
end laws_toKeep
namespace laws_toKeep
def g (k : Nat) : Cs R := ⟨(), laws_toNoteS.c k, laws_toMarkS.c k⟩
def c (k : Nat) : T R := b (g k) k
end laws_toKeep
/-! ### laws_FnExactKeepDo: function 5 -/
namespace laws_FnExactKeepDo
abbrev T (R : Type) : Type := Int → Int → Int → (L5) → (L3) → (L5) → ByteArray → (Bool → Option R) → Option R
def con (f : T R) : Con R := ⟨[], fun args K => match args with
 | [.val true [.s (.int .i64 A), .s (.int .i64 B), .s (.int .i64 C), D, F, J], .val false [.s (.string a1)]] => withRow q5 D fun M => withRow q3 F fun N => withRow q5 J fun O => f A B C M N O a1 (fun r1 => K ⟨[.val false [.s (.bool r1)]], []⟩)
 | _ => none⟩
structure Cs (R : Type) where
  none_ : Unit := ()
  f20 : laws_szKeep.T R
  f22 : laws_toKeep.T R
  f21 : spec_KeepDo.T R
  f10 : impl_KeepDo.T R
  f15 : laws_eqKeep.T R
  f18 : laws_markKeep.T R
  f19 : laws_heldKeep.T R
def G (g : Cs R) : Cons R := [(20, laws_szKeep.con g.f20), (22, laws_toKeep.con g.f22), (21, spec_KeepDo.con g.f21), (10, impl_KeepDo.con g.f10), (15, laws_eqKeep.con g.f15), (18, laws_markKeep.con g.f18), (19, laws_heldKeep.con g.f19)]
def H : List (Nat × Meet) := []
variable (g : Cs R) (k : Nat)
def b (g : Cs R) (k : Nat) (A B C : Int) (D : L5) (F : L3) (J : L5) (a1 : ByteArray) (K : Bool → Option R) : Option R :=
 cond (decide ((1048576 : Int) < (a1.size : Int))) (K true) (g.f20 A B C D F J 1048576 (fun r1 => cond (decide (r1 < 0)) (K true) (g.f22 A B C D F J (fun r2 r3 r4 r5 r6 r7 => g.f21 r2 r3 r4 r5 r6 r7 a1 (fun r8 r9 r10 r11 r12 r13 r14 => g.f22 A B C D F J (fun r15 r16 r17 r18 r19 r20 => g.f10 r15 r16 r17 r18 r19 r20 a1 (fun r21 r22 r23 r24 r25 r26 r27 => g.f15 r21 r22 r23 r24 r25 r26 r8 r9 r10 r11 r12 r13 (fun r28 => cond (!r28) (K false) (cond (!(r27 == r14)) (K false) (g.f22 A B C D F J (fun r29 r30 r31 r32 r33 r34 => g.f15 r15 r16 r17 r18 r19 r20 r29 r30 r31 r32 r33 r34 (fun r35 => cond (!r35) (K false) (g.f18 r15 r16 r17 r18 r19 r20 1 (fun r36 r37 r38 r39 => cond (decide (r36 < 0)) (K false) (g.f15 r21 r22 r23 r24 r25 r26 r8 r9 r10 r11 r12 r13 (fun r40 => cond (!r40) (K false) (cond (!(r27 == r14)) (K false) (g.f18 r21 r22 r23 r24 r25 r26 1 (fun r41 r42 r43 r44 => g.f19 r21 r22 r23 r42 r43 r44 1 (fun r45 => cond (decide (r45 < 0)) (K false) (cond (!decide (r45 = r41)) (K false) (g.f22 A B C D F J (fun r46 r47 r48 r49 r50 r51 => g.f10 r46 r47 r48 r49 r50 r51 a1 (fun r52 r53 r54 r55 r56 r57 r58 => g.f15 r52 r53 r54 r55 r56 r57 r8 r9 r10 r11 r12 r13 (fun r59 => cond (!r59) (K false) (cond (!(r58 == r14)) (K false) (g.f19 r21 r22 r23 r42 r43 r44 1 (fun r60 => cond (decide (r60 < 0)) (K false) (cond (!decide (r60 = r41)) (K false) (K true))))))))))))))))))))))))))))))
theorem evs (A B C : Int) (D : L5) (F : L3) (J : L5) (a1 : ByteArray) (KF : Ret → Option R) : evFunc E (G g) k H [] false Tryz.f5 [.val true [ri A, ri B, ri C, .row .ro q5 D, .row .ro q3 F, .row .ro q5 J], .val false [.s (.string a1)]] KF = b g k A B C D F J a1 (fun r1 => KF ⟨[.val false [.s (.bool r1)]], []⟩) :=
 by kernel_rfl
end laws_FnExactKeepDo
namespace laws_FnExactKeepDo
def g (k : Nat) : Cs R := ⟨(), laws_szKeep.c k, laws_toKeep.c k, spec_KeepDo.c k, impl_KeepDo.c k, laws_eqKeep.c k, laws_markKeep.c k, laws_heldKeep.c k⟩
def c (k : Nat) : T R := b (g k) k
end laws_FnExactKeepDo
end Go.Ev.F
