/- The Go functions as plain functions, and that the evaluator comes to them. No condition. Written by a program of this session. -/
import Derived.Test.YtmeeloeielallaaGreatDoorProg
import Derived.Test.YtmeeloeielallaaGreatDoorEv
import Derived.KernelRfl
import Derived.Lib.CutLaws
import Derived.Lib.ItoaNum
import Derived.Lib.Split
import Derived.Lib.SplitLaws
namespace Go.Ev.F
open Go.Proofs
set_option linter.unusedVariables false
set_option maxRecDepth 100000
variable {R : Type}
noncomputable def E : Env := ⟨Tryz.prog, [68, 75]⟩
theorem seqN {R : Type} {f : St → Option R} {K : Kont R} {st : St} {r : Option R} (h : f st = r) : seqK f K .normal st = r := h
abbrev q5 : List Sc := [.int .i64, .int .i64, .int .i64, .int .i64, .str]
abbrev q3 : List Sc := [.int .i64, .int .i64, .int .i64]
abbrev L5 := List (Int × Int × Int × Int × ByteArray)
abbrev L3 := List (Int × Int × Int)
abbrev si (x : Int) : Cell := .s (.int .i64 x)
abbrev ri (x : Int) : PC := .s (.int .i64 x)
abbrev n5 : Int × Int × Int × Int × ByteArray := (0, 0, 0, 0, ByteArray.empty)
abbrev n3 : Int × Int × Int := (0, 0, 0)
/-! ### spec_l6In: function 52 -/
namespace spec_l6In
abbrev T (R : Type) : Type := Int → Int → Int → (Bool → Option R) → Option R
def con (f : T R) : Con R := ⟨[], fun args K => match args with
 | [.val false [.s (.int .i64 a0)], .val false [.s (.int .i64 a1)], .val false [.s (.int .i64 a2)]] => f a0 a1 a2 (fun r1 => K ⟨[.val false [.s (.bool r1)]], []⟩)
 | _ => none⟩
structure Cs (R : Type) where
  none_ : Unit := ()
def G (g : Cs R) : Cons R := []
def H : List (Nat × Meet) := []
variable (g : Cs R) (k : Nat)
def b (g : Cs R) (k : Nat) (a0 a1 a2 : Int) (K : Bool → Option R) : Option R :=
 cond (decide (a1 ≤ a0)) (K (decide (a0 ≤ a2))) (K false)
theorem evs (a0 a1 a2 : Int) (KF : Ret → Option R) : evFunc E (G g) k H [] false Tryz.f52 [.val false [ri a0], .val false [ri a1], .val false [ri a2]] KF = b g k a0 a1 a2 (fun r1 => KF ⟨[.val false [.s (.bool r1)]], []⟩) :=
 by kernel_rfl
end spec_l6In
namespace spec_l6In
def g (k : Nat) : Cs R := ⟨()⟩
def c (k : Nat) : T R := b (g k) k
end spec_l6In
/-! ### spec_l3Keeper: function 26 -/
namespace spec_l3Keeper
abbrev T (R : Type) : Type := Int → (Bool → Option R) → Option R
def con (f : T R) : Con R := ⟨[], fun args K => match args with
 | [.val false [.s (.int .i64 a0)]] => f a0 (fun r1 => K ⟨[.val false [.s (.bool r1)]], []⟩)
 | _ => none⟩
structure Cs (R : Type) where
  none_ : Unit := ()
  f52 : spec_l6In.T R
def G (g : Cs R) : Cons R := [(52, spec_l6In.con g.f52)]
def H : List (Nat × Meet) := []
variable (g : Cs R) (k : Nat)
def b (g : Cs R) (k : Nat) (a0 : Int) (K : Bool → Option R) : Option R :=
 g.f52 a0 0 3 (fun r1 => K r1)
theorem evs (a0 : Int) (KF : Ret → Option R) : evFunc E (G g) k H [] false Tryz.f26 [.val false [ri a0]] KF = b g k a0 (fun r1 => KF ⟨[.val false [.s (.bool r1)]], []⟩) :=
 by kernel_rfl
end spec_l3Keeper
namespace spec_l3Keeper
def g (k : Nat) : Cs R := ⟨(), spec_l6In.c k⟩
def c (k : Nat) : T R := b (g k) k
end spec_l3Keeper
/-! ### spec_KeepStart: function 12 -/
namespace spec_KeepStart
abbrev T (R : Type) : Type := Int → (Int → Int → Int → (L5) → (L3) → (L5) → Option R) → Option R
def con (f : T R) : Con R := ⟨[], fun args K => match args with
 | [.val false [.s (.int .i64 a0)]] => f a0 (fun r1 r2 r3 r4 r5 r6 => K ⟨[.val true [ri r1, ri r2, ri r3, .row .own q5 r4, .row .own q3 r5, .row .own q5 r6]], []⟩)
 | _ => none⟩
structure Cs (R : Type) where
  none_ : Unit := ()
  f26 : spec_l3Keeper.T R
def G (g : Cs R) : Cons R := [(26, spec_l3Keeper.con g.f26)]
def H : List (Nat × Meet) := []
variable (g : Cs R) (k : Nat)
def b (g : Cs R) (k : Nat) (a0 : Int) (K : Int → Int → Int → (L5) → (L3) → (L5) → Option R) : Option R :=
 g.f26 a0 (fun r1 => cond (!r1) (K 0 0 0 [] [] []) (K a0 0 1 [] [] []))
theorem evs (a0 : Int) (KF : Ret → Option R) : evFunc E (G g) k H [] false Tryz.f12 [.val false [ri a0]] KF = b g k a0 (fun r1 r2 r3 r4 r5 r6 => KF ⟨[.val true [ri r1, ri r2, ri r3, .row .own q5 r4, .row .own q3 r5, .row .own q5 r6]], []⟩) :=
 by kernel_rfl
end spec_KeepStart
namespace spec_KeepStart
def g (k : Nat) : Cs R := ⟨(), spec_l3Keeper.c k⟩
def c (k : Nat) : T R := b (g k) k
end spec_KeepStart
/-! ### spec_NoteOk: function 90 -/
namespace spec_NoteOk
abbrev T (R : Type) : Type := Int → Int → Int → Int → ByteArray → (Bool → Option R) → Option R
def con (f : T R) : Con R := ⟨[], fun args K => match args with
 | [.val true [.s (.int .i64 A), .s (.int .i64 B), .s (.int .i64 C), .s (.int .i64 D), .s (.string F)]] => f A B C D F (fun r1 => K ⟨[.val false [.s (.bool r1)]], []⟩)
 | _ => none⟩
structure Cs (R : Type) where
  none_ : Unit := ()
  f26 : spec_l3Keeper.T R
  f52 : spec_l6In.T R
def G (g : Cs R) : Cons R := [(26, spec_l3Keeper.con g.f26), (52, spec_l6In.con g.f52)]
def H : List (Nat × Meet) := [(13, ⟨[(1, [])], []⟩), (28, ⟨[(1, []), (3, [])], []⟩), (31, ⟨[(2, [])], []⟩), (53, ⟨[(2, [])], []⟩), (58, ⟨[(1, []), (3, [])], []⟩), (467, ⟨[(1, []), (3, [])], []⟩), (931, ⟨[], []⟩), (7461, ⟨[(2, [])], []⟩)]
abbrev S1 (x1 x2 x3 x4 : Int) (x5 : ByteArray) : St := mkSt [(1, .c (.ptr 9001 0 0))] [(9001, .box [si x1, si x2, si x3, si x4, .s (.string x5)])]
abbrev S2 (x1 : Bool) : St := mkSt [(2, .c (.s (.bool x1)))] []
abbrev S3 (x1 x2 x3 x4 x5 : Int) (x6 : ByteArray) : St := mkSt [(1, .c (.ptr 9001 0 0)), (3, .c (si x1))] [(9001, .box [si x2, si x3, si x4, si x5, .s (.string x6)])]
abbrev S4 : St := mkSt [] []
noncomputable abbrev V (g : Cs R) (k : Nat) (K : Kont R) (b : List Bool) (p : Nat) (st : St) : Option R := ev E (G g) k H (nodeAt (bodyOf Tryz.f90) b) p st K
noncomputable abbrev U (g : Cs R) (k : Nat) (n : Nat) (b : List Bool) : Nat → St → (St → Option R) → Kont R → Option R := evPre E (G g) k H n (nodeAt (bodyOf Tryz.f90) b)
noncomputable abbrev W (g : Cs R) (k : Nat) (b : List Bool) (p : Nat) : St → Kont R → Option R := ev E (G g) k H (nodeAt (bodyOf Tryz.f90) b) p
variable (g : Cs R) (k : Nat)
def s1 (g : Cs R) (k : Nat) (B C D F : Int) (A : ByteArray) (j : Option R) (q : Bool → Option R) : Option R :=
 g.f26 B (fun r1 => cond (!r1) (q false) (g.f26 D (fun r2 => cond (!r2) (q false) (g.f52 C 1 99 (fun r3 => cond (!r3) (q false) (g.f52 F 1 999 (fun r4 => cond (!r4) (q false) (cond (decide ((A.size : Int) < 1)) (q false) (cond (decide ((24 : Int) < (A.size : Int))) (q false) (j))))))))))
theorem s1_ev (A B C D : Int) (F : ByteArray) (X : St → Option R) (K : Kont R) : U g k 2 [] 1 (mkSt [(0, .agg [si A, si B, si C, si D, .s (.string F)])] []) X K = s1 g k A B C D F (X (S1 A B C D F)) (fun z0 => K .ret (S2 z0)) := by kernel_rfl
def s2 (g : Cs R) (k : Nat) (A B C D : Int) (F : ByteArray) (j : Int → Option R) : Option R :=
 j 0
theorem s2_ev (A B C D : Int) (F : ByteArray) (X : St → Option R) (K : Kont R) : U g k 1 [true, true, false] 14 (S1 A B C D F) X K = s2 g k A B C D F (fun z1 => X (S3 z1 A B C D F)) := by kernel_rfl
def s3 (g : Cs R) (k : Nat) (z2 B C D F : Int) (A : ByteArray) (j : Int → Option R) (x0 : Option R) (q : Bool → Option R) : Option R :=
 cond (decide (z2 < (A.size : Int))) (cond (decide (0 ≤ z2) && decide (z2 < (A.size : Int))) (cond (decide ((byteAt A z2.toNat) < 32)) (q false) (cond (decide (0 ≤ z2) && decide (z2 < (A.size : Int))) (let y1 := (decide ((126 : Int) < (byteAt A z2.toNat))); cond y1 (q false) (j (IntKind.wrap .i64 (z2 + 1)))) none)) none) (x0)
theorem s3_ev (z2 A B C D : Int) (F : ByteArray) (K : Kont R) : V g k K [true, true, false, true, false, false] 116 (S3 z2 A B C D F) = s3 g k z2 A B C D F (fun z3 => K .normal (S3 z3 A B C D F)) (K (.exit 0) S4) (fun z4 => K .ret (S2 z4)) := by kernel_rfl
def l4r (g : Cs R) (k : Nat) (A B C D : Int) (F : ByteArray) (x0 : Option R) (q : Bool → Option R) : Nat → Int → Option R
 | 0, _ => none
 | n + 1, z2 => s3 g k z2 A B C D F (fun z3 => l4r g k A B C D F x0 q n z3) (x0) (fun z4 => q z4)
def l4 (g : Cs R) (k : Nat) (z1 A B C D : Int) (F : ByteArray) (x0 : Option R) (q : Bool → Option R) : Option R := l4r g k A B C D F x0 q k z1
theorem l4r_ev (A B C D : Int) (F : ByteArray) (K : Kont R) : ∀ (n : Nat) (z2 : Int), evLoop (W g k [true, true, false, true, false, false] 116) (atMeet H 58) K n (S3 z2 A B C D F) = l4r g k A B C D F (K (.exit 0) S4) (fun z5 => K .ret (S2 z5)) n z2 := by
 intro n
 induction n with
 | zero => intros; rfl
 | succ n ih =>
  intro z2
  exact Eq.trans (by kernel_rfl) ((s3_ev g k z2 A B C D F (loopK (W g k [true, true, false, true, false, false] 116) (atMeet H 58) K n)).trans (Eq.trans (by kernel_rfl) (congrArg (fun f_ => s3 g k z2 A B C D F f_ (K (.exit 0) S4) (fun z4 => K .ret (S2 z4))) (funext fun (z3 : Int) => (ih z3)))))
theorem l4_ev (z1 A B C D : Int) (F : ByteArray) (K : Kont R) : V g k K [true, true, false, true, false] 58 (S3 z1 A B C D F) = l4 g k z1 A B C D F (K (.exit 0) S4) (fun z5 => K .ret (S2 z5)) :=
 Eq.trans (by kernel_rfl) (l4r_ev g k A B C D F K k z1)
def b5 (g : Cs R) (k : Nat) (z1 A B C D : Int) (F : ByteArray) (j : Option R) (q : Bool → Option R) : Option R :=
 l4 g k z1 A B C D F (j) (fun z5 => q z5)
theorem b5_ev (z1 A B C D : Int) (F : ByteArray) (K : Kont R) : V g k K [true, true, false, true] 29 (S3 z1 A B C D F) = b5 g k z1 A B C D F (K .normal S4) (fun z6 => K .ret (S2 z6)) :=
 Eq.trans (by kernel_rfl) ((l4_ev g k z1 A B C D F (blockK 0 (fun st => K .normal (atMeet H 29 st)) K)).trans (by kernel_rfl))
def c6 (g : Cs R) (k : Nat) (A B C D : Int) (F : ByteArray) (j : Option R) (q : Bool → Option R) : Option R :=
 s2 g k A B C D F (fun z1 => b5 g k z1 A B C D F (j) (fun z6 => q z6))
theorem c6_ev (A B C D : Int) (F : ByteArray) (K : Kont R) : V g k K [true, true, false] 14 (S1 A B C D F) = c6 g k A B C D F (K .normal S4) (fun z7 => K .ret (S2 z7)) :=
 (Eq.trans (by kernel_rfl) (s2_ev g k A B C D F (V g k K [true, true, false, true] 29) K)).trans (congrArg (fun f_ => s2 g k A B C D F f_) (funext fun (z1 : Int) => (b5_ev g k z1 A B C D F K)))
def s7 (g : Cs R) (k : Nat)  (q : Bool → Option R) : Option R :=
 q true
theorem s7_ev  (K : Kont R) : V g k K [true, true, true] 15 S4 = s7 g k (fun z8 => K .ret (S2 z8)) := by kernel_rfl
def c8 (g : Cs R) (k : Nat) (A B C D : Int) (F : ByteArray) (q : Bool → Option R) : Option R :=
 c6 g k A B C D F (s7 g k (fun z8 => q z8)) (fun z7 => q z7)
theorem c8_ev (A B C D : Int) (F : ByteArray) (K : Kont R) : V g k K [true, true] 7 (S1 A B C D F) = c8 g k A B C D F (fun z9 => K .ret (S2 z9)) :=
 (Eq.trans (by kernel_rfl) (c6_ev g k A B C D F (seqK (V g k K [true, true, true] 15) K))).trans (congrArg (fun f_ => c6 g k A B C D F f_ (fun z7 => K .ret (S2 z7))) (seqN (f := (V g k K [true, true, true] 15)) (K := K) (s7_ev g k K)))
def c9 (g : Cs R) (k : Nat) (A B C D : Int) (F : ByteArray) (q : Bool → Option R) : Option R :=
 s1 g k A B C D F (c8 g k A B C D F (fun z9 => q z9)) (fun z0 => q z0)
theorem c9_ev (A B C D : Int) (F : ByteArray) (K : Kont R) : V g k K [] 1 (mkSt [(0, .agg [si A, si B, si C, si D, .s (.string F)])] []) = c9 g k A B C D F (fun z10 => K .ret (S2 z10)) :=
 (Eq.trans (by kernel_rfl) (s1_ev g k A B C D F (V g k K [true, true] 7) K)).trans (congrArg (fun f_ => s1 g k A B C D F f_ (fun z0 => K .ret (S2 z0))) (c8_ev g k A B C D F K))
def b (g : Cs R) (k : Nat) (A B C D : Int) (F : ByteArray) (K : Bool → Option R) : Option R :=
 c9 g k A B C D F (fun z10 => K z10)
theorem evs (A B C D : Int) (F : ByteArray) (KF : Ret → Option R) : evFunc E (G g) k H [] false Tryz.f90 [.val true [ri A, ri B, ri C, ri D, .s (.string F)]] KF = b g k A B C D F (fun r1 => KF ⟨[.val false [.s (.bool r1)]], []⟩) :=
 Eq.trans (by kernel_rfl) ((c9_ev g k A B C D F (fin E.P false Tryz.f90 [] KF)).trans (by kernel_rfl))
end spec_NoteOk
namespace spec_NoteOk
def g (k : Nat) : Cs R := ⟨(), spec_l3Keeper.c k, spec_l6In.c k⟩
def c (k : Nat) : T R := b (g k) k
end spec_NoteOk
/-! ### spec_l12Less: function 105 -/
namespace spec_l12Less
abbrev T (R : Type) : Type := Int → Int → Int → Int → (Bool → Option R) → Option R
def con (f : T R) : Con R := ⟨[], fun args K => match args with
 | [.val false [.s (.int .i64 a0)], .val false [.s (.int .i64 a1)], .val false [.s (.int .i64 a2)], .val false [.s (.int .i64 a3)]] => f a0 a1 a2 a3 (fun r1 => K ⟨[.val false [.s (.bool r1)]], []⟩)
 | _ => none⟩
structure Cs (R : Type) where
  none_ : Unit := ()
def G (g : Cs R) : Cons R := []
def H : List (Nat × Meet) := []
variable (g : Cs R) (k : Nat)
def b (g : Cs R) (k : Nat) (a0 a1 a2 a3 : Int) (K : Bool → Option R) : Option R :=
 cond (decide (a0 < a2)) (K true) (cond (decide (a0 = a2)) (K (decide (a1 < a3))) (K false))
theorem evs (a0 a1 a2 a3 : Int) (KF : Ret → Option R) : evFunc E (G g) k H [] false Tryz.f105 [.val false [ri a0], .val false [ri a1], .val false [ri a2], .val false [ri a3]] KF = b g k a0 a1 a2 a3 (fun r1 => KF ⟨[.val false [.s (.bool r1)]], []⟩) :=
 by kernel_rfl
end spec_l12Less
namespace spec_l12Less
def g (k : Nat) : Cs R := ⟨()⟩
def c (k : Nat) : T R := b (g k) k
end spec_l12Less
/-! ### spec_l12Notes: function 71 -/
namespace spec_l12Notes
abbrev T (R : Type) : Type := (L5) → Int → (Bool → Option R) → Option R
def con (f : T R) : Con R := ⟨[], fun args K => match args with
 | [.val false [pa0], .val false [.s (.int .i64 a1)]] => withRow q5 pa0 fun a0 => f a0 a1 (fun r1 => K ⟨[.val false [.s (.bool r1)]], []⟩)
 | _ => none⟩
structure Cs (R : Type) where
  none_ : Unit := ()
  f90 : spec_NoteOk.T R
  f105 : spec_l12Less.T R
def G (g : Cs R) : Cons R := [(90, spec_NoteOk.con g.f90), (105, spec_l12Less.con g.f105)]
def H : List (Nat × Meet) := [(13, ⟨[(0, [(0, q5)])], []⟩), (28, ⟨[(0, [(0, q5)]), (5, [])], []⟩), (31, ⟨[(4, [])], []⟩), (53, ⟨[(4, [])], []⟩), (58, ⟨[(0, [(0, q5)]), (5, [])], []⟩), (467, ⟨[(0, [(0, q5)]), (5, [])], []⟩), (931, ⟨[], []⟩), (7461, ⟨[(4, [])], []⟩)]
abbrev S1 (x1 : Int) (x2 : L5) : St := mkSt [(0, .c (.sl 0)), (1, .c (si x1))] [(0, .row .ro q5 x2)]
abbrev S2 (x1 : L5) : St := mkSt [(0, .c (.sl 0))] [(0, .row .ro q5 x1)]
abbrev S3 (x1 : Bool) : St := mkSt [(4, .c (.s (.bool x1)))] []
abbrev S4 (x1 : Int) (x2 : L5) : St := mkSt [(0, .c (.sl 0)), (5, .c (si x1))] [(0, .row .ro q5 x2)]
abbrev S5 : St := mkSt [] []
noncomputable abbrev V (g : Cs R) (k : Nat) (K : Kont R) (b : List Bool) (p : Nat) (st : St) : Option R := ev E (G g) k H (nodeAt (bodyOf Tryz.f71) b) p st K
noncomputable abbrev U (g : Cs R) (k : Nat) (n : Nat) (b : List Bool) : Nat → St → (St → Option R) → Kont R → Option R := evPre E (G g) k H n (nodeAt (bodyOf Tryz.f71) b)
noncomputable abbrev W (g : Cs R) (k : Nat) (b : List Bool) (p : Nat) : St → Kont R → Option R := ev E (G g) k H (nodeAt (bodyOf Tryz.f71) b) p
variable (g : Cs R) (k : Nat)
def s1 (g : Cs R) (k : Nat) (a1 : Int) (a0 : L5) (j : Option R) (q : Bool → Option R) : Option R :=
 cond (decide (a1 < (a0.length : Int))) (q false) (j)
theorem s1_ev (a1 : Int) (a0 : L5) (X : St → Option R) (K : Kont R) : U g k 2 [] 1 (S1 a1 a0) X K = s1 g k a1 a0 (X (S2 a0)) (fun z0 => K .ret (S3 z0)) := by kernel_rfl
def s2 (g : Cs R) (k : Nat) (a0 : L5) (j : Int → Option R) : Option R :=
 j 0
theorem s2_ev (a0 : L5) (X : St → Option R) (K : Kont R) : U g k 1 [true, true, false] 14 (S2 a0) X K = s2 g k a0 (fun z1 => X (S4 z1 a0)) := by kernel_rfl
def s3 (g : Cs R) (k : Nat) (z2 : Int) (a0 : L5) (j : Int → Option R) (x0 : Option R) (q : Bool → Option R) : Option R :=
 cond (decide (z2 < (a0.length : Int))) (cond (decide (0 ≤ z2) && decide (z2 < (a0.length : Int))) (g.f90 ((a0.getD z2.toNat n5).1) ((a0.getD z2.toNat n5).2.1) ((a0.getD z2.toNat n5).2.2.1) ((a0.getD z2.toNat n5).2.2.2.1) ((a0.getD z2.toNat n5).2.2.2.2) (fun r1 => cond (!r1) (q false) (cond (decide ((0 : Int) < z2)) (cond (decide (0 ≤ (IntKind.wrap .i64 (z2 - 1))) && decide ((IntKind.wrap .i64 (z2 - 1)) < (a0.length : Int))) (let y2 := (a0.getD ((IntKind.wrap .i64 (z2 - 1)).toNat) n5).1; cond (decide (0 ≤ (IntKind.wrap .i64 (z2 - 1))) && decide ((IntKind.wrap .i64 (z2 - 1)) < (a0.length : Int))) (let y3 := (a0.getD ((IntKind.wrap .i64 (z2 - 1)).toNat) n5).2.1; cond (decide (0 ≤ z2) && decide (z2 < (a0.length : Int))) (let y4 := (a0.getD z2.toNat n5).1; cond (decide (0 ≤ z2) && decide (z2 < (a0.length : Int))) (let y5 := (a0.getD z2.toNat n5).2.1; g.f105 y2 y3 y4 y5 (fun r6 => cond (!r6) (q false) (j (IntKind.wrap .i64 (z2 + 1))))) none) none) none) none) (j (IntKind.wrap .i64 (z2 + 1)))))) none) (x0)
theorem s3_ev (z2 : Int) (a0 : L5) (K : Kont R) : V g k K [true, true, false, true, false, false] 116 (S4 z2 a0) = s3 g k z2 a0 (fun z3 => K .normal (S4 z3 a0)) (K (.exit 0) S5) (fun z4 => K .ret (S3 z4)) := by kernel_rfl
def l4r (g : Cs R) (k : Nat) (a0 : L5) (x0 : Option R) (q : Bool → Option R) : Nat → Int → Option R
 | 0, _ => none
 | n + 1, z2 => s3 g k z2 a0 (fun z3 => l4r g k a0 x0 q n z3) (x0) (fun z4 => q z4)
def l4 (g : Cs R) (k : Nat) (z1 : Int) (a0 : L5) (x0 : Option R) (q : Bool → Option R) : Option R := l4r g k a0 x0 q k z1
theorem l4r_ev (a0 : L5) (K : Kont R) : ∀ (n : Nat) (z2 : Int), evLoop (W g k [true, true, false, true, false, false] 116) (atMeet H 58) K n (S4 z2 a0) = l4r g k a0 (K (.exit 0) S5) (fun z5 => K .ret (S3 z5)) n z2 := by
 intro n
 induction n with
 | zero => intros; rfl
 | succ n ih =>
  intro z2
  exact Eq.trans (by kernel_rfl) ((s3_ev g k z2 a0 (loopK (W g k [true, true, false, true, false, false] 116) (atMeet H 58) K n)).trans (Eq.trans (by kernel_rfl) (congrArg (fun f_ => s3 g k z2 a0 f_ (K (.exit 0) S5) (fun z4 => K .ret (S3 z4))) (funext fun (z3 : Int) => (ih z3)))))
theorem l4_ev (z1 : Int) (a0 : L5) (K : Kont R) : V g k K [true, true, false, true, false] 58 (S4 z1 a0) = l4 g k z1 a0 (K (.exit 0) S5) (fun z5 => K .ret (S3 z5)) :=
 Eq.trans (by kernel_rfl) (l4r_ev g k a0 K k z1)
def b5 (g : Cs R) (k : Nat) (z1 : Int) (a0 : L5) (j : Option R) (q : Bool → Option R) : Option R :=
 l4 g k z1 a0 (j) (fun z5 => q z5)
theorem b5_ev (z1 : Int) (a0 : L5) (K : Kont R) : V g k K [true, true, false, true] 29 (S4 z1 a0) = b5 g k z1 a0 (K .normal S5) (fun z6 => K .ret (S3 z6)) :=
 Eq.trans (by kernel_rfl) ((l4_ev g k z1 a0 (blockK 0 (fun st => K .normal (atMeet H 29 st)) K)).trans (by kernel_rfl))
def c6 (g : Cs R) (k : Nat) (a0 : L5) (j : Option R) (q : Bool → Option R) : Option R :=
 s2 g k a0 (fun z1 => b5 g k z1 a0 (j) (fun z6 => q z6))
theorem c6_ev (a0 : L5) (K : Kont R) : V g k K [true, true, false] 14 (S2 a0) = c6 g k a0 (K .normal S5) (fun z7 => K .ret (S3 z7)) :=
 (Eq.trans (by kernel_rfl) (s2_ev g k a0 (V g k K [true, true, false, true] 29) K)).trans (congrArg (fun f_ => s2 g k a0 f_) (funext fun (z1 : Int) => (b5_ev g k z1 a0 K)))
def s7 (g : Cs R) (k : Nat)  (q : Bool → Option R) : Option R :=
 q true
theorem s7_ev  (K : Kont R) : V g k K [true, true, true] 15 S5 = s7 g k (fun z8 => K .ret (S3 z8)) := by kernel_rfl
def c8 (g : Cs R) (k : Nat) (a0 : L5) (q : Bool → Option R) : Option R :=
 c6 g k a0 (s7 g k (fun z8 => q z8)) (fun z7 => q z7)
theorem c8_ev (a0 : L5) (K : Kont R) : V g k K [true, true] 7 (S2 a0) = c8 g k a0 (fun z9 => K .ret (S3 z9)) :=
 (Eq.trans (by kernel_rfl) (c6_ev g k a0 (seqK (V g k K [true, true, true] 15) K))).trans (congrArg (fun f_ => c6 g k a0 f_ (fun z7 => K .ret (S3 z7))) (seqN (f := (V g k K [true, true, true] 15)) (K := K) (s7_ev g k K)))
def c9 (g : Cs R) (k : Nat) (a1 : Int) (a0 : L5) (q : Bool → Option R) : Option R :=
 s1 g k a1 a0 (c8 g k a0 (fun z9 => q z9)) (fun z0 => q z0)
theorem c9_ev (a1 : Int) (a0 : L5) (K : Kont R) : V g k K [] 1 (S1 a1 a0) = c9 g k a1 a0 (fun z10 => K .ret (S3 z10)) :=
 (Eq.trans (by kernel_rfl) (s1_ev g k a1 a0 (V g k K [true, true] 7) K)).trans (congrArg (fun f_ => s1 g k a1 a0 f_ (fun z0 => K .ret (S3 z0))) (c8_ev g k a0 K))
def b (g : Cs R) (k : Nat) (a0 : L5) (a1 : Int) (K : Bool → Option R) : Option R :=
 c9 g k a1 a0 (fun z10 => K z10)
theorem evs (a0 : L5) (a1 : Int) (KF : Ret → Option R) : evFunc E (G g) k H [] false Tryz.f71 [.val false [.row .ro q5 a0], .val false [ri a1]] KF = b g k a0 a1 (fun r1 => KF ⟨[.val false [.s (.bool r1)]], []⟩) :=
 Eq.trans (by kernel_rfl) ((c9_ev g k a1 a0 (fin E.P false Tryz.f71 [] KF)).trans (by kernel_rfl))
end spec_l12Notes
namespace spec_l12Notes
def g (k : Nat) : Cs R := ⟨(), spec_NoteOk.c k, spec_l12Less.c k⟩
def c (k : Nat) : T R := b (g k) k
end spec_l12Notes
/-! ### spec_l12Marks: function 72 -/
namespace spec_l12Marks
abbrev T (R : Type) : Type := (L3) → (Bool → Option R) → Option R
def con (f : T R) : Con R := ⟨[], fun args K => match args with
 | [.val false [pa0]] => withRow q3 pa0 fun a0 => f a0 (fun r1 => K ⟨[.val false [.s (.bool r1)]], []⟩)
 | _ => none⟩
structure Cs (R : Type) where
  none_ : Unit := ()
  f26 : spec_l3Keeper.T R
  f52 : spec_l6In.T R
  f105 : spec_l12Less.T R
def G (g : Cs R) : Cons R := [(26, spec_l3Keeper.con g.f26), (52, spec_l6In.con g.f52), (105, spec_l12Less.con g.f105)]
def H : List (Nat × Meet) := [(13, ⟨[(0, [(0, q3)])], []⟩), (28, ⟨[(0, [(0, q3)]), (3, [])], []⟩), (31, ⟨[(2, [])], []⟩), (53, ⟨[(2, [])], []⟩), (58, ⟨[(0, [(0, q3)]), (3, [])], []⟩), (467, ⟨[(0, [(0, q3)]), (3, [])], []⟩), (931, ⟨[], []⟩), (14925, ⟨[(2, [])], []⟩)]
abbrev S1 (x1 : L3) : St := mkSt [(0, .c (.sl 0))] [(0, .row .ro q3 x1)]
abbrev S2 (x1 : Bool) : St := mkSt [(2, .c (.s (.bool x1)))] []
abbrev S3 (x1 : Int) (x2 : L3) : St := mkSt [(0, .c (.sl 0)), (3, .c (si x1))] [(0, .row .ro q3 x2)]
abbrev S4 : St := mkSt [] []
noncomputable abbrev V (g : Cs R) (k : Nat) (K : Kont R) (b : List Bool) (p : Nat) (st : St) : Option R := ev E (G g) k H (nodeAt (bodyOf Tryz.f72) b) p st K
noncomputable abbrev U (g : Cs R) (k : Nat) (n : Nat) (b : List Bool) : Nat → St → (St → Option R) → Kont R → Option R := evPre E (G g) k H n (nodeAt (bodyOf Tryz.f72) b)
noncomputable abbrev W (g : Cs R) (k : Nat) (b : List Bool) (p : Nat) : St → Kont R → Option R := ev E (G g) k H (nodeAt (bodyOf Tryz.f72) b) p
variable (g : Cs R) (k : Nat)
def s1 (g : Cs R) (k : Nat) (a0 : L3) (j : Option R) (q : Bool → Option R) : Option R :=
 cond (decide ((12 : Int) < (a0.length : Int))) (q false) (j)
theorem s1_ev (a0 : L3) (X : St → Option R) (K : Kont R) : U g k 2 [] 1 (S1 a0) X K = s1 g k a0 (X (S1 a0)) (fun z0 => K .ret (S2 z0)) := by kernel_rfl
def s2 (g : Cs R) (k : Nat) (a0 : L3) (j : Int → Option R) : Option R :=
 j 0
theorem s2_ev (a0 : L3) (X : St → Option R) (K : Kont R) : U g k 1 [true, true, false] 14 (S1 a0) X K = s2 g k a0 (fun z1 => X (S3 z1 a0)) := by kernel_rfl
def s3 (g : Cs R) (k : Nat) (z2 : Int) (a0 : L3) (j : Int → Option R) (x0 : Option R) (q : Bool → Option R) : Option R :=
 cond (decide (z2 < (a0.length : Int))) (cond (decide (0 ≤ z2) && decide (z2 < (a0.length : Int))) (let y1 := (a0.getD z2.toNat n3).1; g.f26 y1 (fun r2 => cond (!r2) (q false) (let y3 := (a0.getD z2.toNat n3).2.1; g.f52 y3 1 99 (fun r4 => cond (!r4) (q false) (let y5 := (a0.getD z2.toNat n3).2.2; g.f52 y5 1 999 (fun r6 => cond (!r6) (q false) (cond (decide ((0 : Int) < z2)) (cond (decide (0 ≤ (IntKind.wrap .i64 (z2 - 1))) && decide ((IntKind.wrap .i64 (z2 - 1)) < (a0.length : Int))) (let y7 := (a0.getD ((IntKind.wrap .i64 (z2 - 1)).toNat) n3).1; cond (decide (0 ≤ (IntKind.wrap .i64 (z2 - 1))) && decide ((IntKind.wrap .i64 (z2 - 1)) < (a0.length : Int))) (let y8 := (a0.getD ((IntKind.wrap .i64 (z2 - 1)).toNat) n3).2.1; let y9 := (a0.getD z2.toNat n3).1; let y10 := (a0.getD z2.toNat n3).2.1; g.f105 y7 y8 y9 y10 (fun r11 => cond (!r11) (q false) (j (IntKind.wrap .i64 (z2 + 1))))) none) none) (j (IntKind.wrap .i64 (z2 + 1)))))))))) none) (x0)
theorem s3_ev (z2 : Int) (a0 : L3) (K : Kont R) : V g k K [true, true, false, true, false, false] 116 (S3 z2 a0) = s3 g k z2 a0 (fun z3 => K .normal (S3 z3 a0)) (K (.exit 0) S4) (fun z4 => K .ret (S2 z4)) := by kernel_rfl
def l4r (g : Cs R) (k : Nat) (a0 : L3) (x0 : Option R) (q : Bool → Option R) : Nat → Int → Option R
 | 0, _ => none
 | n + 1, z2 => s3 g k z2 a0 (fun z3 => l4r g k a0 x0 q n z3) (x0) (fun z4 => q z4)
def l4 (g : Cs R) (k : Nat) (z1 : Int) (a0 : L3) (x0 : Option R) (q : Bool → Option R) : Option R := l4r g k a0 x0 q k z1
theorem l4r_ev (a0 : L3) (K : Kont R) : ∀ (n : Nat) (z2 : Int), evLoop (W g k [true, true, false, true, false, false] 116) (atMeet H 58) K n (S3 z2 a0) = l4r g k a0 (K (.exit 0) S4) (fun z5 => K .ret (S2 z5)) n z2 := by
 intro n
 induction n with
 | zero => intros; rfl
 | succ n ih =>
  intro z2
  exact Eq.trans (by kernel_rfl) ((s3_ev g k z2 a0 (loopK (W g k [true, true, false, true, false, false] 116) (atMeet H 58) K n)).trans (Eq.trans (by kernel_rfl) (congrArg (fun f_ => s3 g k z2 a0 f_ (K (.exit 0) S4) (fun z4 => K .ret (S2 z4))) (funext fun (z3 : Int) => (ih z3)))))
theorem l4_ev (z1 : Int) (a0 : L3) (K : Kont R) : V g k K [true, true, false, true, false] 58 (S3 z1 a0) = l4 g k z1 a0 (K (.exit 0) S4) (fun z5 => K .ret (S2 z5)) :=
 Eq.trans (by kernel_rfl) (l4r_ev g k a0 K k z1)
def b5 (g : Cs R) (k : Nat) (z1 : Int) (a0 : L3) (j : Option R) (q : Bool → Option R) : Option R :=
 l4 g k z1 a0 (j) (fun z5 => q z5)
theorem b5_ev (z1 : Int) (a0 : L3) (K : Kont R) : V g k K [true, true, false, true] 29 (S3 z1 a0) = b5 g k z1 a0 (K .normal S4) (fun z6 => K .ret (S2 z6)) :=
 Eq.trans (by kernel_rfl) ((l4_ev g k z1 a0 (blockK 0 (fun st => K .normal (atMeet H 29 st)) K)).trans (by kernel_rfl))
def c6 (g : Cs R) (k : Nat) (a0 : L3) (j : Option R) (q : Bool → Option R) : Option R :=
 s2 g k a0 (fun z1 => b5 g k z1 a0 (j) (fun z6 => q z6))
theorem c6_ev (a0 : L3) (K : Kont R) : V g k K [true, true, false] 14 (S1 a0) = c6 g k a0 (K .normal S4) (fun z7 => K .ret (S2 z7)) :=
 (Eq.trans (by kernel_rfl) (s2_ev g k a0 (V g k K [true, true, false, true] 29) K)).trans (congrArg (fun f_ => s2 g k a0 f_) (funext fun (z1 : Int) => (b5_ev g k z1 a0 K)))
def s7 (g : Cs R) (k : Nat)  (q : Bool → Option R) : Option R :=
 q true
theorem s7_ev  (K : Kont R) : V g k K [true, true, true] 15 S4 = s7 g k (fun z8 => K .ret (S2 z8)) := by kernel_rfl
def c8 (g : Cs R) (k : Nat) (a0 : L3) (q : Bool → Option R) : Option R :=
 c6 g k a0 (s7 g k (fun z8 => q z8)) (fun z7 => q z7)
theorem c8_ev (a0 : L3) (K : Kont R) : V g k K [true, true] 7 (S1 a0) = c8 g k a0 (fun z9 => K .ret (S2 z9)) :=
 (Eq.trans (by kernel_rfl) (c6_ev g k a0 (seqK (V g k K [true, true, true] 15) K))).trans (congrArg (fun f_ => c6 g k a0 f_ (fun z7 => K .ret (S2 z7))) (seqN (f := (V g k K [true, true, true] 15)) (K := K) (s7_ev g k K)))
def c9 (g : Cs R) (k : Nat) (a0 : L3) (q : Bool → Option R) : Option R :=
 s1 g k a0 (c8 g k a0 (fun z9 => q z9)) (fun z0 => q z0)
theorem c9_ev (a0 : L3) (K : Kont R) : V g k K [] 1 (S1 a0) = c9 g k a0 (fun z10 => K .ret (S2 z10)) :=
 (Eq.trans (by kernel_rfl) (s1_ev g k a0 (V g k K [true, true] 7) K)).trans (congrArg (fun f_ => s1 g k a0 f_ (fun z0 => K .ret (S2 z0))) (c8_ev g k a0 K))
def b (g : Cs R) (k : Nat) (a0 : L3) (K : Bool → Option R) : Option R :=
 c9 g k a0 (fun z10 => K z10)
theorem evs (a0 : L3) (KF : Ret → Option R) : evFunc E (G g) k H [] false Tryz.f72 [.val false [.row .ro q3 a0]] KF = b g k a0 (fun r1 => KF ⟨[.val false [.s (.bool r1)]], []⟩) :=
 Eq.trans (by kernel_rfl) ((c9_ev g k a0 (fin E.P false Tryz.f72 [] KF)).trans (by kernel_rfl))
end spec_l12Marks
namespace spec_l12Marks
def g (k : Nat) : Cs R := ⟨(), spec_l3Keeper.c k, spec_l6In.c k, spec_l12Less.c k⟩
def c (k : Nat) : T R := b (g k) k
end spec_l12Marks
/-! ### spec_l12Way: function 73 -/
namespace spec_l12Way
abbrev T (R : Type) : Type := Int → Int → Int → Int → ByteArray → Int → (Bool → Option R) → Option R
def con (f : T R) : Con R := ⟨[], fun args K => match args with
 | [.val true [.s (.int .i64 A), .s (.int .i64 B), .s (.int .i64 C), .s (.int .i64 D), .s (.string F)], .val false [.s (.int .i64 a1)]] => f A B C D F a1 (fun r1 => K ⟨[.val false [.s (.bool r1)]], []⟩)
 | _ => none⟩
structure Cs (R : Type) where
  none_ : Unit := ()
def G (g : Cs R) : Cons R := []
def H : List (Nat × Meet) := []
variable (g : Cs R) (k : Nat)
def b (g : Cs R) (k : Nat) (A C B D : Int) (F : ByteArray) (a1 : Int) (K : Bool → Option R) : Option R :=
 cond (decide (A ≤ a1)) (cond (decide (a1 < B)) (K true) (cond (decide (B < a1)) (K (decide (a1 ≤ A))) (K false))) (cond (decide (B < a1)) (K (decide (a1 ≤ A))) (K false))
theorem evs (A B C D : Int) (F : ByteArray) (a1 : Int) (KF : Ret → Option R) : evFunc E (G g) k H [] false Tryz.f73 [.val true [ri A, ri B, ri C, ri D, .s (.string F)], .val false [ri a1]] KF = b g k A B C D F a1 (fun r1 => KF ⟨[.val false [.s (.bool r1)]], []⟩) :=
 by kernel_rfl
end spec_l12Way
namespace spec_l12Way
def g (k : Nat) : Cs R := ⟨()⟩
def c (k : Nat) : T R := b (g k) k
end spec_l12Way
/-! ### spec_l12Mark: function 74 -/
namespace spec_l12Mark
abbrev T (R : Type) : Type := (L3) → Int → Int → (Int → Option R) → Option R
def con (f : T R) : Con R := ⟨[], fun args K => match args with
 | [.val false [pa0], .val false [.s (.int .i64 a1)], .val false [.s (.int .i64 a2)]] => withRow q3 pa0 fun a0 => f a0 a1 a2 (fun r1 => K ⟨[.val false [ri r1]], []⟩)
 | _ => none⟩
structure Cs (R : Type) where
  none_ : Unit := ()
def G (g : Cs R) : Cons R := []
def H : List (Nat × Meet) := [(2, ⟨[(0, [(0, q3)]), (1, []), (2, [])], []⟩), (12, ⟨[(0, [(0, q3)]), (1, []), (2, []), (7, [])], []⟩), (15, ⟨[(6, [])], []⟩), (26, ⟨[(0, [(0, q3)]), (1, []), (2, []), (7, [])], []⟩), (211, ⟨[(0, [(0, q3)]), (1, []), (2, []), (7, [])], []⟩), (419, ⟨[], []⟩), (3365, ⟨[(6, [])], []⟩)]
abbrev S1 (x1 x2 : Int) (x3 : L3) : St := mkSt [(0, .c (.sl 0)), (1, .c (si x1)), (2, .c (si x2))] [(0, .row .ro q3 x3)]
abbrev S2 (x1 x2 x3 : Int) (x4 : L3) : St := mkSt [(0, .c (.sl 0)), (1, .c (si x1)), (2, .c (si x2)), (7, .c (si x3))] [(0, .row .ro q3 x4)]
abbrev S3 : St := mkSt [] []
abbrev S4 (x1 : Int) : St := mkSt [(6, .c (si x1))] []
noncomputable abbrev V (g : Cs R) (k : Nat) (K : Kont R) (b : List Bool) (p : Nat) (st : St) : Option R := ev E (G g) k H (nodeAt (bodyOf Tryz.f74) b) p st K
noncomputable abbrev U (g : Cs R) (k : Nat) (n : Nat) (b : List Bool) : Nat → St → (St → Option R) → Kont R → Option R := evPre E (G g) k H n (nodeAt (bodyOf Tryz.f74) b)
noncomputable abbrev W (g : Cs R) (k : Nat) (b : List Bool) (p : Nat) : St → Kont R → Option R := ev E (G g) k H (nodeAt (bodyOf Tryz.f74) b) p
variable (g : Cs R) (k : Nat)
def s1 (g : Cs R) (k : Nat) (a1 a2 : Int) (a0 : L3) (j : Option R) : Option R :=
 j
theorem s1_ev (a1 a2 : Int) (a0 : L3) (X : St → Option R) (K : Kont R) : U g k 1 [] 1 (S1 a1 a2 a0) X K = s1 g k a1 a2 a0 (X (S1 a1 a2 a0)) := by kernel_rfl
def s2 (g : Cs R) (k : Nat) (a1 a2 : Int) (a0 : L3) (j : Int → Option R) : Option R :=
 j 0
theorem s2_ev (a1 a2 : Int) (a0 : L3) (X : St → Option R) (K : Kont R) : U g k 1 [true, false] 6 (S1 a1 a2 a0) X K = s2 g k a1 a2 a0 (fun z0 => X (S2 a1 a2 z0 a0)) := by kernel_rfl
def s3 (g : Cs R) (k : Nat) (a1 a2 z1 : Int) (a0 : L3) (j : Int → Option R) (x0 : Option R) (q : Option R) : Option R :=
 cond (decide (z1 < (a0.length : Int))) (cond (decide (0 ≤ z1) && decide (z1 < (a0.length : Int))) (let y1 := (a0.getD z1.toNat n3).1; cond (decide (y1 = a1)) (cond (decide (0 ≤ z1) && decide (z1 < (a0.length : Int))) (let y2 := (a0.getD z1.toNat n3).2.1; cond (decide (y2 = a2)) (q) (j (IntKind.wrap .i64 (z1 + 1)))) none) (j (IntKind.wrap .i64 (z1 + 1)))) none) (x0)
theorem s3_ev (a1 a2 z1 : Int) (a0 : L3) (K : Kont R) : V g k K [true, false, true, false, false] 52 (S2 a1 a2 z1 a0) = s3 g k a1 a2 z1 a0 (fun z2 => K .normal (S2 a1 a2 z2 a0)) (K (.exit 0) S3) (K .ret (S4 z1)) := by kernel_rfl
def l4r (g : Cs R) (k : Nat) (a1 a2 : Int) (a0 : L3) (x0 : Option R) (q : Int → Option R) : Nat → Int → Option R
 | 0, _ => none
 | n + 1, z1 => s3 g k a1 a2 z1 a0 (fun z2 => l4r g k a1 a2 a0 x0 q n z2) (x0) (q z1)
def l4 (g : Cs R) (k : Nat) (a1 a2 z0 : Int) (a0 : L3) (x0 : Option R) (q : Int → Option R) : Option R := l4r g k a1 a2 a0 x0 q k z0
theorem l4r_ev (a1 a2 : Int) (a0 : L3) (K : Kont R) : ∀ (n : Nat) (z1 : Int), evLoop (W g k [true, false, true, false, false] 52) (atMeet H 26) K n (S2 a1 a2 z1 a0) = l4r g k a1 a2 a0 (K (.exit 0) S3) (fun z3 => K .ret (S4 z3)) n z1 := by
 intro n
 induction n with
 | zero => intros; rfl
 | succ n ih =>
  intro z1
  exact Eq.trans (by kernel_rfl) ((s3_ev g k a1 a2 z1 a0 (loopK (W g k [true, false, true, false, false] 52) (atMeet H 26) K n)).trans (Eq.trans (by kernel_rfl) (congrArg (fun f_ => s3 g k a1 a2 z1 a0 f_ (K (.exit 0) S3) (K .ret (S4 z1))) (funext fun (z2 : Int) => (ih z2)))))
theorem l4_ev (a1 a2 z0 : Int) (a0 : L3) (K : Kont R) : V g k K [true, false, true, false] 26 (S2 a1 a2 z0 a0) = l4 g k a1 a2 z0 a0 (K (.exit 0) S3) (fun z3 => K .ret (S4 z3)) :=
 Eq.trans (by kernel_rfl) (l4r_ev g k a1 a2 a0 K k z0)
def b5 (g : Cs R) (k : Nat) (a1 a2 z0 : Int) (a0 : L3) (j : Option R) (q : Int → Option R) : Option R :=
 l4 g k a1 a2 z0 a0 (j) (fun z3 => q z3)
theorem b5_ev (a1 a2 z0 : Int) (a0 : L3) (K : Kont R) : V g k K [true, false, true] 13 (S2 a1 a2 z0 a0) = b5 g k a1 a2 z0 a0 (K .normal S3) (fun z4 => K .ret (S4 z4)) :=
 Eq.trans (by kernel_rfl) ((l4_ev g k a1 a2 z0 a0 (blockK 0 (fun st => K .normal (atMeet H 13 st)) K)).trans (by kernel_rfl))
def c6 (g : Cs R) (k : Nat) (a1 a2 : Int) (a0 : L3) (j : Option R) (q : Int → Option R) : Option R :=
 s2 g k a1 a2 a0 (fun z0 => b5 g k a1 a2 z0 a0 (j) (fun z4 => q z4))
theorem c6_ev (a1 a2 : Int) (a0 : L3) (K : Kont R) : V g k K [true, false] 6 (S1 a1 a2 a0) = c6 g k a1 a2 a0 (K .normal S3) (fun z5 => K .ret (S4 z5)) :=
 (Eq.trans (by kernel_rfl) (s2_ev g k a1 a2 a0 (V g k K [true, false, true] 13) K)).trans (congrArg (fun f_ => s2 g k a1 a2 a0 f_) (funext fun (z0 : Int) => (b5_ev g k a1 a2 z0 a0 K)))
def s7 (g : Cs R) (k : Nat)  (q : Int → Option R) : Option R :=
 q (-1)
theorem s7_ev  (K : Kont R) : V g k K [true, true] 7 S3 = s7 g k (fun z6 => K .ret (S4 z6)) := by kernel_rfl
def c8 (g : Cs R) (k : Nat) (a1 a2 : Int) (a0 : L3) (q : Int → Option R) : Option R :=
 c6 g k a1 a2 a0 (s7 g k (fun z6 => q z6)) (fun z5 => q z5)
theorem c8_ev (a1 a2 : Int) (a0 : L3) (K : Kont R) : V g k K [true] 3 (S1 a1 a2 a0) = c8 g k a1 a2 a0 (fun z7 => K .ret (S4 z7)) :=
 (Eq.trans (by kernel_rfl) (c6_ev g k a1 a2 a0 (seqK (V g k K [true, true] 7) K))).trans (congrArg (fun f_ => c6 g k a1 a2 a0 f_ (fun z5 => K .ret (S4 z5))) (seqN (f := (V g k K [true, true] 7)) (K := K) (s7_ev g k K)))
def c9 (g : Cs R) (k : Nat) (a1 a2 : Int) (a0 : L3) (q : Int → Option R) : Option R :=
 s1 g k a1 a2 a0 (c8 g k a1 a2 a0 (fun z7 => q z7))
theorem c9_ev (a1 a2 : Int) (a0 : L3) (K : Kont R) : V g k K [] 1 (S1 a1 a2 a0) = c9 g k a1 a2 a0 (fun z8 => K .ret (S4 z8)) :=
 (Eq.trans (by kernel_rfl) (s1_ev g k a1 a2 a0 (V g k K [true] 3) K)).trans (congrArg (fun f_ => s1 g k a1 a2 a0 f_) (c8_ev g k a1 a2 a0 K))
def b (g : Cs R) (k : Nat) (a0 : L3) (a1 a2 : Int) (K : Int → Option R) : Option R :=
 c9 g k a1 a2 a0 (fun z8 => K z8)
theorem evs (a0 : L3) (a1 a2 : Int) (KF : Ret → Option R) : evFunc E (G g) k H [] false Tryz.f74 [.val false [.row .ro q3 a0], .val false [ri a1], .val false [ri a2]] KF = b g k a0 a1 a2 (fun r1 => KF ⟨[.val false [ri r1]], []⟩) :=
 Eq.trans (by kernel_rfl) ((c9_ev g k a1 a2 a0 (fin E.P false Tryz.f74 [] KF)).trans (by kernel_rfl))
end spec_l12Mark
namespace spec_l12Mark
def g (k : Nat) : Cs R := ⟨()⟩
def c (k : Nat) : T R := b (g k) k
end spec_l12Mark
/-! ### spec_KeepOk: function 42 -/
namespace spec_KeepOk
abbrev T (R : Type) : Type := Int → Int → Int → (L5) → (L3) → (L5) → (Bool → Option R) → Option R
def con (f : T R) : Con R := ⟨[], fun args K => match args with
 | [.val true [.s (.int .i64 A), .s (.int .i64 B), .s (.int .i64 C), D, F, J]] => withRow q5 D fun M => withRow q3 F fun N => withRow q5 J fun O => f A B C M N O (fun r1 => K ⟨[.val false [.s (.bool r1)]], []⟩)
 | _ => none⟩
structure Cs (R : Type) where
  none_ : Unit := ()
  f26 : spec_l3Keeper.T R
  f52 : spec_l6In.T R
  f71 : spec_l12Notes.T R
  f72 : spec_l12Marks.T R
  f73 : spec_l12Way.T R
  f74 : spec_l12Mark.T R
def G (g : Cs R) : Cons R := [(26, spec_l3Keeper.con g.f26), (52, spec_l6In.con g.f52), (71, spec_l12Notes.con g.f71), (72, spec_l12Marks.con g.f72), (73, spec_l12Way.con g.f73), (74, spec_l12Mark.con g.f74)]
def H : List (Nat × Meet) := [(13, ⟨[(1, [(3, q5), (4, q3), (5, q5)])], []⟩), (28, ⟨[(1, [(3, q5), (4, q3), (5, q5)]), (3, [])], []⟩), (53, ⟨[(2, [])], []⟩), (58, ⟨[(1, [(3, q5), (4, q3), (5, q5)]), (3, [])], []⟩), (60, ⟨[(1, [(3, q5), (4, q3), (5, q5)]), (5, [])], []⟩), (122, ⟨[(1, [(3, q5), (4, q3), (5, q5)]), (5, [])], []⟩), (124, ⟨[(1, [(3, q5), (4, q3), (5, q5)]), (7, [])], []⟩), (127, ⟨[(2, [])], []⟩), (250, ⟨[(1, [(3, q5), (4, q3), (5, q5)]), (7, [])], []⟩), (467, ⟨[(1, [(3, q5), (4, q3), (5, q5)]), (3, [])], []⟩), (931, ⟨[(1, [(3, q5), (4, q3), (5, q5)])], []⟩), (979, ⟨[(1, [(3, q5), (4, q3), (5, q5)]), (5, [])], []⟩), (1955, ⟨[(1, [(3, q5), (4, q3), (5, q5)])], []⟩), (2003, ⟨[(1, [(3, q5), (4, q3), (5, q5)]), (7, [])], []⟩), (4003, ⟨[], []⟩), (14925, ⟨[(2, [])], []⟩), (31309, ⟨[(2, [])], []⟩), (64077, ⟨[(2, [])], []⟩)]
abbrev S1 (x1 x2 x3 : Int) (x4 : L5) (x5 : L3) (x6 : L5) : St := mkSt [(0, .agg [si x1, si x2, si x3, .sl 3, .sl 4, .sl 5])] [(3, .row .ro q5 x4), (4, .row .ro q3 x5), (5, .row .ro q5 x6)]
abbrev S2 (x1 x2 x3 : Int) (x4 : L5) (x5 : L3) (x6 : L5) : St := mkSt [(1, .c (.ptr 9001 0 0))] [(9001, .box [si x1, si x2, si x3, .sl 3, .sl 4, .sl 5]), (3, .row .ro q5 x4), (4, .row .ro q3 x5), (5, .row .ro q5 x6)]
abbrev S3 (x1 : Bool) : St := mkSt [(2, .c (.s (.bool x1)))] []
abbrev S4 (x1 x2 x3 x4 : Int) (x5 : L5) (x6 : L3) (x7 : L5) : St := mkSt [(1, .c (.ptr 9001 0 0)), (3, .c (si x1))] [(9001, .box [si x2, si x3, si x4, .sl 3, .sl 4, .sl 5]), (3, .row .ro q5 x5), (4, .row .ro q3 x6), (5, .row .ro q5 x7)]
abbrev S5 (x1 x2 x3 x4 : Int) (x5 : L5) (x6 : L3) (x7 : L5) : St := mkSt [(1, .c (.ptr 9001 0 0)), (5, .c (si x1))] [(9001, .box [si x2, si x3, si x4, .sl 3, .sl 4, .sl 5]), (3, .row .ro q5 x5), (4, .row .ro q3 x6), (5, .row .ro q5 x7)]
abbrev S6 (x1 x2 x3 x4 : Int) (x5 : L5) (x6 : L3) (x7 : L5) : St := mkSt [(1, .c (.ptr 9001 0 0)), (7, .c (si x1))] [(9001, .box [si x2, si x3, si x4, .sl 3, .sl 4, .sl 5]), (3, .row .ro q5 x5), (4, .row .ro q3 x6), (5, .row .ro q5 x7)]
abbrev S7 : St := mkSt [] []
noncomputable abbrev V (g : Cs R) (k : Nat) (K : Kont R) (b : List Bool) (p : Nat) (st : St) : Option R := ev E (G g) k H (nodeAt (bodyOf Tryz.f42) b) p st K
noncomputable abbrev U (g : Cs R) (k : Nat) (n : Nat) (b : List Bool) : Nat → St → (St → Option R) → Kont R → Option R := evPre E (G g) k H n (nodeAt (bodyOf Tryz.f42) b)
noncomputable abbrev W (g : Cs R) (k : Nat) (b : List Bool) (p : Nat) : St → Kont R → Option R := ev E (G g) k H (nodeAt (bodyOf Tryz.f42) b) p
variable (g : Cs R) (k : Nat)
def s1 (g : Cs R) (k : Nat) (A B C : Int) (D : L5) (F : L3) (J : L5) (j : Option R) (q : Bool → Option R) : Option R :=
 g.f26 A (fun r1 => cond (!r1) (q false) (g.f52 B 0 999 (fun r2 => cond (!r2) (q false) (g.f52 C 1 100 (fun r3 => cond (!r3) (q false) (g.f71 D 6 (fun r4 => cond (!r4) (q false) (g.f72 F (fun r5 => cond (!r5) (q false) (g.f71 J 6 (fun r6 => cond (!r6) (q false) (j))))))))))))
theorem s1_ev (A B C : Int) (D : L5) (F : L3) (J : L5) (X : St → Option R) (K : Kont R) : U g k 2 [] 1 (S1 A B C D F J) X K = s1 g k A B C D F J (X (S2 A B C D F J)) (fun z0 => K .ret (S3 z0)) := by kernel_rfl
def s2 (g : Cs R) (k : Nat) (A B C : Int) (D : L5) (F : L3) (J : L5) (j : Int → Option R) : Option R :=
 j 0
theorem s2_ev (A B C : Int) (D : L5) (F : L3) (J : L5) (X : St → Option R) (K : Kont R) : U g k 1 [true, true, false] 14 (S2 A B C D F J) X K = s2 g k A B C D F J (fun z1 => X (S4 z1 A B C D F J)) := by kernel_rfl
def s3 (g : Cs R) (k : Nat) (z2 B D F : Int) (A : L5) (C : L3) (J : L5) (j : Int → Option R) (x0 : Option R) (q : Bool → Option R) : Option R :=
 cond (decide (z2 < (A.length : Int))) (cond (decide (0 ≤ z2) && decide (z2 < (A.length : Int))) (let y1 := (A.getD z2.toNat n5).2.2.2.1; cond (decide (y1 ≤ D)) (q false) (g.f73 ((A.getD z2.toNat n5).1) ((A.getD z2.toNat n5).2.1) ((A.getD z2.toNat n5).2.2.1) ((A.getD z2.toNat n5).2.2.2.1) ((A.getD z2.toNat n5).2.2.2.2) B (fun r2 => cond (!r2) (q false) (let y3 := (A.getD z2.toNat n5).1; cond (decide (y3 = B)) (let y4 := (A.getD z2.toNat n5).2.1; cond (decide (F ≤ y4)) (q false) (let y5 := (A.getD z2.toNat n5).1; let y6 := (A.getD z2.toNat n5).2.1; g.f74 C y5 y6 (fun r7 => cond (decide ((0 : Int) ≤ r7)) (q false) (j (IntKind.wrap .i64 (z2 + 1)))))) (let y8 := (A.getD z2.toNat n5).1; let y9 := (A.getD z2.toNat n5).2.1; g.f74 C y8 y9 (fun r10 => cond (decide ((0 : Int) ≤ r10)) (q false) (j (IntKind.wrap .i64 (z2 + 1))))))))) none) (x0)
theorem s3_ev (z2 A B C : Int) (D : L5) (F : L3) (J : L5) (K : Kont R) : V g k K [true, true, false, true, false, false] 116 (S4 z2 A B C D F J) = s3 g k z2 A B C D F J (fun z3 => K .normal (S4 z3 A B C D F J)) (K (.exit 0) (S2 A B C D F J)) (fun z4 => K .ret (S3 z4)) := by kernel_rfl
def l4r (g : Cs R) (k : Nat) (A B C : Int) (D : L5) (F : L3) (J : L5) (x0 : Option R) (q : Bool → Option R) : Nat → Int → Option R
 | 0, _ => none
 | n + 1, z2 => s3 g k z2 A B C D F J (fun z3 => l4r g k A B C D F J x0 q n z3) (x0) (fun z4 => q z4)
def l4 (g : Cs R) (k : Nat) (z1 A B C : Int) (D : L5) (F : L3) (J : L5) (x0 : Option R) (q : Bool → Option R) : Option R := l4r g k A B C D F J x0 q k z1
theorem l4r_ev (A B C : Int) (D : L5) (F : L3) (J : L5) (K : Kont R) : ∀ (n : Nat) (z2 : Int), evLoop (W g k [true, true, false, true, false, false] 116) (atMeet H 58) K n (S4 z2 A B C D F J) = l4r g k A B C D F J (K (.exit 0) (S2 A B C D F J)) (fun z5 => K .ret (S3 z5)) n z2 := by
 intro n
 induction n with
 | zero => intros; rfl
 | succ n ih =>
  intro z2
  exact Eq.trans (by kernel_rfl) ((s3_ev g k z2 A B C D F J (loopK (W g k [true, true, false, true, false, false] 116) (atMeet H 58) K n)).trans (Eq.trans (by kernel_rfl) (congrArg (fun f_ => s3 g k z2 A B C D F J f_ (K (.exit 0) (S2 A B C D F J)) (fun z4 => K .ret (S3 z4))) (funext fun (z3 : Int) => (ih z3)))))
theorem l4_ev (z1 A B C : Int) (D : L5) (F : L3) (J : L5) (K : Kont R) : V g k K [true, true, false, true, false] 58 (S4 z1 A B C D F J) = l4 g k z1 A B C D F J (K (.exit 0) (S2 A B C D F J)) (fun z5 => K .ret (S3 z5)) :=
 Eq.trans (by kernel_rfl) (l4r_ev g k A B C D F J K k z1)
def b5 (g : Cs R) (k : Nat) (z1 A B C : Int) (D : L5) (F : L3) (J : L5) (j : Option R) (q : Bool → Option R) : Option R :=
 l4 g k z1 A B C D F J (j) (fun z5 => q z5)
theorem b5_ev (z1 A B C : Int) (D : L5) (F : L3) (J : L5) (K : Kont R) : V g k K [true, true, false, true] 29 (S4 z1 A B C D F J) = b5 g k z1 A B C D F J (K .normal (S2 A B C D F J)) (fun z6 => K .ret (S3 z6)) :=
 Eq.trans (by kernel_rfl) ((l4_ev g k z1 A B C D F J (blockK 0 (fun st => K .normal (atMeet H 29 st)) K)).trans (by kernel_rfl))
def c6 (g : Cs R) (k : Nat) (A B C : Int) (D : L5) (F : L3) (J : L5) (j : Option R) (q : Bool → Option R) : Option R :=
 s2 g k A B C D F J (fun z1 => b5 g k z1 A B C D F J (j) (fun z6 => q z6))
theorem c6_ev (A B C : Int) (D : L5) (F : L3) (J : L5) (K : Kont R) : V g k K [true, true, false] 14 (S2 A B C D F J) = c6 g k A B C D F J (K .normal (S2 A B C D F J)) (fun z7 => K .ret (S3 z7)) :=
 (Eq.trans (by kernel_rfl) (s2_ev g k A B C D F J (V g k K [true, true, false, true] 29) K)).trans (congrArg (fun f_ => s2 g k A B C D F J f_) (funext fun (z1 : Int) => (b5_ev g k z1 A B C D F J K)))
def s7 (g : Cs R) (k : Nat) (A B C : Int) (D : L5) (F : L3) (J : L5) (j : Int → Option R) : Option R :=
 j 0
theorem s7_ev (A B C : Int) (D : L5) (F : L3) (J : L5) (X : St → Option R) (K : Kont R) : U g k 1 [true, true, true, false] 30 (S2 A B C D F J) X K = s7 g k A B C D F J (fun z8 => X (S5 z8 A B C D F J)) := by kernel_rfl
def s8 (g : Cs R) (k : Nat) (z9 B C D : Int) (F : L5) (A : L3) (J : L5) (j : Int → Option R) (x2 : Option R) (q : Bool → Option R) : Option R :=
 cond (decide (z9 < (A.length : Int))) (cond (decide (0 ≤ z9) && decide (z9 < (A.length : Int))) (let y1 := (A.getD z9.toNat n3).2.2; cond (decide (y1 ≤ C)) (q false) (let y2 := (A.getD z9.toNat n3).1; cond (decide (y2 = B)) (let y3 := (A.getD z9.toNat n3).2.1; cond (decide (D ≤ y3)) (q false) (j (IntKind.wrap .i64 (z9 + 1)))) (j (IntKind.wrap .i64 (z9 + 1))))) none) (x2)
theorem s8_ev (z9 A B C : Int) (D : L5) (F : L3) (J : L5) (K : Kont R) : V g k K [true, true, true, false, true, false, false] 244 (S5 z9 A B C D F J) = s8 g k z9 A B C D F J (fun z10 => K .normal (S5 z10 A B C D F J)) (K (.exit 2) (S2 A B C D F J)) (fun z11 => K .ret (S3 z11)) := by kernel_rfl
def l9r (g : Cs R) (k : Nat) (A B C : Int) (D : L5) (F : L3) (J : L5) (x2 : Option R) (q : Bool → Option R) : Nat → Int → Option R
 | 0, _ => none
 | n + 1, z9 => s8 g k z9 A B C D F J (fun z10 => l9r g k A B C D F J x2 q n z10) (x2) (fun z11 => q z11)
def l9 (g : Cs R) (k : Nat) (z8 A B C : Int) (D : L5) (F : L3) (J : L5) (x2 : Option R) (q : Bool → Option R) : Option R := l9r g k A B C D F J x2 q k z8
theorem l9r_ev (A B C : Int) (D : L5) (F : L3) (J : L5) (K : Kont R) : ∀ (n : Nat) (z9 : Int), evLoop (W g k [true, true, true, false, true, false, false] 244) (atMeet H 122) K n (S5 z9 A B C D F J) = l9r g k A B C D F J (K (.exit 2) (S2 A B C D F J)) (fun z12 => K .ret (S3 z12)) n z9 := by
 intro n
 induction n with
 | zero => intros; rfl
 | succ n ih =>
  intro z9
  exact Eq.trans (by kernel_rfl) ((s8_ev g k z9 A B C D F J (loopK (W g k [true, true, true, false, true, false, false] 244) (atMeet H 122) K n)).trans (Eq.trans (by kernel_rfl) (congrArg (fun f_ => s8 g k z9 A B C D F J f_ (K (.exit 2) (S2 A B C D F J)) (fun z11 => K .ret (S3 z11))) (funext fun (z10 : Int) => (ih z10)))))
theorem l9_ev (z8 A B C : Int) (D : L5) (F : L3) (J : L5) (K : Kont R) : V g k K [true, true, true, false, true, false] 122 (S5 z8 A B C D F J) = l9 g k z8 A B C D F J (K (.exit 2) (S2 A B C D F J)) (fun z12 => K .ret (S3 z12)) :=
 Eq.trans (by kernel_rfl) (l9r_ev g k A B C D F J K k z8)
def b10 (g : Cs R) (k : Nat) (z8 A B C : Int) (D : L5) (F : L3) (J : L5) (j : Option R) (q : Bool → Option R) : Option R :=
 l9 g k z8 A B C D F J (j) (fun z12 => q z12)
theorem b10_ev (z8 A B C : Int) (D : L5) (F : L3) (J : L5) (K : Kont R) : V g k K [true, true, true, false, true] 61 (S5 z8 A B C D F J) = b10 g k z8 A B C D F J (K .normal (S2 A B C D F J)) (fun z13 => K .ret (S3 z13)) :=
 Eq.trans (by kernel_rfl) ((l9_ev g k z8 A B C D F J (blockK 2 (fun st => K .normal (atMeet H 61 st)) K)).trans (by kernel_rfl))
def c11 (g : Cs R) (k : Nat) (A B C : Int) (D : L5) (F : L3) (J : L5) (j : Option R) (q : Bool → Option R) : Option R :=
 s7 g k A B C D F J (fun z8 => b10 g k z8 A B C D F J (j) (fun z13 => q z13))
theorem c11_ev (A B C : Int) (D : L5) (F : L3) (J : L5) (K : Kont R) : V g k K [true, true, true, false] 30 (S2 A B C D F J) = c11 g k A B C D F J (K .normal (S2 A B C D F J)) (fun z14 => K .ret (S3 z14)) :=
 (Eq.trans (by kernel_rfl) (s7_ev g k A B C D F J (V g k K [true, true, true, false, true] 61) K)).trans (congrArg (fun f_ => s7 g k A B C D F J f_) (funext fun (z8 : Int) => (b10_ev g k z8 A B C D F J K)))
def s12 (g : Cs R) (k : Nat) (A B C : Int) (D : L5) (F : L3) (J : L5) (j : Int → Option R) : Option R :=
 j 0
theorem s12_ev (A B C : Int) (D : L5) (F : L3) (J : L5) (X : St → Option R) (K : Kont R) : U g k 1 [true, true, true, true, false] 62 (S2 A B C D F J) X K = s12 g k A B C D F J (fun z15 => X (S6 z15 A B C D F J)) := by kernel_rfl
def s13 (g : Cs R) (k : Nat) (z16 B C F : Int) (J : L5) (D : L3) (A : L5) (j : Int → Option R) (x4 : Option R) (q : Bool → Option R) : Option R :=
 cond (decide (z16 < (A.length : Int))) (cond (decide (0 ≤ z16) && decide (z16 < (A.length : Int))) (let y1 := (A.getD z16.toNat n5).2.2.1; cond (!decide (y1 = B)) (q false) (let y2 := (A.getD z16.toNat n5).1; cond (decide (y2 = B)) (let y3 := (A.getD z16.toNat n5).2.1; cond (decide (F ≤ y3)) (q false) (let y4 := (A.getD z16.toNat n5).2.2.2.1; cond (decide (C < y4)) (let y5 := (A.getD z16.toNat n5).1; let y6 := (A.getD z16.toNat n5).2.1; g.f74 D y5 y6 (fun r7 => cond (decide (r7 < 0)) (q false) (j (IntKind.wrap .i64 (z16 + 1))))) (j (IntKind.wrap .i64 (z16 + 1))))) (let y8 := (A.getD z16.toNat n5).2.2.2.1; cond (decide (C < y8)) (let y9 := (A.getD z16.toNat n5).1; let y10 := (A.getD z16.toNat n5).2.1; g.f74 D y9 y10 (fun r11 => cond (decide (r11 < 0)) (q false) (j (IntKind.wrap .i64 (z16 + 1))))) (j (IntKind.wrap .i64 (z16 + 1)))))) none) (x4)
theorem s13_ev (z16 A B C : Int) (D : L5) (F : L3) (J : L5) (K : Kont R) : V g k K [true, true, true, true, false, true, false, false] 500 (S6 z16 A B C D F J) = s13 g k z16 A B C D F J (fun z17 => K .normal (S6 z17 A B C D F J)) (K (.exit 4) S7) (fun z18 => K .ret (S3 z18)) := by kernel_rfl
def l14r (g : Cs R) (k : Nat) (A B C : Int) (D : L5) (F : L3) (J : L5) (x4 : Option R) (q : Bool → Option R) : Nat → Int → Option R
 | 0, _ => none
 | n + 1, z16 => s13 g k z16 A B C D F J (fun z17 => l14r g k A B C D F J x4 q n z17) (x4) (fun z18 => q z18)
def l14 (g : Cs R) (k : Nat) (z15 A B C : Int) (D : L5) (F : L3) (J : L5) (x4 : Option R) (q : Bool → Option R) : Option R := l14r g k A B C D F J x4 q k z15
theorem l14r_ev (A B C : Int) (D : L5) (F : L3) (J : L5) (K : Kont R) : ∀ (n : Nat) (z16 : Int), evLoop (W g k [true, true, true, true, false, true, false, false] 500) (atMeet H 250) K n (S6 z16 A B C D F J) = l14r g k A B C D F J (K (.exit 4) S7) (fun z19 => K .ret (S3 z19)) n z16 := by
 intro n
 induction n with
 | zero => intros; rfl
 | succ n ih =>
  intro z16
  exact Eq.trans (by kernel_rfl) ((s13_ev g k z16 A B C D F J (loopK (W g k [true, true, true, true, false, true, false, false] 500) (atMeet H 250) K n)).trans (Eq.trans (by kernel_rfl) (congrArg (fun f_ => s13 g k z16 A B C D F J f_ (K (.exit 4) S7) (fun z18 => K .ret (S3 z18))) (funext fun (z17 : Int) => (ih z17)))))
theorem l14_ev (z15 A B C : Int) (D : L5) (F : L3) (J : L5) (K : Kont R) : V g k K [true, true, true, true, false, true, false] 250 (S6 z15 A B C D F J) = l14 g k z15 A B C D F J (K (.exit 4) S7) (fun z19 => K .ret (S3 z19)) :=
 Eq.trans (by kernel_rfl) (l14r_ev g k A B C D F J K k z15)
def b15 (g : Cs R) (k : Nat) (z15 A B C : Int) (D : L5) (F : L3) (J : L5) (j : Option R) (q : Bool → Option R) : Option R :=
 l14 g k z15 A B C D F J (j) (fun z19 => q z19)
theorem b15_ev (z15 A B C : Int) (D : L5) (F : L3) (J : L5) (K : Kont R) : V g k K [true, true, true, true, false, true] 125 (S6 z15 A B C D F J) = b15 g k z15 A B C D F J (K .normal S7) (fun z20 => K .ret (S3 z20)) :=
 Eq.trans (by kernel_rfl) ((l14_ev g k z15 A B C D F J (blockK 4 (fun st => K .normal (atMeet H 125 st)) K)).trans (by kernel_rfl))
def c16 (g : Cs R) (k : Nat) (A B C : Int) (D : L5) (F : L3) (J : L5) (j : Option R) (q : Bool → Option R) : Option R :=
 s12 g k A B C D F J (fun z15 => b15 g k z15 A B C D F J (j) (fun z20 => q z20))
theorem c16_ev (A B C : Int) (D : L5) (F : L3) (J : L5) (K : Kont R) : V g k K [true, true, true, true, false] 62 (S2 A B C D F J) = c16 g k A B C D F J (K .normal S7) (fun z21 => K .ret (S3 z21)) :=
 (Eq.trans (by kernel_rfl) (s12_ev g k A B C D F J (V g k K [true, true, true, true, false, true] 125) K)).trans (congrArg (fun f_ => s12 g k A B C D F J f_) (funext fun (z15 : Int) => (b15_ev g k z15 A B C D F J K)))
def s17 (g : Cs R) (k : Nat)  (q : Bool → Option R) : Option R :=
 q true
theorem s17_ev  (K : Kont R) : V g k K [true, true, true, true, true] 63 S7 = s17 g k (fun z22 => K .ret (S3 z22)) := by kernel_rfl
def c18 (g : Cs R) (k : Nat) (A B C : Int) (D : L5) (F : L3) (J : L5) (q : Bool → Option R) : Option R :=
 c16 g k A B C D F J (s17 g k (fun z22 => q z22)) (fun z21 => q z21)
theorem c18_ev (A B C : Int) (D : L5) (F : L3) (J : L5) (K : Kont R) : V g k K [true, true, true, true] 31 (S2 A B C D F J) = c18 g k A B C D F J (fun z23 => K .ret (S3 z23)) :=
 (Eq.trans (by kernel_rfl) (c16_ev g k A B C D F J (seqK (V g k K [true, true, true, true, true] 63) K))).trans (congrArg (fun f_ => c16 g k A B C D F J f_ (fun z21 => K .ret (S3 z21))) (seqN (f := (V g k K [true, true, true, true, true] 63)) (K := K) (s17_ev g k K)))
def c19 (g : Cs R) (k : Nat) (A B C : Int) (D : L5) (F : L3) (J : L5) (q : Bool → Option R) : Option R :=
 c11 g k A B C D F J (c18 g k A B C D F J (fun z23 => q z23)) (fun z14 => q z14)
theorem c19_ev (A B C : Int) (D : L5) (F : L3) (J : L5) (K : Kont R) : V g k K [true, true, true] 15 (S2 A B C D F J) = c19 g k A B C D F J (fun z24 => K .ret (S3 z24)) :=
 (Eq.trans (by kernel_rfl) (c11_ev g k A B C D F J (seqK (V g k K [true, true, true, true] 31) K))).trans (congrArg (fun f_ => c11 g k A B C D F J f_ (fun z14 => K .ret (S3 z14))) (seqN (f := (V g k K [true, true, true, true] 31)) (K := K) (c18_ev g k A B C D F J K)))
def c20 (g : Cs R) (k : Nat) (A B C : Int) (D : L5) (F : L3) (J : L5) (q : Bool → Option R) : Option R :=
 c6 g k A B C D F J (c19 g k A B C D F J (fun z24 => q z24)) (fun z7 => q z7)
theorem c20_ev (A B C : Int) (D : L5) (F : L3) (J : L5) (K : Kont R) : V g k K [true, true] 7 (S2 A B C D F J) = c20 g k A B C D F J (fun z25 => K .ret (S3 z25)) :=
 (Eq.trans (by kernel_rfl) (c6_ev g k A B C D F J (seqK (V g k K [true, true, true] 15) K))).trans (congrArg (fun f_ => c6 g k A B C D F J f_ (fun z7 => K .ret (S3 z7))) (seqN (f := (V g k K [true, true, true] 15)) (K := K) (c19_ev g k A B C D F J K)))
def c21 (g : Cs R) (k : Nat) (A B C : Int) (D : L5) (F : L3) (J : L5) (q : Bool → Option R) : Option R :=
 s1 g k A B C D F J (c20 g k A B C D F J (fun z25 => q z25)) (fun z0 => q z0)
theorem c21_ev (A B C : Int) (D : L5) (F : L3) (J : L5) (K : Kont R) : V g k K [] 1 (S1 A B C D F J) = c21 g k A B C D F J (fun z26 => K .ret (S3 z26)) :=
 (Eq.trans (by kernel_rfl) (s1_ev g k A B C D F J (V g k K [true, true] 7) K)).trans (congrArg (fun f_ => s1 g k A B C D F J f_ (fun z0 => K .ret (S3 z0))) (c20_ev g k A B C D F J K))
def b (g : Cs R) (k : Nat) (A B C : Int) (D : L5) (F : L3) (J : L5) (K : Bool → Option R) : Option R :=
 c21 g k A B C D F J (fun z26 => K z26)
theorem evs (A B C : Int) (D : L5) (F : L3) (J : L5) (KF : Ret → Option R) : evFunc E (G g) k H [] false Tryz.f42 [.val true [ri A, ri B, ri C, .row .ro q5 D, .row .ro q3 F, .row .ro q5 J]] KF = b g k A B C D F J (fun r1 => KF ⟨[.val false [.s (.bool r1)]], []⟩) :=
 Eq.trans (by kernel_rfl) ((c21_ev g k A B C D F J (fin E.P false Tryz.f42 [] KF)).trans (by kernel_rfl))
end spec_KeepOk
namespace spec_KeepOk
def g (k : Nat) : Cs R := ⟨(), spec_l3Keeper.c k, spec_l6In.c k, spec_l12Notes.c k, spec_l12Marks.c k, spec_l12Way.c k, spec_l12Mark.c k⟩
def c (k : Nat) : T R := b (g k) k
end spec_KeepOk
/-! ### spec_l6Dec: function 48 -/
namespace spec_l6Dec
abbrev T (R : Type) : Type := Int → (ByteArray → Option R) → Option R
def con (f : T R) : Con R := ⟨[], fun args K => match args with
 | [.val false [.s (.int .i64 a0)]] => f a0 (fun r1 => K ⟨[.val false [.s (.string r1)]], []⟩)
 | _ => none⟩
structure Cs (R : Type) where
  none_ : Unit := ()
  f48 : T R
def G (g : Cs R) : Cons R := [(48, con g.f48)]
def H : List (Nat × Meet) := []
variable (g : Cs R) (k : Nat)
def b (g : Cs R) (k : Nat) (a0 : Int) (K : ByteArray → Option R) : Option R :=
 cond (decide (a0 < (-9223372036854775807))) (K (ByteArray.mk #[45, 57, 50, 50, 51, 51, 55, 50, 48, 51, 54, 56, 53, 52, 55, 55, 53, 56, 48, 56])) (cond (decide (a0 < 0)) (g.f48 (IntKind.wrap .i64 (0 - a0)) (fun r1 => cond (decide ((ByteArray.mk #[45]).size + r1.size ≤ 9223372036854775807)) (K ((ByteArray.mk #[45]) ++ r1)) none)) (cond (decide (a0 < 10)) (let y2 := (IntKind.wrap .u8 ((IntKind.wrap .i64 ((48 : Int) + a0)))); K (ofBytes ([y2] : List Int))) (cond (!decide ((10 : Int) = 0)) (g.f48 (IntKind.wrap .i64 (Int.tdiv a0 10)) (fun r3 => cond (!decide ((10 : Int) = 0)) (let y4 := (IntKind.wrap .i64 ((48 : Int) + (Int.tmod a0 10))); cond (decide (r3.size + (ofBytes ([(IntKind.wrap .u8 (y4))] : List Int)).size ≤ 9223372036854775807)) (let y5 := (r3 ++ (ofBytes ([(IntKind.wrap .u8 (y4))] : List Int))); K y5) none) none)) none)))
theorem evs (a0 : Int) (KF : Ret → Option R) : evFunc E (G g) k H [] false Tryz.f48 [.val false [ri a0]] KF = b g k a0 (fun r1 => KF ⟨[.val false [.s (.string r1)]], []⟩) :=
 by kernel_rfl
end spec_l6Dec
namespace spec_l6Dec
def c : Nat → T R
 | 0 => fun _ _ => none
 | k + 1 => b ⟨(), c k⟩ k
end spec_l6Dec
namespace spec_l6Dec
def g (k : Nat) : Cs R := ⟨(), c k⟩
end spec_l6Dec
/-! ### spec_l3Word: function 75 -/
namespace spec_l3Word
abbrev T (R : Type) : Type := ByteArray → (ByteArray → ByteArray → Option R) → Option R
def con (f : T R) : Con R := ⟨[], fun args K => match args with
 | [.val false [.s (.string a0)]] => f a0 (fun r1 r2 => K ⟨[.val false [.s (.string r1)], .val false [.s (.string r2)]], []⟩)
 | _ => none⟩
structure Cs (R : Type) where
  none_ : Unit := ()
def G (g : Cs R) : Cons R := []
def H : List (Nat × Meet) := [(2, ⟨[(0, [])], []⟩), (12, ⟨[(0, []), (4, [])], []⟩), (15, ⟨[(2, []), (3, [])], []⟩), (26, ⟨[(0, []), (4, [])], []⟩), (211, ⟨[(0, []), (4, [])], []⟩), (419, ⟨[(0, [])], []⟩), (3365, ⟨[(2, []), (3, [])], []⟩)]
abbrev S1 (x1 : ByteArray) : St := mkSt [(0, .c (.s (.string x1)))] []
abbrev S2 (x1 : ByteArray) (x2 : Int) : St := mkSt [(0, .c (.s (.string x1))), (4, .c (si x2))] []
abbrev S3 (x1 x2 : ByteArray) : St := mkSt [(2, .c (.s (.string x1))), (3, .c (.s (.string x2)))] []
noncomputable abbrev V (g : Cs R) (k : Nat) (K : Kont R) (b : List Bool) (p : Nat) (st : St) : Option R := ev E (G g) k H (nodeAt (bodyOf Tryz.f75) b) p st K
noncomputable abbrev U (g : Cs R) (k : Nat) (n : Nat) (b : List Bool) : Nat → St → (St → Option R) → Kont R → Option R := evPre E (G g) k H n (nodeAt (bodyOf Tryz.f75) b)
noncomputable abbrev W (g : Cs R) (k : Nat) (b : List Bool) (p : Nat) : St → Kont R → Option R := ev E (G g) k H (nodeAt (bodyOf Tryz.f75) b) p
variable (g : Cs R) (k : Nat)
def s1 (g : Cs R) (k : Nat) (a0 : ByteArray) (j : Option R) : Option R :=
 j
theorem s1_ev (a0 : ByteArray) (X : St → Option R) (K : Kont R) : U g k 1 [] 1 (S1 a0) X K = s1 g k a0 (X (S1 a0)) := by kernel_rfl
def s2 (g : Cs R) (k : Nat) (a0 : ByteArray) (j : Int → Option R) : Option R :=
 j 0
theorem s2_ev (a0 : ByteArray) (X : St → Option R) (K : Kont R) : U g k 1 [true, false] 6 (S1 a0) X K = s2 g k a0 (fun z0 => X (S2 a0 z0)) := by kernel_rfl
def s3 (g : Cs R) (k : Nat) (a0 : ByteArray) (z1 : Int) (j : Int → Option R) (x0 : Option R) (q : ByteArray → ByteArray → Option R) : Option R :=
 cond (decide (z1 < (a0.size : Int))) (cond (decide (0 ≤ z1) && decide (z1 < (a0.size : Int))) (cond (decide ((byteAt a0 z1.toNat) = 32)) (cond (decide (0 ≤ z1) && decide (z1 ≤ (a0.size : Int))) (cond (decide (0 ≤ (IntKind.wrap .i64 (z1 + 1))) && decide ((IntKind.wrap .i64 (z1 + 1)) ≤ (a0.size : Int))) (let y1 := (a0.extract ((IntKind.wrap .i64 (z1 + 1)).toNat) a0.size); q (a0.extract 0 z1.toNat) y1) none) none) (j (IntKind.wrap .i64 (z1 + 1)))) none) (x0)
theorem s3_ev (a0 : ByteArray) (z1 : Int) (K : Kont R) : V g k K [true, false, true, false, false] 52 (S2 a0 z1) = s3 g k a0 z1 (fun z2 => K .normal (S2 a0 z2)) (K (.exit 0) (S1 a0)) (fun z3 z4 => K .ret (S3 z3 z4)) := by kernel_rfl
def l4r (g : Cs R) (k : Nat) (a0 : ByteArray) (x0 : Option R) (q : ByteArray → ByteArray → Option R) : Nat → Int → Option R
 | 0, _ => none
 | n + 1, z1 => s3 g k a0 z1 (fun z2 => l4r g k a0 x0 q n z2) (x0) (fun z3 z4 => q z3 z4)
def l4 (g : Cs R) (k : Nat) (a0 : ByteArray) (z0 : Int) (x0 : Option R) (q : ByteArray → ByteArray → Option R) : Option R := l4r g k a0 x0 q k z0
theorem l4r_ev (a0 : ByteArray) (K : Kont R) : ∀ (n : Nat) (z1 : Int), evLoop (W g k [true, false, true, false, false] 52) (atMeet H 26) K n (S2 a0 z1) = l4r g k a0 (K (.exit 0) (S1 a0)) (fun z5 z6 => K .ret (S3 z5 z6)) n z1 := by
 intro n
 induction n with
 | zero => intros; rfl
 | succ n ih =>
  intro z1
  exact Eq.trans (by kernel_rfl) ((s3_ev g k a0 z1 (loopK (W g k [true, false, true, false, false] 52) (atMeet H 26) K n)).trans (Eq.trans (by kernel_rfl) (congrArg (fun f_ => s3 g k a0 z1 f_ (K (.exit 0) (S1 a0)) (fun z3 z4 => K .ret (S3 z3 z4))) (funext fun (z2 : Int) => (ih z2)))))
theorem l4_ev (a0 : ByteArray) (z0 : Int) (K : Kont R) : V g k K [true, false, true, false] 26 (S2 a0 z0) = l4 g k a0 z0 (K (.exit 0) (S1 a0)) (fun z5 z6 => K .ret (S3 z5 z6)) :=
 Eq.trans (by kernel_rfl) (l4r_ev g k a0 K k z0)
def b5 (g : Cs R) (k : Nat) (a0 : ByteArray) (z0 : Int) (j : Option R) (q : ByteArray → ByteArray → Option R) : Option R :=
 l4 g k a0 z0 (j) (fun z5 z6 => q z5 z6)
theorem b5_ev (a0 : ByteArray) (z0 : Int) (K : Kont R) : V g k K [true, false, true] 13 (S2 a0 z0) = b5 g k a0 z0 (K .normal (S1 a0)) (fun z7 z8 => K .ret (S3 z7 z8)) :=
 Eq.trans (by kernel_rfl) ((l4_ev g k a0 z0 (blockK 0 (fun st => K .normal (atMeet H 13 st)) K)).trans (by kernel_rfl))
def c6 (g : Cs R) (k : Nat) (a0 : ByteArray) (j : Option R) (q : ByteArray → ByteArray → Option R) : Option R :=
 s2 g k a0 (fun z0 => b5 g k a0 z0 (j) (fun z7 z8 => q z7 z8))
theorem c6_ev (a0 : ByteArray) (K : Kont R) : V g k K [true, false] 6 (S1 a0) = c6 g k a0 (K .normal (S1 a0)) (fun z9 z10 => K .ret (S3 z9 z10)) :=
 (Eq.trans (by kernel_rfl) (s2_ev g k a0 (V g k K [true, false, true] 13) K)).trans (congrArg (fun f_ => s2 g k a0 f_) (funext fun (z0 : Int) => (b5_ev g k a0 z0 K)))
def s7 (g : Cs R) (k : Nat) (a0 : ByteArray) (q : ByteArray → Option R) : Option R :=
 q (ByteArray.mk #[])
theorem s7_ev (a0 : ByteArray) (K : Kont R) : V g k K [true, true] 7 (S1 a0) = s7 g k a0 (fun z11 => K .ret (S3 a0 z11)) := by kernel_rfl
def c8 (g : Cs R) (k : Nat) (a0 : ByteArray) (q : ByteArray → ByteArray → Option R) : Option R :=
 c6 g k a0 (s7 g k a0 (fun z11 => q a0 z11)) (fun z9 z10 => q z9 z10)
theorem c8_ev (a0 : ByteArray) (K : Kont R) : V g k K [true] 3 (S1 a0) = c8 g k a0 (fun z12 z13 => K .ret (S3 z12 z13)) :=
 (Eq.trans (by kernel_rfl) (c6_ev g k a0 (seqK (V g k K [true, true] 7) K))).trans (congrArg (fun f_ => c6 g k a0 f_ (fun z9 z10 => K .ret (S3 z9 z10))) (seqN (f := (V g k K [true, true] 7)) (K := K) (s7_ev g k a0 K)))
def c9 (g : Cs R) (k : Nat) (a0 : ByteArray) (q : ByteArray → ByteArray → Option R) : Option R :=
 s1 g k a0 (c8 g k a0 (fun z12 z13 => q z12 z13))
theorem c9_ev (a0 : ByteArray) (K : Kont R) : V g k K [] 1 (S1 a0) = c9 g k a0 (fun z14 z15 => K .ret (S3 z14 z15)) :=
 (Eq.trans (by kernel_rfl) (s1_ev g k a0 (V g k K [true] 3) K)).trans (congrArg (fun f_ => s1 g k a0 f_) (c8_ev g k a0 K))
def b (g : Cs R) (k : Nat) (a0 : ByteArray) (K : ByteArray → ByteArray → Option R) : Option R :=
 c9 g k a0 (fun z14 z15 => K z14 z15)
theorem evs (a0 : ByteArray) (KF : Ret → Option R) : evFunc E (G g) k H [] false Tryz.f75 [.val false [.s (.string a0)]] KF = b g k a0 (fun r1 r2 => KF ⟨[.val false [.s (.string r1)], .val false [.s (.string r2)]], []⟩) :=
 Eq.trans (by kernel_rfl) ((c9_ev g k a0 (fin E.P false Tryz.f75 [] KF)).trans (by kernel_rfl))
end spec_l3Word
namespace spec_l3Word
def g (k : Nat) : Cs R := ⟨()⟩
def c (k : Nat) : T R := b (g k) k
end spec_l3Word
/-! ### spec_l3Dec: function 76 -/
namespace spec_l3Dec
abbrev T (R : Type) : Type := ByteArray → (Int → Option R) → Option R
def con (f : T R) : Con R := ⟨[], fun args K => match args with
 | [.val false [.s (.string a0)]] => f a0 (fun r1 => K ⟨[.val false [ri r1]], []⟩)
 | _ => none⟩
structure Cs (R : Type) where
  none_ : Unit := ()
  f48 : spec_l6Dec.T R
def G (g : Cs R) : Cons R := [(48, spec_l6Dec.con g.f48)]
def H : List (Nat × Meet) := [(14, ⟨[(0, []), (3, [])], []⟩), (53, ⟨[(2, [])], []⟩), (60, ⟨[(0, []), (3, []), (4, [])], []⟩), (122, ⟨[(0, []), (3, []), (4, [])], []⟩), (127, ⟨[(2, [])], []⟩), (501, ⟨[(2, [])], []⟩), (979, ⟨[(0, []), (3, []), (4, [])], []⟩), (1955, ⟨[(0, []), (3, [])], []⟩), (31301, ⟨[(2, [])], []⟩)]
abbrev S1 (x1 : ByteArray) (x2 : Int) : St := mkSt [(0, .c (.s (.string x1))), (3, .c (si x2))] []
abbrev S2 (x1 : Int) : St := mkSt [(2, .c (si x1))] []
abbrev S3 (x1 : ByteArray) (x2 x3 : Int) : St := mkSt [(0, .c (.s (.string x1))), (3, .c (si x2)), (4, .c (si x3))] []
noncomputable abbrev V (g : Cs R) (k : Nat) (K : Kont R) (b : List Bool) (p : Nat) (st : St) : Option R := ev E (G g) k H (nodeAt (bodyOf Tryz.f76) b) p st K
noncomputable abbrev U (g : Cs R) (k : Nat) (n : Nat) (b : List Bool) : Nat → St → (St → Option R) → Kont R → Option R := evPre E (G g) k H n (nodeAt (bodyOf Tryz.f76) b)
noncomputable abbrev W (g : Cs R) (k : Nat) (b : List Bool) (p : Nat) : St → Kont R → Option R := ev E (G g) k H (nodeAt (bodyOf Tryz.f76) b) p
variable (g : Cs R) (k : Nat)
def s1 (g : Cs R) (k : Nat) (a0 : ByteArray) (j : Int → Option R) (q : Int → Option R) : Option R :=
 cond (decide ((a0.size : Int) < 1)) (q (-1)) (cond (decide ((4 : Int) < (a0.size : Int))) (q (-1)) (j 0))
theorem s1_ev (a0 : ByteArray) (X : St → Option R) (K : Kont R) : U g k 3 [] 1 (mkSt [(0, .c (.s (.string a0)))] []) X K = s1 g k a0 (fun z0 => X (S1 a0 z0)) (fun z1 => K .ret (S2 z1)) := by kernel_rfl
def s2 (g : Cs R) (k : Nat) (a0 : ByteArray) (z0 : Int) (j : Int → Option R) : Option R :=
 j 0
theorem s2_ev (a0 : ByteArray) (z0 : Int) (X : St → Option R) (K : Kont R) : U g k 1 [true, true, true, false] 30 (S1 a0 z0) X K = s2 g k a0 z0 (fun z2 => X (S3 a0 z0 z2)) := by kernel_rfl
def s3 (g : Cs R) (k : Nat) (a0 : ByteArray) (z3 z4 : Int) (j : Int → Int → Option R) (x0 : Option R) (q : Int → Option R) : Option R :=
 cond (decide (z4 < (a0.size : Int))) (cond (decide (0 ≤ z4) && decide (z4 < (a0.size : Int))) (cond (decide ((byteAt a0 z4.toNat) < 48)) (q (-1)) (cond (decide (0 ≤ z4) && decide (z4 < (a0.size : Int))) (cond (decide ((57 : Int) < (byteAt a0 z4.toNat))) (q (-1)) (cond (decide (0 ≤ z4) && decide (z4 < (a0.size : Int))) (let y1 := (IntKind.wrap .u8 ((byteAt a0 z4.toNat) - 48)); let y2 := (IntKind.wrap .i64 ((IntKind.wrap .i64 (z3 * 10)) + (IntKind.wrap .i64 (y1)))); j y2 (IntKind.wrap .i64 (z4 + 1))) none)) none)) none) (x0)
theorem s3_ev (a0 : ByteArray) (z3 z4 : Int) (K : Kont R) : V g k K [true, true, true, false, true, false, false] 244 (S3 a0 z3 z4) = s3 g k a0 z3 z4 (fun z5 z6 => K .normal (S3 a0 z5 z6)) (K (.exit 0) (S1 a0 z3)) (fun z7 => K .ret (S2 z7)) := by kernel_rfl
def l4r (g : Cs R) (k : Nat) (a0 : ByteArray) (x0 : Int → Option R) (q : Int → Option R) : Nat → Int → Int → Option R
 | 0, _, _ => none
 | n + 1, z3, z4 => s3 g k a0 z3 z4 (fun z5 z6 => l4r g k a0 x0 q n z5 z6) (x0 z3) (fun z7 => q z7)
def l4 (g : Cs R) (k : Nat) (a0 : ByteArray) (z0 z2 : Int) (x0 : Int → Option R) (q : Int → Option R) : Option R := l4r g k a0 x0 q k z0 z2
theorem l4r_ev (a0 : ByteArray) (K : Kont R) : ∀ (n : Nat) (z3 z4 : Int), evLoop (W g k [true, true, true, false, true, false, false] 244) (atMeet H 122) K n (S3 a0 z3 z4) = l4r g k a0 (fun z8 => K (.exit 0) (S1 a0 z8)) (fun z9 => K .ret (S2 z9)) n z3 z4 := by
 intro n
 induction n with
 | zero => intros; rfl
 | succ n ih =>
  intro z3 z4
  exact Eq.trans (by kernel_rfl) ((s3_ev g k a0 z3 z4 (loopK (W g k [true, true, true, false, true, false, false] 244) (atMeet H 122) K n)).trans (Eq.trans (by kernel_rfl) (congrArg (fun f_ => s3 g k a0 z3 z4 f_ (K (.exit 0) (S1 a0 z3)) (fun z7 => K .ret (S2 z7))) (funext fun (z5 : Int) => (funext fun (z6 : Int) => (ih z5 z6))))))
theorem l4_ev (a0 : ByteArray) (z0 z2 : Int) (K : Kont R) : V g k K [true, true, true, false, true, false] 122 (S3 a0 z0 z2) = l4 g k a0 z0 z2 (fun z8 => K (.exit 0) (S1 a0 z8)) (fun z9 => K .ret (S2 z9)) :=
 Eq.trans (by kernel_rfl) (l4r_ev g k a0 K k z0 z2)
def b5 (g : Cs R) (k : Nat) (a0 : ByteArray) (z0 z2 : Int) (j : Int → Option R) (q : Int → Option R) : Option R :=
 l4 g k a0 z0 z2 (fun z8 => j z8) (fun z9 => q z9)
theorem b5_ev (a0 : ByteArray) (z0 z2 : Int) (K : Kont R) : V g k K [true, true, true, false, true] 61 (S3 a0 z0 z2) = b5 g k a0 z0 z2 (fun z10 => K .normal (S1 a0 z10)) (fun z11 => K .ret (S2 z11)) :=
 Eq.trans (by kernel_rfl) ((l4_ev g k a0 z0 z2 (blockK 0 (fun st => K .normal (atMeet H 61 st)) K)).trans (by kernel_rfl))
def c6 (g : Cs R) (k : Nat) (a0 : ByteArray) (z0 : Int) (j : Int → Option R) (q : Int → Option R) : Option R :=
 s2 g k a0 z0 (fun z2 => b5 g k a0 z0 z2 (fun z10 => j z10) (fun z11 => q z11))
theorem c6_ev (a0 : ByteArray) (z0 : Int) (K : Kont R) : V g k K [true, true, true, false] 30 (S1 a0 z0) = c6 g k a0 z0 (fun z12 => K .normal (S1 a0 z12)) (fun z13 => K .ret (S2 z13)) :=
 (Eq.trans (by kernel_rfl) (s2_ev g k a0 z0 (V g k K [true, true, true, false, true] 61) K)).trans (congrArg (fun f_ => s2 g k a0 z0 f_) (funext fun (z2 : Int) => (b5_ev g k a0 z0 z2 K)))
def s7 (g : Cs R) (k : Nat) (a0 : ByteArray) (z12 : Int) (q : Int → Option R) : Option R :=
 g.f48 z12 (fun r1 => cond (!decide (r1 = a0)) (q (-1)) (q z12))
theorem s7_ev (a0 : ByteArray) (z12 : Int) (K : Kont R) : V g k K [true, true, true, true] 31 (S1 a0 z12) = s7 g k a0 z12 (fun z14 => K .ret (S2 z14)) := by kernel_rfl
def c8 (g : Cs R) (k : Nat) (a0 : ByteArray) (z0 : Int) (q : Int → Option R) : Option R :=
 c6 g k a0 z0 (fun z12 => s7 g k a0 z12 (fun z14 => q z14)) (fun z13 => q z13)
theorem c8_ev (a0 : ByteArray) (z0 : Int) (K : Kont R) : V g k K [true, true, true] 15 (S1 a0 z0) = c8 g k a0 z0 (fun z15 => K .ret (S2 z15)) :=
 (Eq.trans (by kernel_rfl) (c6_ev g k a0 z0 (seqK (V g k K [true, true, true, true] 31) K))).trans (congrArg (fun f_ => c6 g k a0 z0 f_ (fun z13 => K .ret (S2 z13))) (funext fun (z12 : Int) => (seqN (f := (V g k K [true, true, true, true] 31)) (K := K) (s7_ev g k a0 z12 K))))
def c9 (g : Cs R) (k : Nat) (a0 : ByteArray) (q : Int → Option R) : Option R :=
 s1 g k a0 (fun z0 => c8 g k a0 z0 (fun z15 => q z15)) (fun z1 => q z1)
theorem c9_ev (a0 : ByteArray) (K : Kont R) : V g k K [] 1 (mkSt [(0, .c (.s (.string a0)))] []) = c9 g k a0 (fun z16 => K .ret (S2 z16)) :=
 (Eq.trans (by kernel_rfl) (s1_ev g k a0 (V g k K [true, true, true] 15) K)).trans (congrArg (fun f_ => s1 g k a0 f_ (fun z1 => K .ret (S2 z1))) (funext fun (z0 : Int) => (c8_ev g k a0 z0 K)))
def b (g : Cs R) (k : Nat) (a0 : ByteArray) (K : Int → Option R) : Option R :=
 c9 g k a0 (fun z16 => K z16)
theorem evs (a0 : ByteArray) (KF : Ret → Option R) : evFunc E (G g) k H [] false Tryz.f76 [.val false [.s (.string a0)]] KF = b g k a0 (fun r1 => KF ⟨[.val false [ri r1]], []⟩) :=
 Eq.trans (by kernel_rfl) ((c9_ev g k a0 (fin E.P false Tryz.f76 [] KF)).trans (by kernel_rfl))
end spec_l3Dec
namespace spec_l3Dec
def g (k : Nat) : Cs R := ⟨(), spec_l6Dec.c k⟩
def c (k : Nat) : T R := b (g k) k
end spec_l3Dec
/-! ### spec_l12Time: function 77 -/
namespace spec_l12Time
abbrev T (R : Type) : Type := Int → Int → Int → (L5) → (L3) → (L5) → Int → (Int → Int → Int → (L5) → (L3) → (L5) → Option R) → Option R
def con (f : T R) : Con R := ⟨[], fun args K => match args with
 | [.val true [.s (.int .i64 A), .s (.int .i64 B), .s (.int .i64 C), D, F, J], .val false [.s (.int .i64 a1)]] => withRow q5 D fun M => withRow q3 F fun N => withRow q5 J fun O => f A B C M N O a1 (fun r1 r2 r3 r4 r5 r6 => K ⟨[.val true [ri r1, ri r2, ri r3, .row .own q5 r4, .row .own q3 r5, .row .ro q5 r6]], []⟩)
 | _ => none⟩
structure Cs (R : Type) where
  none_ : Unit := ()
def G (g : Cs R) : Cons R := []
def H : List (Nat × Meet) := [(6, ⟨[(1, []), (2, [(3, q5), (4, q3), (5, q5)]), (4, [(3, q5), (4, q3), (5, q5)]), (5, [(0, q5)])], []⟩), (28, ⟨[(1, []), (2, [(3, q5), (4, q3), (5, q5)]), (4, [(3, q5), (4, q3), (5, q5)]), (5, [(0, q5)]), (6, [])], []⟩), (30, ⟨[(1, []), (2, [(3, q5), (4, q3), (5, q5)]), (4, [(3, q5), (4, q3), (5, q5)]), (5, [(0, q5)]), (7, [(0, q3)])], []⟩), (58, ⟨[(1, []), (2, [(3, q5), (4, q3), (5, q5)]), (4, [(3, q5), (4, q3), (5, q5)]), (5, [(0, q5)]), (6, [])], []⟩), (124, ⟨[(1, []), (2, [(3, q5), (4, q3), (5, q5)]), (4, [(3, q5), (4, q3), (5, q5)]), (5, [(0, q5)]), (7, [(0, q3)]), (8, [])], []⟩), (250, ⟨[(1, []), (2, [(3, q5), (4, q3), (5, q5)]), (4, [(3, q5), (4, q3), (5, q5)]), (5, [(0, q5)]), (7, [(0, q3)]), (8, [])], []⟩), (467, ⟨[(1, []), (2, [(3, q5), (4, q3), (5, q5)]), (4, [(3, q5), (4, q3), (5, q5)]), (5, [(0, q5)]), (6, [])], []⟩), (931, ⟨[(1, []), (2, [(3, q5), (4, q3), (5, q5)]), (4, [(3, q5), (4, q3), (5, q5)]), (5, [(0, q5)])], []⟩), (1023, ⟨[(4, [(3, q5), (4, q3), (5, q5)])], []⟩), (2003, ⟨[(1, []), (2, [(3, q5), (4, q3), (5, q5)]), (4, [(3, q5), (4, q3), (5, q5)]), (5, [(0, q5)]), (7, [(0, q3)]), (8, [])], []⟩), (4003, ⟨[(1, []), (2, [(3, q5), (4, q3), (5, q5)]), (4, [(3, q5), (4, q3), (5, q5)]), (5, [(0, q5)]), (7, [(0, q3)])], []⟩)]
abbrev S1 (x1 x2 x3 x4 : Int) (x5 : L5) (x6 : L3) (x7 : L5) : St := mkSt [(0, .agg [si x1, si x2, si x3, .sl 3, .sl 4, .sl 5]), (1, .c (si x4))] [(3, .row .ro q5 x5), (4, .row .ro q3 x6), (5, .row .ro q5 x7)]
abbrev S2 (x1 x2 x3 x4 x5 x6 x7 : Int) (x8 x9 : L5) (x10 : L3) (x11 x12 : L5) (x13 : L3) (x14 : L5) : St := mkSt [(1, .c (si x1)), (2, .c (.ptr 9002 0 0)), (4, .c (.ptr 9004 0 0)), (5, .c (.sl 9005))] [(9002, .box [si x2, si x3, si x4, .sl 3, .sl 4, .sl 5]), (9004, .box [si x5, si x6, si x7, .sl 1039004, .sl 1049004, .sl 1059004]), (9005, .row .own q5 x8), (3, .row .ro q5 x9), (4, .row .ro q3 x10), (5, .row .ro q5 x11), (1039004, .row .own q5 x12), (1049004, .row .own q3 x13), (1059004, .row .own q5 x14)]
abbrev S3 (x1 x2 x3 x4 x5 x6 x7 x8 : Int) (x9 x10 : L5) (x11 : L3) (x12 x13 : L5) (x14 : L3) (x15 : L5) : St := mkSt [(1, .c (si x1)), (2, .c (.ptr 9002 0 0)), (4, .c (.ptr 9004 0 0)), (5, .c (.sl 9005)), (6, .c (si x2))] [(9002, .box [si x3, si x4, si x5, .sl 3, .sl 4, .sl 5]), (9004, .box [si x6, si x7, si x8, .sl 1039004, .sl 1049004, .sl 1059004]), (9005, .row .own q5 x9), (3, .row .ro q5 x10), (4, .row .ro q3 x11), (5, .row .ro q5 x12), (1039004, .row .own q5 x13), (1049004, .row .own q3 x14), (1059004, .row .own q5 x15)]
abbrev S4 (x1 x2 x3 x4 x5 x6 x7 : Int) (x8 : L5) (x9 : L3) (x10 : L5) (x11 : L3) (x12 x13 : L5) (x14 : L3) (x15 : L5) : St := mkSt [(1, .c (si x1)), (2, .c (.ptr 9002 0 0)), (4, .c (.ptr 9004 0 0)), (5, .c (.sl 9005)), (7, .c (.sl 9007))] [(9002, .box [si x2, si x3, si x4, .sl 3, .sl 4, .sl 5]), (9004, .box [si x5, si x6, si x7, .sl 1039004, .sl 1049004, .sl 1059004]), (9005, .row .own q5 x8), (9007, .row .own q3 x9), (3, .row .ro q5 x10), (4, .row .ro q3 x11), (5, .row .ro q5 x12), (1039004, .row .own q5 x13), (1049004, .row .own q3 x14), (1059004, .row .own q5 x15)]
abbrev S5 (x1 x2 x3 x4 x5 x6 x7 x8 : Int) (x9 : L5) (x10 : L3) (x11 : L5) (x12 : L3) (x13 x14 : L5) (x15 : L3) (x16 : L5) : St := mkSt [(1, .c (si x1)), (2, .c (.ptr 9002 0 0)), (4, .c (.ptr 9004 0 0)), (5, .c (.sl 9005)), (7, .c (.sl 9007)), (8, .c (si x2))] [(9002, .box [si x3, si x4, si x5, .sl 3, .sl 4, .sl 5]), (9004, .box [si x6, si x7, si x8, .sl 1039004, .sl 1049004, .sl 1059004]), (9005, .row .own q5 x9), (9007, .row .own q3 x10), (3, .row .ro q5 x11), (4, .row .ro q3 x12), (5, .row .ro q5 x13), (1039004, .row .own q5 x14), (1049004, .row .own q3 x15), (1059004, .row .own q5 x16)]
abbrev S6 (x1 x2 x3 : Int) (x4 : L5) (x5 : L3) (x6 : L5) : St := mkSt [(4, .c (.ptr 9004 0 0))] [(9004, .box [si x1, si x2, si x3, .sl 1039004, .sl 1049004, .sl 5]), (1039004, .row .own q5 x4), (1049004, .row .own q3 x5), (5, .row .ro q5 x6)]
noncomputable abbrev V (g : Cs R) (k : Nat) (K : Kont R) (b : List Bool) (p : Nat) (st : St) : Option R := ev E (G g) k H (nodeAt (bodyOf Tryz.f77) b) p st K
noncomputable abbrev U (g : Cs R) (k : Nat) (n : Nat) (b : List Bool) : Nat → St → (St → Option R) → Kont R → Option R := evPre E (G g) k H n (nodeAt (bodyOf Tryz.f77) b)
noncomputable abbrev W (g : Cs R) (k : Nat) (b : List Bool) (p : Nat) : St → Kont R → Option R := ev E (G g) k H (nodeAt (bodyOf Tryz.f77) b) p
variable (g : Cs R) (k : Nat)
def s1 (g : Cs R) (k : Nat) (A B C a1 : Int) (D : L5) (F : L3) (J : L5) (j : Int → Int → Int → (L5) → (L5) → (L3) → (L5) → Option R) : Option R :=
 j 0 0 0 ([] : L5) [] [] []
theorem s1_ev (A B C a1 : Int) (D : L5) (F : L3) (J : L5) (X : St → Option R) (K : Kont R) : U g k 2 [] 1 (S1 A B C a1 D F J) X K = s1 g k A B C a1 D F J (fun z0 z1 z2 z3 z4 z5 z6 => X (S2 a1 A B C z0 z1 z2 z3 D F J z4 z5 z6)) := by kernel_rfl
def s2 (g : Cs R) (k : Nat) (a1 A B C z0 z1 z2 : Int) (z3 D : L5) (F : L3) (J z4 : L5) (z5 : L3) (z6 : L5) (j : Int → Option R) : Option R :=
 j 0
theorem s2_ev (a1 A B C z0 z1 z2 : Int) (z3 D : L5) (F : L3) (J z4 : L5) (z5 : L3) (z6 : L5) (X : St → Option R) (K : Kont R) : U g k 1 [true, true, false] 14 (S2 a1 A B C z0 z1 z2 z3 D F J z4 z5 z6) X K = s2 g k a1 A B C z0 z1 z2 z3 D F J z4 z5 z6 (fun z7 => X (S3 a1 z7 A B C z0 z1 z2 z3 D F J z4 z5 z6)) := by kernel_rfl
def s3 (g : Cs R) (k : Nat) (a1 z8 B C D z0 z1 z2 : Int) (z9 A : L5) (F : L3) (J z4 : L5) (z5 : L3) (z6 : L5) (j : Int → (L5) → Option R) (x0 : Option R) : Option R :=
 cond (decide (z8 < (A.length : Int))) (cond (decide (0 ≤ z8) && decide (z8 < (A.length : Int))) (let y1 := (A.getD z8.toNat n5).2.2.2.1; cond (decide (a1 < y1)) (cond (decide (0 ≤ z8) && decide (z8 < (A.length : Int))) (let y2 := ([((A.getD z8.toNat n5).1, (A.getD z8.toNat n5).2.1, (A.getD z8.toNat n5).2.2.1, (A.getD z8.toNat n5).2.2.2.1, (A.getD z8.toNat n5).2.2.2.2)] : L5); cond (Nat.ble (z9.length + y2.length) lim) (j (IntKind.wrap .i64 (z8 + 1)) (z9 ++ y2)) none) none) (j (IntKind.wrap .i64 (z8 + 1)) z9)) none) (x0)
theorem s3_ev (a1 z8 A B C z0 z1 z2 : Int) (z9 D : L5) (F : L3) (J z4 : L5) (z5 : L3) (z6 : L5) (K : Kont R) : V g k K [true, true, false, true, false, false] 116 (S3 a1 z8 A B C z0 z1 z2 z9 D F J z4 z5 z6) = s3 g k a1 z8 A B C z0 z1 z2 z9 D F J z4 z5 z6 (fun z10 z11 => K .normal (S3 a1 z10 A B C z0 z1 z2 z11 D F J z4 z5 z6)) (K (.exit 0) (S2 a1 A B C z0 z1 z2 z9 D F J z4 z5 z6)) := by kernel_rfl
def l4r (g : Cs R) (k : Nat) (a1 A B C z0 z1 z2 : Int) (D : L5) (F : L3) (J z4 : L5) (z5 : L3) (z6 : L5) (x0 : (L5) → Option R) : Nat → Int → (L5) → Option R
 | 0, _, _ => none
 | n + 1, z8, z9 => s3 g k a1 z8 A B C z0 z1 z2 z9 D F J z4 z5 z6 (fun z10 z11 => l4r g k a1 A B C z0 z1 z2 D F J z4 z5 z6 x0 n z10 z11) (x0 z9)
def l4 (g : Cs R) (k : Nat) (a1 z7 A B C z0 z1 z2 : Int) (z3 D : L5) (F : L3) (J z4 : L5) (z5 : L3) (z6 : L5) (x0 : (L5) → Option R) : Option R := l4r g k a1 A B C z0 z1 z2 D F J z4 z5 z6 x0 k z7 z3
theorem l4r_ev (a1 A B C z0 z1 z2 : Int) (D : L5) (F : L3) (J z4 : L5) (z5 : L3) (z6 : L5) (K : Kont R) : ∀ (n : Nat) (z8 : Int) (z9 : L5), evLoop (W g k [true, true, false, true, false, false] 116) (atMeet H 58) K n (S3 a1 z8 A B C z0 z1 z2 z9 D F J z4 z5 z6) = l4r g k a1 A B C z0 z1 z2 D F J z4 z5 z6 (fun z12 => K (.exit 0) (S2 a1 A B C z0 z1 z2 z12 D F J z4 z5 z6)) n z8 z9 := by
 intro n
 induction n with
 | zero => intros; rfl
 | succ n ih =>
  intro z8 z9
  exact Eq.trans (by kernel_rfl) ((s3_ev g k a1 z8 A B C z0 z1 z2 z9 D F J z4 z5 z6 (loopK (W g k [true, true, false, true, false, false] 116) (atMeet H 58) K n)).trans (Eq.trans (by kernel_rfl) (congrArg (fun f_ => s3 g k a1 z8 A B C z0 z1 z2 z9 D F J z4 z5 z6 f_ (K (.exit 0) (S2 a1 A B C z0 z1 z2 z9 D F J z4 z5 z6))) (funext fun (z10 : Int) => (funext fun (z11 : L5) => (ih z10 z11))))))
theorem l4_ev (a1 z7 A B C z0 z1 z2 : Int) (z3 D : L5) (F : L3) (J z4 : L5) (z5 : L3) (z6 : L5) (K : Kont R) : V g k K [true, true, false, true, false] 58 (S3 a1 z7 A B C z0 z1 z2 z3 D F J z4 z5 z6) = l4 g k a1 z7 A B C z0 z1 z2 z3 D F J z4 z5 z6 (fun z12 => K (.exit 0) (S2 a1 A B C z0 z1 z2 z12 D F J z4 z5 z6)) :=
 Eq.trans (by kernel_rfl) (l4r_ev g k a1 A B C z0 z1 z2 D F J z4 z5 z6 K k z7 z3)
def b5 (g : Cs R) (k : Nat) (a1 z7 A B C z0 z1 z2 : Int) (z3 D : L5) (F : L3) (J z4 : L5) (z5 : L3) (z6 : L5) (j : (L5) → Option R) : Option R :=
 l4 g k a1 z7 A B C z0 z1 z2 z3 D F J z4 z5 z6 (fun z12 => j z12)
theorem b5_ev (a1 z7 A B C z0 z1 z2 : Int) (z3 D : L5) (F : L3) (J z4 : L5) (z5 : L3) (z6 : L5) (K : Kont R) : V g k K [true, true, false, true] 29 (S3 a1 z7 A B C z0 z1 z2 z3 D F J z4 z5 z6) = b5 g k a1 z7 A B C z0 z1 z2 z3 D F J z4 z5 z6 (fun z13 => K .normal (S2 a1 A B C z0 z1 z2 z13 D F J z4 z5 z6)) :=
 Eq.trans (by kernel_rfl) ((l4_ev g k a1 z7 A B C z0 z1 z2 z3 D F J z4 z5 z6 (blockK 0 (fun st => K .normal (atMeet H 29 st)) K)).trans (by kernel_rfl))
def c6 (g : Cs R) (k : Nat) (a1 A B C z0 z1 z2 : Int) (z3 D : L5) (F : L3) (J z4 : L5) (z5 : L3) (z6 : L5) (j : (L5) → Option R) : Option R :=
 s2 g k a1 A B C z0 z1 z2 z3 D F J z4 z5 z6 (fun z7 => b5 g k a1 z7 A B C z0 z1 z2 z3 D F J z4 z5 z6 (fun z13 => j z13))
theorem c6_ev (a1 A B C z0 z1 z2 : Int) (z3 D : L5) (F : L3) (J z4 : L5) (z5 : L3) (z6 : L5) (K : Kont R) : V g k K [true, true, false] 14 (S2 a1 A B C z0 z1 z2 z3 D F J z4 z5 z6) = c6 g k a1 A B C z0 z1 z2 z3 D F J z4 z5 z6 (fun z14 => K .normal (S2 a1 A B C z0 z1 z2 z14 D F J z4 z5 z6)) :=
 (Eq.trans (by kernel_rfl) (s2_ev g k a1 A B C z0 z1 z2 z3 D F J z4 z5 z6 (V g k K [true, true, false, true] 29) K)).trans (congrArg (fun f_ => s2 g k a1 A B C z0 z1 z2 z3 D F J z4 z5 z6 f_) (funext fun (z7 : Int) => (b5_ev g k a1 z7 A B C z0 z1 z2 z3 D F J z4 z5 z6 K)))
def s7 (g : Cs R) (k : Nat) (a1 A B C z0 z1 z2 : Int) (z14 D : L5) (F : L3) (J z4 : L5) (z5 : L3) (z6 : L5) (j : (L3) → Option R) : Option R :=
 j ([] : L3)
theorem s7_ev (a1 A B C z0 z1 z2 : Int) (z14 D : L5) (F : L3) (J z4 : L5) (z5 : L3) (z6 : L5) (X : St → Option R) (K : Kont R) : U g k 1 [true, true, true] 15 (S2 a1 A B C z0 z1 z2 z14 D F J z4 z5 z6) X K = s7 g k a1 A B C z0 z1 z2 z14 D F J z4 z5 z6 (fun z15 => X (S4 a1 A B C z0 z1 z2 z14 z15 D F J z4 z5 z6)) := by kernel_rfl
def s8 (g : Cs R) (k : Nat) (a1 A B C z0 z1 z2 : Int) (z14 : L5) (z15 : L3) (D : L5) (F : L3) (J z4 : L5) (z5 : L3) (z6 : L5) (j : Int → Option R) : Option R :=
 j 0
theorem s8_ev (a1 A B C z0 z1 z2 : Int) (z14 : L5) (z15 : L3) (D : L5) (F : L3) (J z4 : L5) (z5 : L3) (z6 : L5) (X : St → Option R) (K : Kont R) : U g k 1 [true, true, true, true, false] 62 (S4 a1 A B C z0 z1 z2 z14 z15 D F J z4 z5 z6) X K = s8 g k a1 A B C z0 z1 z2 z14 z15 D F J z4 z5 z6 (fun z16 => X (S5 a1 z16 A B C z0 z1 z2 z14 z15 D F J z4 z5 z6)) := by kernel_rfl
def s9 (g : Cs R) (k : Nat) (a1 z17 B C D z0 z1 z2 : Int) (z14 : L5) (z18 : L3) (F : L5) (A : L3) (J z4 : L5) (z5 : L3) (z6 : L5) (j : Int → (L3) → Option R) (x2 : Option R) : Option R :=
 cond (decide (z17 < (A.length : Int))) (cond (decide (0 ≤ z17) && decide (z17 < (A.length : Int))) (let y1 := (A.getD z17.toNat n3).2.2; cond (decide (a1 < y1)) (cond (decide (0 ≤ z17) && decide (z17 < (A.length : Int))) (let y2 := ([((A.getD z17.toNat n3).1, (A.getD z17.toNat n3).2.1, (A.getD z17.toNat n3).2.2)] : L3); cond (Nat.ble (z18.length + y2.length) lim) (j (IntKind.wrap .i64 (z17 + 1)) (z18 ++ y2)) none) none) (j (IntKind.wrap .i64 (z17 + 1)) z18)) none) (x2)
theorem s9_ev (a1 z17 A B C z0 z1 z2 : Int) (z14 : L5) (z18 : L3) (D : L5) (F : L3) (J z4 : L5) (z5 : L3) (z6 : L5) (K : Kont R) : V g k K [true, true, true, true, false, true, false, false] 500 (S5 a1 z17 A B C z0 z1 z2 z14 z18 D F J z4 z5 z6) = s9 g k a1 z17 A B C z0 z1 z2 z14 z18 D F J z4 z5 z6 (fun z19 z20 => K .normal (S5 a1 z19 A B C z0 z1 z2 z14 z20 D F J z4 z5 z6)) (K (.exit 2) (S4 a1 A B C z0 z1 z2 z14 z18 D F J z4 z5 z6)) := by kernel_rfl
def l10r (g : Cs R) (k : Nat) (a1 A B C z0 z1 z2 : Int) (z14 D : L5) (F : L3) (J z4 : L5) (z5 : L3) (z6 : L5) (x2 : (L3) → Option R) : Nat → Int → (L3) → Option R
 | 0, _, _ => none
 | n + 1, z17, z18 => s9 g k a1 z17 A B C z0 z1 z2 z14 z18 D F J z4 z5 z6 (fun z19 z20 => l10r g k a1 A B C z0 z1 z2 z14 D F J z4 z5 z6 x2 n z19 z20) (x2 z18)
def l10 (g : Cs R) (k : Nat) (a1 z16 A B C z0 z1 z2 : Int) (z14 : L5) (z15 : L3) (D : L5) (F : L3) (J z4 : L5) (z5 : L3) (z6 : L5) (x2 : (L3) → Option R) : Option R := l10r g k a1 A B C z0 z1 z2 z14 D F J z4 z5 z6 x2 k z16 z15
theorem l10r_ev (a1 A B C z0 z1 z2 : Int) (z14 D : L5) (F : L3) (J z4 : L5) (z5 : L3) (z6 : L5) (K : Kont R) : ∀ (n : Nat) (z17 : Int) (z18 : L3), evLoop (W g k [true, true, true, true, false, true, false, false] 500) (atMeet H 250) K n (S5 a1 z17 A B C z0 z1 z2 z14 z18 D F J z4 z5 z6) = l10r g k a1 A B C z0 z1 z2 z14 D F J z4 z5 z6 (fun z21 => K (.exit 2) (S4 a1 A B C z0 z1 z2 z14 z21 D F J z4 z5 z6)) n z17 z18 := by
 intro n
 induction n with
 | zero => intros; rfl
 | succ n ih =>
  intro z17 z18
  exact Eq.trans (by kernel_rfl) ((s9_ev g k a1 z17 A B C z0 z1 z2 z14 z18 D F J z4 z5 z6 (loopK (W g k [true, true, true, true, false, true, false, false] 500) (atMeet H 250) K n)).trans (Eq.trans (by kernel_rfl) (congrArg (fun f_ => s9 g k a1 z17 A B C z0 z1 z2 z14 z18 D F J z4 z5 z6 f_ (K (.exit 2) (S4 a1 A B C z0 z1 z2 z14 z18 D F J z4 z5 z6))) (funext fun (z19 : Int) => (funext fun (z20 : L3) => (ih z19 z20))))))
theorem l10_ev (a1 z16 A B C z0 z1 z2 : Int) (z14 : L5) (z15 : L3) (D : L5) (F : L3) (J z4 : L5) (z5 : L3) (z6 : L5) (K : Kont R) : V g k K [true, true, true, true, false, true, false] 250 (S5 a1 z16 A B C z0 z1 z2 z14 z15 D F J z4 z5 z6) = l10 g k a1 z16 A B C z0 z1 z2 z14 z15 D F J z4 z5 z6 (fun z21 => K (.exit 2) (S4 a1 A B C z0 z1 z2 z14 z21 D F J z4 z5 z6)) :=
 Eq.trans (by kernel_rfl) (l10r_ev g k a1 A B C z0 z1 z2 z14 D F J z4 z5 z6 K k z16 z15)
def b11 (g : Cs R) (k : Nat) (a1 z16 A B C z0 z1 z2 : Int) (z14 : L5) (z15 : L3) (D : L5) (F : L3) (J z4 : L5) (z5 : L3) (z6 : L5) (j : (L3) → Option R) : Option R :=
 l10 g k a1 z16 A B C z0 z1 z2 z14 z15 D F J z4 z5 z6 (fun z21 => j z21)
theorem b11_ev (a1 z16 A B C z0 z1 z2 : Int) (z14 : L5) (z15 : L3) (D : L5) (F : L3) (J z4 : L5) (z5 : L3) (z6 : L5) (K : Kont R) : V g k K [true, true, true, true, false, true] 125 (S5 a1 z16 A B C z0 z1 z2 z14 z15 D F J z4 z5 z6) = b11 g k a1 z16 A B C z0 z1 z2 z14 z15 D F J z4 z5 z6 (fun z22 => K .normal (S4 a1 A B C z0 z1 z2 z14 z22 D F J z4 z5 z6)) :=
 Eq.trans (by kernel_rfl) ((l10_ev g k a1 z16 A B C z0 z1 z2 z14 z15 D F J z4 z5 z6 (blockK 2 (fun st => K .normal (atMeet H 125 st)) K)).trans (by kernel_rfl))
def c12 (g : Cs R) (k : Nat) (a1 A B C z0 z1 z2 : Int) (z14 : L5) (z15 : L3) (D : L5) (F : L3) (J z4 : L5) (z5 : L3) (z6 : L5) (j : (L3) → Option R) : Option R :=
 s8 g k a1 A B C z0 z1 z2 z14 z15 D F J z4 z5 z6 (fun z16 => b11 g k a1 z16 A B C z0 z1 z2 z14 z15 D F J z4 z5 z6 (fun z22 => j z22))
theorem c12_ev (a1 A B C z0 z1 z2 : Int) (z14 : L5) (z15 : L3) (D : L5) (F : L3) (J z4 : L5) (z5 : L3) (z6 : L5) (K : Kont R) : V g k K [true, true, true, true, false] 62 (S4 a1 A B C z0 z1 z2 z14 z15 D F J z4 z5 z6) = c12 g k a1 A B C z0 z1 z2 z14 z15 D F J z4 z5 z6 (fun z23 => K .normal (S4 a1 A B C z0 z1 z2 z14 z23 D F J z4 z5 z6)) :=
 (Eq.trans (by kernel_rfl) (s8_ev g k a1 A B C z0 z1 z2 z14 z15 D F J z4 z5 z6 (V g k K [true, true, true, true, false, true] 125) K)).trans (congrArg (fun f_ => s8 g k a1 A B C z0 z1 z2 z14 z15 D F J z4 z5 z6 f_) (funext fun (z16 : Int) => (b11_ev g k a1 z16 A B C z0 z1 z2 z14 z15 D F J z4 z5 z6 K)))
def s13 (g : Cs R) (k : Nat) (a1 A B C z0 z1 z2 : Int) (z14 : L5) (z23 : L3) (D : L5) (F : L3) (J z4 : L5) (z5 : L3) (z6 : L5) (q : Option R) : Option R :=
 q
theorem s13_ev (a1 A D B z0 z1 z2 : Int) (z14 : L5) (z23 : L3) (F : L5) (J : L3) (C z4 : L5) (z5 : L3) (z6 : L5) (K : Kont R) : V g k K [true, true, true, true, true] 63 (S4 a1 A D B z0 z1 z2 z14 z23 F J C z4 z5 z6) = s13 g k a1 A D B z0 z1 z2 z14 z23 F J C z4 z5 z6 (K .ret (S6 A a1 B z14 z23 C)) := by kernel_rfl
def c14 (g : Cs R) (k : Nat) (a1 A B C z0 z1 z2 : Int) (z14 : L5) (z15 : L3) (D : L5) (F : L3) (J z4 : L5) (z5 : L3) (z6 : L5) (q : (L3) → Option R) : Option R :=
 c12 g k a1 A B C z0 z1 z2 z14 z15 D F J z4 z5 z6 (fun z23 => s13 g k a1 A B C z0 z1 z2 z14 z23 D F J z4 z5 z6 (q z23))
theorem c14_ev (a1 A D B z0 z1 z2 : Int) (z14 : L5) (z15 : L3) (F : L5) (J : L3) (C z4 : L5) (z5 : L3) (z6 : L5) (K : Kont R) : V g k K [true, true, true, true] 31 (S4 a1 A D B z0 z1 z2 z14 z15 F J C z4 z5 z6) = c14 g k a1 A D B z0 z1 z2 z14 z15 F J C z4 z5 z6 (fun z24 => K .ret (S6 A a1 B z14 z24 C)) :=
 (Eq.trans (by kernel_rfl) (c12_ev g k a1 A D B z0 z1 z2 z14 z15 F J C z4 z5 z6 (seqK (V g k K [true, true, true, true, true] 63) K))).trans (congrArg (fun f_ => c12 g k a1 A D B z0 z1 z2 z14 z15 F J C z4 z5 z6 f_) (funext fun (z23 : L3) => (seqN (f := (V g k K [true, true, true, true, true] 63)) (K := K) (s13_ev g k a1 A D B z0 z1 z2 z14 z23 F J C z4 z5 z6 K))))
def c15 (g : Cs R) (k : Nat) (a1 A B C z0 z1 z2 : Int) (z14 D : L5) (F : L3) (J z4 : L5) (z5 : L3) (z6 : L5) (q : (L3) → Option R) : Option R :=
 s7 g k a1 A B C z0 z1 z2 z14 D F J z4 z5 z6 (fun z15 => c14 g k a1 A B C z0 z1 z2 z14 z15 D F J z4 z5 z6 (fun z24 => q z24))
theorem c15_ev (a1 A D B z0 z1 z2 : Int) (z14 F : L5) (J : L3) (C z4 : L5) (z5 : L3) (z6 : L5) (K : Kont R) : V g k K [true, true, true] 15 (S2 a1 A D B z0 z1 z2 z14 F J C z4 z5 z6) = c15 g k a1 A D B z0 z1 z2 z14 F J C z4 z5 z6 (fun z25 => K .ret (S6 A a1 B z14 z25 C)) :=
 (Eq.trans (by kernel_rfl) (s7_ev g k a1 A D B z0 z1 z2 z14 F J C z4 z5 z6 (V g k K [true, true, true, true] 31) K)).trans (congrArg (fun f_ => s7 g k a1 A D B z0 z1 z2 z14 F J C z4 z5 z6 f_) (funext fun (z15 : L3) => (c14_ev g k a1 A D B z0 z1 z2 z14 z15 F J C z4 z5 z6 K)))
def c16 (g : Cs R) (k : Nat) (a1 A B C z0 z1 z2 : Int) (z3 D : L5) (F : L3) (J z4 : L5) (z5 : L3) (z6 : L5) (q : (L5) → (L3) → Option R) : Option R :=
 c6 g k a1 A B C z0 z1 z2 z3 D F J z4 z5 z6 (fun z14 => c15 g k a1 A B C z0 z1 z2 z14 D F J z4 z5 z6 (fun z25 => q z14 z25))
theorem c16_ev (a1 A D B z0 z1 z2 : Int) (z3 F : L5) (J : L3) (C z4 : L5) (z5 : L3) (z6 : L5) (K : Kont R) : V g k K [true, true] 7 (S2 a1 A D B z0 z1 z2 z3 F J C z4 z5 z6) = c16 g k a1 A D B z0 z1 z2 z3 F J C z4 z5 z6 (fun z26 z27 => K .ret (S6 A a1 B z26 z27 C)) :=
 (Eq.trans (by kernel_rfl) (c6_ev g k a1 A D B z0 z1 z2 z3 F J C z4 z5 z6 (seqK (V g k K [true, true, true] 15) K))).trans (congrArg (fun f_ => c6 g k a1 A D B z0 z1 z2 z3 F J C z4 z5 z6 f_) (funext fun (z14 : L5) => (seqN (f := (V g k K [true, true, true] 15)) (K := K) (c15_ev g k a1 A D B z0 z1 z2 z14 F J C z4 z5 z6 K))))
def c17 (g : Cs R) (k : Nat) (A B C a1 : Int) (D : L5) (F : L3) (J : L5) (q : (L5) → (L3) → Option R) : Option R :=
 s1 g k A B C a1 D F J (fun z0 z1 z2 z3 z4 z5 z6 => c16 g k a1 A B C z0 z1 z2 z3 D F J z4 z5 z6 (fun z26 z27 => q z26 z27))
theorem c17_ev (A D B a1 : Int) (F : L5) (J : L3) (C : L5) (K : Kont R) : V g k K [] 1 (S1 A D B a1 F J C) = c17 g k A D B a1 F J C (fun z28 z29 => K .ret (S6 A a1 B z28 z29 C)) :=
 (Eq.trans (by kernel_rfl) (s1_ev g k A D B a1 F J C (V g k K [true, true] 7) K)).trans (congrArg (fun f_ => s1 g k A D B a1 F J C f_) (funext fun (z0 : Int) => (funext fun (z1 : Int) => (funext fun (z2 : Int) => (funext fun (z3 : L5) => (funext fun (z4 : L5) => (funext fun (z5 : L3) => (funext fun (z6 : L5) => (c16_ev g k a1 A D B z0 z1 z2 z3 F J C z4 z5 z6 K)))))))))
def b (g : Cs R) (k : Nat) (A D B : Int) (F : L5) (J : L3) (C : L5) (a1 : Int) (K : Int → Int → Int → (L5) → (L3) → (L5) → Option R) : Option R :=
 c17 g k A D B a1 F J C (fun z28 z29 => K A a1 B z28 z29 C)
theorem evs (A B C : Int) (D : L5) (F : L3) (J : L5) (a1 : Int) (KF : Ret → Option R) : evFunc E (G g) k H [] false Tryz.f77 [.val true [ri A, ri B, ri C, .row .ro q5 D, .row .ro q3 F, .row .ro q5 J], .val false [ri a1]] KF = b g k A B C D F J a1 (fun r1 r2 r3 r4 r5 r6 => KF ⟨[.val true [ri r1, ri r2, ri r3, .row .own q5 r4, .row .own q3 r5, .row .ro q5 r6]], []⟩) :=
 Eq.trans (by kernel_rfl) ((c17_ev g k A B C a1 D F J (fin E.P false Tryz.f77 [] KF)).trans (by kernel_rfl))
end spec_l12Time
namespace spec_l12Time
def g (k : Nat) : Cs R := ⟨()⟩
def c (k : Nat) : T R := b (g k) k
end spec_l12Time
/-! ### spec_NoteWrite: function 49 -/
namespace spec_NoteWrite
abbrev T (R : Type) : Type := Int → Int → Int → Int → ByteArray → (ByteArray → Option R) → Option R
def con (f : T R) : Con R := ⟨[], fun args K => match args with
 | [.val true [.s (.int .i64 A), .s (.int .i64 B), .s (.int .i64 C), .s (.int .i64 D), .s (.string F)]] => f A B C D F (fun r1 => K ⟨[.val false [.s (.string r1)]], []⟩)
 | _ => none⟩
structure Cs (R : Type) where
  none_ : Unit := ()
  f90 : spec_NoteOk.T R
  f48 : spec_l6Dec.T R
def G (g : Cs R) : Cons R := [(90, spec_NoteOk.con g.f90), (48, spec_l6Dec.con g.f48)]
def H : List (Nat × Meet) := []
variable (g : Cs R) (k : Nat)
def b (g : Cs R) (k : Nat) (B C D F : Int) (A : ByteArray) (K : ByteArray → Option R) : Option R :=
 g.f90 B C D F A (fun r1 => cond (!r1) (K (ByteArray.mk #[])) (g.f48 B (fun r2 => cond (decide (r2.size + (ByteArray.mk #[32]).size ≤ 9223372036854775807)) (g.f48 C (fun r3 => cond (decide ((r2 ++ (ByteArray.mk #[32])).size + r3.size ≤ 9223372036854775807)) (cond (decide (((r2 ++ (ByteArray.mk #[32])) ++ r3).size + (ByteArray.mk #[32]).size ≤ 9223372036854775807)) (let y4 := (((r2 ++ (ByteArray.mk #[32])) ++ r3) ++ (ByteArray.mk #[32])); g.f48 D (fun r5 => cond (decide (y4.size + r5.size ≤ 9223372036854775807)) (cond (decide ((y4 ++ r5).size + (ByteArray.mk #[32]).size ≤ 9223372036854775807)) (g.f48 F (fun r6 => cond (decide (((y4 ++ r5) ++ (ByteArray.mk #[32])).size + r6.size ≤ 9223372036854775807)) (cond (decide ((((y4 ++ r5) ++ (ByteArray.mk #[32])) ++ r6).size + (ByteArray.mk #[32]).size ≤ 9223372036854775807)) (let y7 := ((((y4 ++ r5) ++ (ByteArray.mk #[32])) ++ r6) ++ (ByteArray.mk #[32])); cond (decide (y7.size + A.size ≤ 9223372036854775807)) (K (y7 ++ A)) none) none) none)) none) none)) none) none)) none)))
theorem evs (A B C D : Int) (F : ByteArray) (KF : Ret → Option R) : evFunc E (G g) k H [] false Tryz.f49 [.val true [ri A, ri B, ri C, ri D, .s (.string F)]] KF = b g k A B C D F (fun r1 => KF ⟨[.val false [.s (.string r1)]], []⟩) :=
 by kernel_rfl
end spec_NoteWrite
namespace spec_NoteWrite
def g (k : Nat) : Cs R := ⟨(), spec_NoteOk.c k, spec_l6Dec.c k⟩
def c (k : Nat) : T R := b (g k) k
end spec_NoteWrite
/-! ### spec_l3Nums: function 82 -/
namespace spec_l3Nums
abbrev T (R : Type) : Type := ByteArray → Int → (List Int → ByteArray → Option R) → Option R
def con (f : T R) : Con R := ⟨[], fun args K => match args with
 | [.val false [.s (.string a0)], .val false [.s (.int .i64 a1)]] => f a0 a1 (fun r1 r2 => K ⟨[.val false [.row .own [.int .i64] r1], .val false [.s (.string r2)]], []⟩)
 | _ => none⟩
structure Cs (R : Type) where
  none_ : Unit := ()
  f75 : spec_l3Word.T R
  f76 : spec_l3Dec.T R
def G (g : Cs R) : Cons R := [(75, spec_l3Word.con g.f75), (76, spec_l3Dec.con g.f76)]
def H : List (Nat × Meet) := [(6, ⟨[(0, []), (1, []), (6, [(0, [.int .i64])])], []⟩), (28, ⟨[(0, []), (1, []), (6, [(0, [.int .i64])]), (7, [])], []⟩), (31, ⟨[(4, [(0, [.int .i64])]), (5, [])], []⟩), (58, ⟨[(0, []), (1, []), (6, [(0, [.int .i64])]), (7, [])], []⟩), (467, ⟨[(0, []), (1, []), (6, [(0, [.int .i64])]), (7, [])], []⟩), (931, ⟨[(0, []), (6, [(0, [.int .i64])])], []⟩)]
abbrev S1 (x1 : ByteArray) (x2 : Int) (x3 : List Int) : St := mkSt [(0, .c (.s (.string x1))), (1, .c (si x2)), (6, .c (.sl 9006))] [(9006, .row .own [.int .i64] x3)]
abbrev S2 (x1 : ByteArray) (x2 x3 : Int) (x4 : List Int) : St := mkSt [(0, .c (.s (.string x1))), (1, .c (si x2)), (6, .c (.sl 9006)), (7, .c (si x3))] [(9006, .row .own [.int .i64] x4)]
abbrev S3 (x1 : ByteArray) (x2 : List Int) : St := mkSt [(0, .c (.s (.string x1))), (6, .c (.sl 9006))] [(9006, .row .own [.int .i64] x2)]
abbrev S4 (x1 : ByteArray) (x2 : List Int) : St := mkSt [(4, .c (.sl 9004)), (5, .c (.s (.string x1)))] [(9004, .row .own [.int .i64] x2)]
noncomputable abbrev V (g : Cs R) (k : Nat) (K : Kont R) (b : List Bool) (p : Nat) (st : St) : Option R := ev E (G g) k H (nodeAt (bodyOf Tryz.f82) b) p st K
noncomputable abbrev U (g : Cs R) (k : Nat) (n : Nat) (b : List Bool) : Nat → St → (St → Option R) → Kont R → Option R := evPre E (G g) k H n (nodeAt (bodyOf Tryz.f82) b)
noncomputable abbrev W (g : Cs R) (k : Nat) (b : List Bool) (p : Nat) : St → Kont R → Option R := ev E (G g) k H (nodeAt (bodyOf Tryz.f82) b) p
variable (g : Cs R) (k : Nat)
def s1 (g : Cs R) (k : Nat) (a0 : ByteArray) (a1 : Int) (j : List Int → Option R) : Option R :=
 j ([] : List Int)
theorem s1_ev (a0 : ByteArray) (a1 : Int) (X : St → Option R) (K : Kont R) : U g k 2 [] 1 (mkSt [(0, .c (.s (.string a0))), (1, .c (si a1))] []) X K = s1 g k a0 a1 (fun z0 => X (S1 a0 a1 z0)) := by kernel_rfl
def s2 (g : Cs R) (k : Nat) (a0 : ByteArray) (a1 : Int) (z0 : List Int) (j : Int → Option R) : Option R :=
 j 0
theorem s2_ev (a0 : ByteArray) (a1 : Int) (z0 : List Int) (X : St → Option R) (K : Kont R) : U g k 1 [true, true, false] 14 (S1 a0 a1 z0) X K = s2 g k a0 a1 z0 (fun z1 => X (S2 a0 a1 z1 z0)) := by kernel_rfl
def s3 (g : Cs R) (k : Nat) (z2 : ByteArray) (a1 z3 : Int) (z4 : List Int) (j : ByteArray → Int → List Int → Option R) (x0 : Option R) : Option R :=
 cond (decide (z3 < a1)) (g.f75 z2 (fun r1 r2 => g.f76 r1 (fun r3 => cond (Nat.ble (z4.length + ([r3] : List Int).length) lim) (j r2 (IntKind.wrap .i64 (z3 + 1)) (z4 ++ ([r3] : List Int))) none))) (x0)
theorem s3_ev (z2 : ByteArray) (a1 z3 : Int) (z4 : List Int) (K : Kont R) : V g k K [true, true, false, true, false, false] 116 (S2 z2 a1 z3 z4) = s3 g k z2 a1 z3 z4 (fun z5 z6 z7 => K .normal (S2 z5 a1 z6 z7)) (K (.exit 0) (S3 z2 z4)) := by kernel_rfl
def l4r (g : Cs R) (k : Nat) (a1 : Int) (x0 : ByteArray → List Int → Option R) : Nat → ByteArray → Int → List Int → Option R
 | 0, _, _, _ => none
 | n + 1, z2, z3, z4 => s3 g k z2 a1 z3 z4 (fun z5 z6 z7 => l4r g k a1 x0 n z5 z6 z7) (x0 z2 z4)
def l4 (g : Cs R) (k : Nat) (a0 : ByteArray) (a1 z1 : Int) (z0 : List Int) (x0 : ByteArray → List Int → Option R) : Option R := l4r g k a1 x0 k a0 z1 z0
theorem l4r_ev (a1 : Int) (K : Kont R) : ∀ (n : Nat) (z2 : ByteArray) (z3 : Int) (z4 : List Int), evLoop (W g k [true, true, false, true, false, false] 116) (atMeet H 58) K n (S2 z2 a1 z3 z4) = l4r g k a1 (fun z8 z9 => K (.exit 0) (S3 z8 z9)) n z2 z3 z4 := by
 intro n
 induction n with
 | zero => intros; rfl
 | succ n ih =>
  intro z2 z3 z4
  exact Eq.trans (by kernel_rfl) ((s3_ev g k z2 a1 z3 z4 (loopK (W g k [true, true, false, true, false, false] 116) (atMeet H 58) K n)).trans (Eq.trans (by kernel_rfl) (congrArg (fun f_ => s3 g k z2 a1 z3 z4 f_ (K (.exit 0) (S3 z2 z4))) (funext fun (z5 : ByteArray) => (funext fun (z6 : Int) => (funext fun (z7 : List Int) => (ih z5 z6 z7)))))))
theorem l4_ev (a0 : ByteArray) (a1 z1 : Int) (z0 : List Int) (K : Kont R) : V g k K [true, true, false, true, false] 58 (S2 a0 a1 z1 z0) = l4 g k a0 a1 z1 z0 (fun z8 z9 => K (.exit 0) (S3 z8 z9)) :=
 Eq.trans (by kernel_rfl) (l4r_ev g k a1 K k a0 z1 z0)
def b5 (g : Cs R) (k : Nat) (a0 : ByteArray) (a1 z1 : Int) (z0 : List Int) (j : ByteArray → List Int → Option R) : Option R :=
 l4 g k a0 a1 z1 z0 (fun z8 z9 => j z8 z9)
theorem b5_ev (a0 : ByteArray) (a1 z1 : Int) (z0 : List Int) (K : Kont R) : V g k K [true, true, false, true] 29 (S2 a0 a1 z1 z0) = b5 g k a0 a1 z1 z0 (fun z10 z11 => K .normal (S3 z10 z11)) :=
 Eq.trans (by kernel_rfl) ((l4_ev g k a0 a1 z1 z0 (blockK 0 (fun st => K .normal (atMeet H 29 st)) K)).trans (by kernel_rfl))
def c6 (g : Cs R) (k : Nat) (a0 : ByteArray) (a1 : Int) (z0 : List Int) (j : ByteArray → List Int → Option R) : Option R :=
 s2 g k a0 a1 z0 (fun z1 => b5 g k a0 a1 z1 z0 (fun z10 z11 => j z10 z11))
theorem c6_ev (a0 : ByteArray) (a1 : Int) (z0 : List Int) (K : Kont R) : V g k K [true, true, false] 14 (S1 a0 a1 z0) = c6 g k a0 a1 z0 (fun z12 z13 => K .normal (S3 z12 z13)) :=
 (Eq.trans (by kernel_rfl) (s2_ev g k a0 a1 z0 (V g k K [true, true, false, true] 29) K)).trans (congrArg (fun f_ => s2 g k a0 a1 z0 f_) (funext fun (z1 : Int) => (b5_ev g k a0 a1 z1 z0 K)))
def s7 (g : Cs R) (k : Nat) (z12 : ByteArray) (z13 : List Int) (q : Option R) : Option R :=
 q
theorem s7_ev (z12 : ByteArray) (z13 : List Int) (K : Kont R) : V g k K [true, true, true] 15 (S3 z12 z13) = s7 g k z12 z13 (K .ret (S4 z12 z13)) := by kernel_rfl
def c8 (g : Cs R) (k : Nat) (a0 : ByteArray) (a1 : Int) (z0 : List Int) (q : ByteArray → List Int → Option R) : Option R :=
 c6 g k a0 a1 z0 (fun z12 z13 => s7 g k z12 z13 (q z12 z13))
theorem c8_ev (a0 : ByteArray) (a1 : Int) (z0 : List Int) (K : Kont R) : V g k K [true, true] 7 (S1 a0 a1 z0) = c8 g k a0 a1 z0 (fun z14 z15 => K .ret (S4 z14 z15)) :=
 (Eq.trans (by kernel_rfl) (c6_ev g k a0 a1 z0 (seqK (V g k K [true, true, true] 15) K))).trans (congrArg (fun f_ => c6 g k a0 a1 z0 f_) (funext fun (z12 : ByteArray) => (funext fun (z13 : List Int) => (seqN (f := (V g k K [true, true, true] 15)) (K := K) (s7_ev g k z12 z13 K)))))
def c9 (g : Cs R) (k : Nat) (a0 : ByteArray) (a1 : Int) (q : ByteArray → List Int → Option R) : Option R :=
 s1 g k a0 a1 (fun z0 => c8 g k a0 a1 z0 (fun z14 z15 => q z14 z15))
theorem c9_ev (a0 : ByteArray) (a1 : Int) (K : Kont R) : V g k K [] 1 (mkSt [(0, .c (.s (.string a0))), (1, .c (si a1))] []) = c9 g k a0 a1 (fun z16 z17 => K .ret (S4 z16 z17)) :=
 (Eq.trans (by kernel_rfl) (s1_ev g k a0 a1 (V g k K [true, true] 7) K)).trans (congrArg (fun f_ => s1 g k a0 a1 f_) (funext fun (z0 : List Int) => (c8_ev g k a0 a1 z0 K)))
def b (g : Cs R) (k : Nat) (a0 : ByteArray) (a1 : Int) (K : List Int → ByteArray → Option R) : Option R :=
 c9 g k a0 a1 (fun z16 z17 => K z17 z16)
theorem evs (a0 : ByteArray) (a1 : Int) (KF : Ret → Option R) : evFunc E (G g) k H [] false Tryz.f82 [.val false [.s (.string a0)], .val false [ri a1]] KF = b g k a0 a1 (fun r1 r2 => KF ⟨[.val false [.row .own [.int .i64] r1], .val false [.s (.string r2)]], []⟩) :=
 Eq.trans (by kernel_rfl) ((c9_ev g k a0 a1 (fin E.P false Tryz.f82 [] KF)).trans (by kernel_rfl))
end spec_l3Nums
namespace spec_l3Nums
def g (k : Nat) : Cs R := ⟨(), spec_l3Word.c k, spec_l3Dec.c k⟩
def c (k : Nat) : T R := b (g k) k
end spec_l3Nums
/-! ### spec_NoteRead: function 78 -/
namespace spec_NoteRead
abbrev T (R : Type) : Type := ByteArray → (Int → Int → Int → Int → ByteArray → Bool → Option R) → Option R
def con (f : T R) : Con R := ⟨[], fun args K => match args with
 | [.val false [.s (.string a0)]] => f a0 (fun r1 r2 r3 r4 r5 r6 => K ⟨[.val true [ri r1, ri r2, ri r3, ri r4, .s (.string r5)], .val false [.s (.bool r6)]], []⟩)
 | _ => none⟩
structure Cs (R : Type) where
  none_ : Unit := ()
  f82 : spec_l3Nums.T R
  f49 : spec_NoteWrite.T R
def G (g : Cs R) : Cons R := [(82, spec_l3Nums.con g.f82), (49, spec_NoteWrite.con g.f49)]
def H : List (Nat × Meet) := []
variable (g : Cs R) (k : Nat)
def b (g : Cs R) (k : Nat) (a0 : ByteArray) (K : Int → Int → Int → Int → ByteArray → Bool → Option R) : Option R :=
 g.f82 a0 4 (fun r1 r2 => cond (decide (0 ≤ (0 : Int)) && decide ((0 : Int) < (r1.length : Int))) (cond (decide (0 ≤ (1 : Int)) && decide ((1 : Int) < (r1.length : Int))) (cond (decide (0 ≤ (2 : Int)) && decide ((2 : Int) < (r1.length : Int))) (cond (decide (0 ≤ (3 : Int)) && decide ((3 : Int) < (r1.length : Int))) (cond (decide (a0 = (ByteArray.mk #[]))) (K 0 0 0 0 (ByteArray.mk #[]) false) (g.f49 (r1.getD 0 (0 : Int)) (r1.getD 1 (0 : Int)) (r1.getD 2 (0 : Int)) (r1.getD 3 (0 : Int)) r2 (fun r3 => cond (!decide (r3 = a0)) (K 0 0 0 0 (ByteArray.mk #[]) false) (K (r1.getD 0 (0 : Int)) (r1.getD 1 (0 : Int)) (r1.getD 2 (0 : Int)) (r1.getD 3 (0 : Int)) r2 true)))) none) none) none) none)
theorem evs (a0 : ByteArray) (KF : Ret → Option R) : evFunc E (G g) k H [] false Tryz.f78 [.val false [.s (.string a0)]] KF = b g k a0 (fun r1 r2 r3 r4 r5 r6 => KF ⟨[.val true [ri r1, ri r2, ri r3, ri r4, .s (.string r5)], .val false [.s (.bool r6)]], []⟩) :=
 by kernel_rfl
end spec_NoteRead
namespace spec_NoteRead
def g (k : Nat) : Cs R := ⟨(), spec_l3Nums.c k, spec_NoteWrite.c k⟩
def c (k : Nat) : T R := b (g k) k
end spec_NoteRead
/-! ### spec_l12PutNote: function 81 -/
namespace spec_l12PutNote
abbrev T (R : Type) : Type := (L5) → Int → Int → Int → Int → ByteArray → ((L5) → Option R) → Option R
def con (f : T R) : Con R := ⟨[], fun args K => match args with
 | [.val false [pa0], .val true [.s (.int .i64 A), .s (.int .i64 B), .s (.int .i64 C), .s (.int .i64 D), .s (.string F)]] => withRow q5 pa0 fun a0 => f a0 A B C D F (fun r1 => K ⟨[.val false [.row .own q5 r1]], []⟩)
 | _ => none⟩
structure Cs (R : Type) where
  none_ : Unit := ()
  f105 : spec_l12Less.T R
def G (g : Cs R) : Cons R := [(105, spec_l12Less.con g.f105)]
def H : List (Nat × Meet) := [(14, ⟨[(0, [(0, q5)]), (3, []), (5, [(0, q5)]), (6, [])], []⟩), (60, ⟨[(0, [(0, q5)]), (3, []), (5, [(0, q5)]), (6, []), (7, [])], []⟩), (122, ⟨[(0, [(0, q5)]), (3, []), (5, [(0, q5)]), (6, []), (7, [])], []⟩), (127, ⟨[(4, [(0, q5)])], []⟩), (979, ⟨[(0, [(0, q5)]), (3, []), (5, [(0, q5)]), (6, []), (7, [])], []⟩), (1955, ⟨[(3, []), (5, [(0, q5)]), (6, [])], []⟩)]
abbrev S1 (x1 : Bool) (x2 : L5) (x3 x4 x5 x6 : Int) (x7 : ByteArray) (x8 : L5) : St := mkSt [(0, .c (.sl 0)), (3, .c (.ptr 9003 0 0)), (5, .c (.sl 9005)), (6, .c (.s (.bool x1)))] [(0, .row .ro q5 x2), (9003, .box [si x3, si x4, si x5, si x6, .s (.string x7)]), (9005, .row .own q5 x8)]
abbrev S2 (x1 : Bool) (x2 : Int) (x3 : L5) (x4 x5 x6 x7 : Int) (x8 : ByteArray) (x9 : L5) : St := mkSt [(0, .c (.sl 0)), (3, .c (.ptr 9003 0 0)), (5, .c (.sl 9005)), (6, .c (.s (.bool x1))), (7, .c (si x2))] [(0, .row .ro q5 x3), (9003, .box [si x4, si x5, si x6, si x7, .s (.string x8)]), (9005, .row .own q5 x9)]
abbrev S3 (x1 : Bool) (x2 x3 x4 x5 : Int) (x6 : ByteArray) (x7 : L5) : St := mkSt [(3, .c (.ptr 9003 0 0)), (5, .c (.sl 9005)), (6, .c (.s (.bool x1)))] [(9003, .box [si x2, si x3, si x4, si x5, .s (.string x6)]), (9005, .row .own q5 x7)]
abbrev S4 (x1 : L5) : St := mkSt [(4, .c (.sl 9004))] [(9004, .row .own q5 x1)]
noncomputable abbrev V (g : Cs R) (k : Nat) (K : Kont R) (b : List Bool) (p : Nat) (st : St) : Option R := ev E (G g) k H (nodeAt (bodyOf Tryz.f81) b) p st K
noncomputable abbrev U (g : Cs R) (k : Nat) (n : Nat) (b : List Bool) : Nat → St → (St → Option R) → Kont R → Option R := evPre E (G g) k H n (nodeAt (bodyOf Tryz.f81) b)
noncomputable abbrev W (g : Cs R) (k : Nat) (b : List Bool) (p : Nat) : St → Kont R → Option R := ev E (G g) k H (nodeAt (bodyOf Tryz.f81) b) p
variable (g : Cs R) (k : Nat)
def s1 (g : Cs R) (k : Nat) (A B C D : Int) (F : ByteArray) (a0 : L5) (j : Bool → (L5) → Option R) : Option R :=
 j false ([] : L5)
theorem s1_ev (A B C D : Int) (F : ByteArray) (a0 : L5) (X : St → Option R) (K : Kont R) : U g k 3 [] 1 (mkSt [(0, .c (.sl 0)), (1, .agg [si A, si B, si C, si D, .s (.string F)])] [(0, .row .ro q5 a0)]) X K = s1 g k A B C D F a0 (fun z0 z1 => X (S1 z0 a0 A B C D F z1)) := by kernel_rfl
def s2 (g : Cs R) (k : Nat) (z0 : Bool) (a0 : L5) (A B C D : Int) (F : ByteArray) (z1 : L5) (j : Int → Option R) : Option R :=
 j 0
theorem s2_ev (z0 : Bool) (a0 : L5) (A B C D : Int) (F : ByteArray) (z1 : L5) (X : St → Option R) (K : Kont R) : U g k 1 [true, true, true, false] 30 (S1 z0 a0 A B C D F z1) X K = s2 g k z0 a0 A B C D F z1 (fun z2 => X (S2 z0 z2 a0 A B C D F z1)) := by kernel_rfl
def s3 (g : Cs R) (k : Nat) (z3 : Bool) (z4 : Int) (a0 : L5) (A B C D : Int) (F : ByteArray) (z5 : L5) (j : Bool → Int → (L5) → Option R) (x0 : Option R) : Option R :=
 cond (decide (z4 < (a0.length : Int))) (cond (!z3) (cond (decide (0 ≤ z4) && decide (z4 < (a0.length : Int))) (let y1 := (a0.getD z4.toNat n5).1; cond (decide (0 ≤ z4) && decide (z4 < (a0.length : Int))) (let y2 := (a0.getD z4.toNat n5).2.1; g.f105 A B y1 y2 (fun r3 => cond r3 (let y4 := ([(A, B, C, D, F)] : L5); cond (Nat.ble (z5.length + y4.length) lim) (cond (decide (0 ≤ z4) && decide (z4 < (a0.length : Int))) (let y5 := ([((a0.getD z4.toNat n5).1, (a0.getD z4.toNat n5).2.1, (a0.getD z4.toNat n5).2.2.1, (a0.getD z4.toNat n5).2.2.2.1, (a0.getD z4.toNat n5).2.2.2.2)] : L5); cond (Nat.ble ((z5 ++ y4).length + y5.length) lim) (j true (IntKind.wrap .i64 (z4 + 1)) ((z5 ++ y4) ++ y5)) none) none) none) (cond (decide (0 ≤ z4) && decide (z4 < (a0.length : Int))) (let y6 := ([((a0.getD z4.toNat n5).1, (a0.getD z4.toNat n5).2.1, (a0.getD z4.toNat n5).2.2.1, (a0.getD z4.toNat n5).2.2.2.1, (a0.getD z4.toNat n5).2.2.2.2)] : L5); cond (Nat.ble (z5.length + y6.length) lim) (j z3 (IntKind.wrap .i64 (z4 + 1)) (z5 ++ y6)) none) none))) none) none) (cond (decide (0 ≤ z4) && decide (z4 < (a0.length : Int))) (let y7 := ([((a0.getD z4.toNat n5).1, (a0.getD z4.toNat n5).2.1, (a0.getD z4.toNat n5).2.2.1, (a0.getD z4.toNat n5).2.2.2.1, (a0.getD z4.toNat n5).2.2.2.2)] : L5); cond (Nat.ble (z5.length + y7.length) lim) (j z3 (IntKind.wrap .i64 (z4 + 1)) (z5 ++ y7)) none) none)) (x0)
theorem s3_ev (z3 : Bool) (z4 : Int) (a0 : L5) (A B C D : Int) (F : ByteArray) (z5 : L5) (K : Kont R) : V g k K [true, true, true, false, true, false, false] 244 (S2 z3 z4 a0 A B C D F z5) = s3 g k z3 z4 a0 A B C D F z5 (fun z6 z7 z8 => K .normal (S2 z6 z7 a0 A B C D F z8)) (K (.exit 0) (S3 z3 A B C D F z5)) := by kernel_rfl
def l4r (g : Cs R) (k : Nat) (a0 : L5) (A B C D : Int) (F : ByteArray) (x0 : Bool → (L5) → Option R) : Nat → Bool → Int → (L5) → Option R
 | 0, _, _, _ => none
 | n + 1, z3, z4, z5 => s3 g k z3 z4 a0 A B C D F z5 (fun z6 z7 z8 => l4r g k a0 A B C D F x0 n z6 z7 z8) (x0 z3 z5)
def l4 (g : Cs R) (k : Nat) (z0 : Bool) (z2 : Int) (a0 : L5) (A B C D : Int) (F : ByteArray) (z1 : L5) (x0 : Bool → (L5) → Option R) : Option R := l4r g k a0 A B C D F x0 k z0 z2 z1
theorem l4r_ev (a0 : L5) (A B C D : Int) (F : ByteArray) (K : Kont R) : ∀ (n : Nat) (z3 : Bool) (z4 : Int) (z5 : L5), evLoop (W g k [true, true, true, false, true, false, false] 244) (atMeet H 122) K n (S2 z3 z4 a0 A B C D F z5) = l4r g k a0 A B C D F (fun z9 z10 => K (.exit 0) (S3 z9 A B C D F z10)) n z3 z4 z5 := by
 intro n
 induction n with
 | zero => intros; rfl
 | succ n ih =>
  intro z3 z4 z5
  exact Eq.trans (by kernel_rfl) ((s3_ev g k z3 z4 a0 A B C D F z5 (loopK (W g k [true, true, true, false, true, false, false] 244) (atMeet H 122) K n)).trans (Eq.trans (by kernel_rfl) (congrArg (fun f_ => s3 g k z3 z4 a0 A B C D F z5 f_ (K (.exit 0) (S3 z3 A B C D F z5))) (funext fun (z6 : Bool) => (funext fun (z7 : Int) => (funext fun (z8 : L5) => (ih z6 z7 z8)))))))
theorem l4_ev (z0 : Bool) (z2 : Int) (a0 : L5) (A B C D : Int) (F : ByteArray) (z1 : L5) (K : Kont R) : V g k K [true, true, true, false, true, false] 122 (S2 z0 z2 a0 A B C D F z1) = l4 g k z0 z2 a0 A B C D F z1 (fun z9 z10 => K (.exit 0) (S3 z9 A B C D F z10)) :=
 Eq.trans (by kernel_rfl) (l4r_ev g k a0 A B C D F K k z0 z2 z1)
def b5 (g : Cs R) (k : Nat) (z0 : Bool) (z2 : Int) (a0 : L5) (A B C D : Int) (F : ByteArray) (z1 : L5) (j : Bool → (L5) → Option R) : Option R :=
 l4 g k z0 z2 a0 A B C D F z1 (fun z9 z10 => j z9 z10)
theorem b5_ev (z0 : Bool) (z2 : Int) (a0 : L5) (A B C D : Int) (F : ByteArray) (z1 : L5) (K : Kont R) : V g k K [true, true, true, false, true] 61 (S2 z0 z2 a0 A B C D F z1) = b5 g k z0 z2 a0 A B C D F z1 (fun z11 z12 => K .normal (S3 z11 A B C D F z12)) :=
 Eq.trans (by kernel_rfl) ((l4_ev g k z0 z2 a0 A B C D F z1 (blockK 0 (fun st => K .normal (atMeet H 61 st)) K)).trans (by kernel_rfl))
def c6 (g : Cs R) (k : Nat) (z0 : Bool) (a0 : L5) (A B C D : Int) (F : ByteArray) (z1 : L5) (j : Bool → (L5) → Option R) : Option R :=
 s2 g k z0 a0 A B C D F z1 (fun z2 => b5 g k z0 z2 a0 A B C D F z1 (fun z11 z12 => j z11 z12))
theorem c6_ev (z0 : Bool) (a0 : L5) (A B C D : Int) (F : ByteArray) (z1 : L5) (K : Kont R) : V g k K [true, true, true, false] 30 (S1 z0 a0 A B C D F z1) = c6 g k z0 a0 A B C D F z1 (fun z13 z14 => K .normal (S3 z13 A B C D F z14)) :=
 (Eq.trans (by kernel_rfl) (s2_ev g k z0 a0 A B C D F z1 (V g k K [true, true, true, false, true] 61) K)).trans (congrArg (fun f_ => s2 g k z0 a0 A B C D F z1 f_) (funext fun (z2 : Int) => (b5_ev g k z0 z2 a0 A B C D F z1 K)))
def s7 (g : Cs R) (k : Nat) (z13 : Bool) (A B C D : Int) (F : ByteArray) (z14 : L5) (q : (L5) → Option R) : Option R :=
 cond (!z13) (let y1 := ([(A, B, C, D, F)] : L5); cond (Nat.ble (z14.length + y1.length) lim) (q (z14 ++ y1)) none) (q z14)
theorem s7_ev (z13 : Bool) (A B C D : Int) (F : ByteArray) (z14 : L5) (K : Kont R) : V g k K [true, true, true, true] 31 (S3 z13 A B C D F z14) = s7 g k z13 A B C D F z14 (fun z15 => K .ret (S4 z15)) := by kernel_rfl
def c8 (g : Cs R) (k : Nat) (z0 : Bool) (a0 : L5) (A B C D : Int) (F : ByteArray) (z1 : L5) (q : (L5) → Option R) : Option R :=
 c6 g k z0 a0 A B C D F z1 (fun z13 z14 => s7 g k z13 A B C D F z14 (fun z15 => q z15))
theorem c8_ev (z0 : Bool) (a0 : L5) (A B C D : Int) (F : ByteArray) (z1 : L5) (K : Kont R) : V g k K [true, true, true] 15 (S1 z0 a0 A B C D F z1) = c8 g k z0 a0 A B C D F z1 (fun z16 => K .ret (S4 z16)) :=
 (Eq.trans (by kernel_rfl) (c6_ev g k z0 a0 A B C D F z1 (seqK (V g k K [true, true, true, true] 31) K))).trans (congrArg (fun f_ => c6 g k z0 a0 A B C D F z1 f_) (funext fun (z13 : Bool) => (funext fun (z14 : L5) => (seqN (f := (V g k K [true, true, true, true] 31)) (K := K) (s7_ev g k z13 A B C D F z14 K)))))
def c9 (g : Cs R) (k : Nat) (A B C D : Int) (F : ByteArray) (a0 : L5) (q : (L5) → Option R) : Option R :=
 s1 g k A B C D F a0 (fun z0 z1 => c8 g k z0 a0 A B C D F z1 (fun z16 => q z16))
theorem c9_ev (A B C D : Int) (F : ByteArray) (a0 : L5) (K : Kont R) : V g k K [] 1 (mkSt [(0, .c (.sl 0)), (1, .agg [si A, si B, si C, si D, .s (.string F)])] [(0, .row .ro q5 a0)]) = c9 g k A B C D F a0 (fun z17 => K .ret (S4 z17)) :=
 (Eq.trans (by kernel_rfl) (s1_ev g k A B C D F a0 (V g k K [true, true, true] 15) K)).trans (congrArg (fun f_ => s1 g k A B C D F a0 f_) (funext fun (z0 : Bool) => (funext fun (z1 : L5) => (c8_ev g k z0 a0 A B C D F z1 K))))
def b (g : Cs R) (k : Nat) (a0 : L5) (A B C D : Int) (F : ByteArray) (K : (L5) → Option R) : Option R :=
 c9 g k A B C D F a0 (fun z17 => K z17)
theorem evs (a0 : L5) (A B C D : Int) (F : ByteArray) (KF : Ret → Option R) : evFunc E (G g) k H [] false Tryz.f81 [.val false [.row .ro q5 a0], .val true [ri A, ri B, ri C, ri D, .s (.string F)]] KF = b g k a0 A B C D F (fun r1 => KF ⟨[.val false [.row .own q5 r1]], []⟩) :=
 Eq.trans (by kernel_rfl) ((c9_ev g k A B C D F a0 (fin E.P false Tryz.f81 [] KF)).trans (by kernel_rfl))
end spec_l12PutNote
namespace spec_l12PutNote
def g (k : Nat) : Cs R := ⟨(), spec_l12Less.c k⟩
def c (k : Nat) : T R := b (g k) k
end spec_l12PutNote
/-! ### spec_l12PutMark: function 85 -/
namespace spec_l12PutMark
abbrev T (R : Type) : Type := (L3) → Int → Int → Int → ((L3) → Option R) → Option R
def con (f : T R) : Con R := ⟨[], fun args K => match args with
 | [.val false [pa0], .val true [.s (.int .i64 A), .s (.int .i64 B), .s (.int .i64 C)]] => withRow q3 pa0 fun a0 => f a0 A B C (fun r1 => K ⟨[.val false [.row .own q3 r1]], []⟩)
 | _ => none⟩
structure Cs (R : Type) where
  none_ : Unit := ()
  f105 : spec_l12Less.T R
def G (g : Cs R) : Cons R := [(105, spec_l12Less.con g.f105)]
def H : List (Nat × Meet) := [(14, ⟨[(0, [(0, q3)]), (3, []), (5, [(0, q3)]), (6, [])], []⟩), (60, ⟨[(0, [(0, q3)]), (3, []), (5, [(0, q3)]), (6, []), (7, [])], []⟩), (122, ⟨[(0, [(0, q3)]), (3, []), (5, [(0, q3)]), (6, []), (7, [])], []⟩), (127, ⟨[(4, [(0, q3)])], []⟩), (979, ⟨[(0, [(0, q3)]), (3, []), (5, [(0, q3)]), (6, []), (7, [])], []⟩), (1955, ⟨[(3, []), (5, [(0, q3)]), (6, [])], []⟩)]
abbrev S1 (x1 x2 x3 : Int) (x4 : L3) : St := mkSt [(0, .c (.sl 0)), (1, .agg [si x1, si x2, si x3])] [(0, .row .ro q3 x4)]
abbrev S2 (x1 : Bool) (x2 : L3) (x3 x4 x5 : Int) (x6 : L3) : St := mkSt [(0, .c (.sl 0)), (3, .c (.ptr 9003 0 0)), (5, .c (.sl 9005)), (6, .c (.s (.bool x1)))] [(0, .row .ro q3 x2), (9003, .box [si x3, si x4, si x5]), (9005, .row .own q3 x6)]
abbrev S3 (x1 : Bool) (x2 : Int) (x3 : L3) (x4 x5 x6 : Int) (x7 : L3) : St := mkSt [(0, .c (.sl 0)), (3, .c (.ptr 9003 0 0)), (5, .c (.sl 9005)), (6, .c (.s (.bool x1))), (7, .c (si x2))] [(0, .row .ro q3 x3), (9003, .box [si x4, si x5, si x6]), (9005, .row .own q3 x7)]
abbrev S4 (x1 : Bool) (x2 x3 x4 : Int) (x5 : L3) : St := mkSt [(3, .c (.ptr 9003 0 0)), (5, .c (.sl 9005)), (6, .c (.s (.bool x1)))] [(9003, .box [si x2, si x3, si x4]), (9005, .row .own q3 x5)]
abbrev S5 (x1 : L3) : St := mkSt [(4, .c (.sl 9004))] [(9004, .row .own q3 x1)]
noncomputable abbrev V (g : Cs R) (k : Nat) (K : Kont R) (b : List Bool) (p : Nat) (st : St) : Option R := ev E (G g) k H (nodeAt (bodyOf Tryz.f85) b) p st K
noncomputable abbrev U (g : Cs R) (k : Nat) (n : Nat) (b : List Bool) : Nat → St → (St → Option R) → Kont R → Option R := evPre E (G g) k H n (nodeAt (bodyOf Tryz.f85) b)
noncomputable abbrev W (g : Cs R) (k : Nat) (b : List Bool) (p : Nat) : St → Kont R → Option R := ev E (G g) k H (nodeAt (bodyOf Tryz.f85) b) p
variable (g : Cs R) (k : Nat)
def s1 (g : Cs R) (k : Nat) (A B C : Int) (a0 : L3) (j : Bool → (L3) → Option R) : Option R :=
 j false ([] : L3)
theorem s1_ev (A B C : Int) (a0 : L3) (X : St → Option R) (K : Kont R) : U g k 3 [] 1 (S1 A B C a0) X K = s1 g k A B C a0 (fun z0 z1 => X (S2 z0 a0 A B C z1)) := by kernel_rfl
def s2 (g : Cs R) (k : Nat) (z0 : Bool) (a0 : L3) (A B C : Int) (z1 : L3) (j : Int → Option R) : Option R :=
 j 0
theorem s2_ev (z0 : Bool) (a0 : L3) (A B C : Int) (z1 : L3) (X : St → Option R) (K : Kont R) : U g k 1 [true, true, true, false] 30 (S2 z0 a0 A B C z1) X K = s2 g k z0 a0 A B C z1 (fun z2 => X (S3 z0 z2 a0 A B C z1)) := by kernel_rfl
def s3 (g : Cs R) (k : Nat) (z3 : Bool) (z4 : Int) (a0 : L3) (A B C : Int) (z5 : L3) (j : Bool → Int → (L3) → Option R) (x0 : Option R) : Option R :=
 cond (decide (z4 < (a0.length : Int))) (cond (!z3) (cond (decide (0 ≤ z4) && decide (z4 < (a0.length : Int))) (let y1 := (a0.getD z4.toNat n3).1; cond (decide (0 ≤ z4) && decide (z4 < (a0.length : Int))) (let y2 := (a0.getD z4.toNat n3).2.1; g.f105 A B y1 y2 (fun r3 => cond r3 (cond (Nat.ble (z5.length + ([(A, B, C)] : L3).length) lim) (let y4 := (z5 ++ ([(A, B, C)] : L3)); cond (decide (0 ≤ z4) && decide (z4 < (a0.length : Int))) (let y5 := ([((a0.getD z4.toNat n3).1, (a0.getD z4.toNat n3).2.1, (a0.getD z4.toNat n3).2.2)] : L3); cond (Nat.ble (y4.length + y5.length) lim) (j true (IntKind.wrap .i64 (z4 + 1)) (y4 ++ y5)) none) none) none) (cond (decide (0 ≤ z4) && decide (z4 < (a0.length : Int))) (let y6 := ([((a0.getD z4.toNat n3).1, (a0.getD z4.toNat n3).2.1, (a0.getD z4.toNat n3).2.2)] : L3); cond (Nat.ble (z5.length + y6.length) lim) (j z3 (IntKind.wrap .i64 (z4 + 1)) (z5 ++ y6)) none) none))) none) none) (cond (decide (0 ≤ z4) && decide (z4 < (a0.length : Int))) (let y7 := ([((a0.getD z4.toNat n3).1, (a0.getD z4.toNat n3).2.1, (a0.getD z4.toNat n3).2.2)] : L3); cond (Nat.ble (z5.length + y7.length) lim) (j z3 (IntKind.wrap .i64 (z4 + 1)) (z5 ++ y7)) none) none)) (x0)
theorem s3_ev (z3 : Bool) (z4 : Int) (a0 : L3) (A B C : Int) (z5 : L3) (K : Kont R) : V g k K [true, true, true, false, true, false, false] 244 (S3 z3 z4 a0 A B C z5) = s3 g k z3 z4 a0 A B C z5 (fun z6 z7 z8 => K .normal (S3 z6 z7 a0 A B C z8)) (K (.exit 0) (S4 z3 A B C z5)) := by kernel_rfl
def l4r (g : Cs R) (k : Nat) (a0 : L3) (A B C : Int) (x0 : Bool → (L3) → Option R) : Nat → Bool → Int → (L3) → Option R
 | 0, _, _, _ => none
 | n + 1, z3, z4, z5 => s3 g k z3 z4 a0 A B C z5 (fun z6 z7 z8 => l4r g k a0 A B C x0 n z6 z7 z8) (x0 z3 z5)
def l4 (g : Cs R) (k : Nat) (z0 : Bool) (z2 : Int) (a0 : L3) (A B C : Int) (z1 : L3) (x0 : Bool → (L3) → Option R) : Option R := l4r g k a0 A B C x0 k z0 z2 z1
theorem l4r_ev (a0 : L3) (A B C : Int) (K : Kont R) : ∀ (n : Nat) (z3 : Bool) (z4 : Int) (z5 : L3), evLoop (W g k [true, true, true, false, true, false, false] 244) (atMeet H 122) K n (S3 z3 z4 a0 A B C z5) = l4r g k a0 A B C (fun z9 z10 => K (.exit 0) (S4 z9 A B C z10)) n z3 z4 z5 := by
 intro n
 induction n with
 | zero => intros; rfl
 | succ n ih =>
  intro z3 z4 z5
  exact Eq.trans (by kernel_rfl) ((s3_ev g k z3 z4 a0 A B C z5 (loopK (W g k [true, true, true, false, true, false, false] 244) (atMeet H 122) K n)).trans (Eq.trans (by kernel_rfl) (congrArg (fun f_ => s3 g k z3 z4 a0 A B C z5 f_ (K (.exit 0) (S4 z3 A B C z5))) (funext fun (z6 : Bool) => (funext fun (z7 : Int) => (funext fun (z8 : L3) => (ih z6 z7 z8)))))))
theorem l4_ev (z0 : Bool) (z2 : Int) (a0 : L3) (A B C : Int) (z1 : L3) (K : Kont R) : V g k K [true, true, true, false, true, false] 122 (S3 z0 z2 a0 A B C z1) = l4 g k z0 z2 a0 A B C z1 (fun z9 z10 => K (.exit 0) (S4 z9 A B C z10)) :=
 Eq.trans (by kernel_rfl) (l4r_ev g k a0 A B C K k z0 z2 z1)
def b5 (g : Cs R) (k : Nat) (z0 : Bool) (z2 : Int) (a0 : L3) (A B C : Int) (z1 : L3) (j : Bool → (L3) → Option R) : Option R :=
 l4 g k z0 z2 a0 A B C z1 (fun z9 z10 => j z9 z10)
theorem b5_ev (z0 : Bool) (z2 : Int) (a0 : L3) (A B C : Int) (z1 : L3) (K : Kont R) : V g k K [true, true, true, false, true] 61 (S3 z0 z2 a0 A B C z1) = b5 g k z0 z2 a0 A B C z1 (fun z11 z12 => K .normal (S4 z11 A B C z12)) :=
 Eq.trans (by kernel_rfl) ((l4_ev g k z0 z2 a0 A B C z1 (blockK 0 (fun st => K .normal (atMeet H 61 st)) K)).trans (by kernel_rfl))
def c6 (g : Cs R) (k : Nat) (z0 : Bool) (a0 : L3) (A B C : Int) (z1 : L3) (j : Bool → (L3) → Option R) : Option R :=
 s2 g k z0 a0 A B C z1 (fun z2 => b5 g k z0 z2 a0 A B C z1 (fun z11 z12 => j z11 z12))
theorem c6_ev (z0 : Bool) (a0 : L3) (A B C : Int) (z1 : L3) (K : Kont R) : V g k K [true, true, true, false] 30 (S2 z0 a0 A B C z1) = c6 g k z0 a0 A B C z1 (fun z13 z14 => K .normal (S4 z13 A B C z14)) :=
 (Eq.trans (by kernel_rfl) (s2_ev g k z0 a0 A B C z1 (V g k K [true, true, true, false, true] 61) K)).trans (congrArg (fun f_ => s2 g k z0 a0 A B C z1 f_) (funext fun (z2 : Int) => (b5_ev g k z0 z2 a0 A B C z1 K)))
def s7 (g : Cs R) (k : Nat) (z13 : Bool) (A B C : Int) (z14 : L3) (q : (L3) → Option R) : Option R :=
 cond (!z13) (cond (Nat.ble (z14.length + ([(A, B, C)] : L3).length) lim) (let y1 := (z14 ++ ([(A, B, C)] : L3)); q y1) none) (q z14)
theorem s7_ev (z13 : Bool) (A B C : Int) (z14 : L3) (K : Kont R) : V g k K [true, true, true, true] 31 (S4 z13 A B C z14) = s7 g k z13 A B C z14 (fun z15 => K .ret (S5 z15)) := by kernel_rfl
def c8 (g : Cs R) (k : Nat) (z0 : Bool) (a0 : L3) (A B C : Int) (z1 : L3) (q : (L3) → Option R) : Option R :=
 c6 g k z0 a0 A B C z1 (fun z13 z14 => s7 g k z13 A B C z14 (fun z15 => q z15))
theorem c8_ev (z0 : Bool) (a0 : L3) (A B C : Int) (z1 : L3) (K : Kont R) : V g k K [true, true, true] 15 (S2 z0 a0 A B C z1) = c8 g k z0 a0 A B C z1 (fun z16 => K .ret (S5 z16)) :=
 (Eq.trans (by kernel_rfl) (c6_ev g k z0 a0 A B C z1 (seqK (V g k K [true, true, true, true] 31) K))).trans (congrArg (fun f_ => c6 g k z0 a0 A B C z1 f_) (funext fun (z13 : Bool) => (funext fun (z14 : L3) => (seqN (f := (V g k K [true, true, true, true] 31)) (K := K) (s7_ev g k z13 A B C z14 K)))))
def c9 (g : Cs R) (k : Nat) (A B C : Int) (a0 : L3) (q : (L3) → Option R) : Option R :=
 s1 g k A B C a0 (fun z0 z1 => c8 g k z0 a0 A B C z1 (fun z16 => q z16))
theorem c9_ev (A B C : Int) (a0 : L3) (K : Kont R) : V g k K [] 1 (S1 A B C a0) = c9 g k A B C a0 (fun z17 => K .ret (S5 z17)) :=
 (Eq.trans (by kernel_rfl) (s1_ev g k A B C a0 (V g k K [true, true, true] 15) K)).trans (congrArg (fun f_ => s1 g k A B C a0 f_) (funext fun (z0 : Bool) => (funext fun (z1 : L3) => (c8_ev g k z0 a0 A B C z1 K))))
def b (g : Cs R) (k : Nat) (a0 : L3) (A B C : Int) (K : (L3) → Option R) : Option R :=
 c9 g k A B C a0 (fun z17 => K z17)
theorem evs (a0 : L3) (A B C : Int) (KF : Ret → Option R) : evFunc E (G g) k H [] false Tryz.f85 [.val false [.row .ro q3 a0], .val true [ri A, ri B, ri C]] KF = b g k a0 A B C (fun r1 => KF ⟨[.val false [.row .own q3 r1]], []⟩) :=
 Eq.trans (by kernel_rfl) ((c9_ev g k A B C a0 (fin E.P false Tryz.f85 [] KF)).trans (by kernel_rfl))
end spec_l12PutMark
namespace spec_l12PutMark
def g (k : Nat) : Cs R := ⟨(), spec_l12Less.c k⟩
def c (k : Nat) : T R := b (g k) k
end spec_l12PutMark
/-! ### spec_l12Held: function 80 -/
namespace spec_l12Held
abbrev T (R : Type) : Type := (L5) → Int → Int → (Int → Option R) → Option R
def con (f : T R) : Con R := ⟨[], fun args K => match args with
 | [.val false [pa0], .val false [.s (.int .i64 a1)], .val false [.s (.int .i64 a2)]] => withRow q5 pa0 fun a0 => f a0 a1 a2 (fun r1 => K ⟨[.val false [ri r1]], []⟩)
 | _ => none⟩
structure Cs (R : Type) where
  none_ : Unit := ()
def G (g : Cs R) : Cons R := []
def H : List (Nat × Meet) := [(2, ⟨[(0, [(0, q5)]), (1, []), (2, [])], []⟩), (12, ⟨[(0, [(0, q5)]), (1, []), (2, []), (7, [])], []⟩), (15, ⟨[(6, [])], []⟩), (26, ⟨[(0, [(0, q5)]), (1, []), (2, []), (7, [])], []⟩), (211, ⟨[(0, [(0, q5)]), (1, []), (2, []), (7, [])], []⟩), (419, ⟨[], []⟩), (3365, ⟨[(6, [])], []⟩)]
abbrev S1 (x1 x2 : Int) (x3 : L5) : St := mkSt [(0, .c (.sl 0)), (1, .c (si x1)), (2, .c (si x2))] [(0, .row .ro q5 x3)]
abbrev S2 (x1 x2 x3 : Int) (x4 : L5) : St := mkSt [(0, .c (.sl 0)), (1, .c (si x1)), (2, .c (si x2)), (7, .c (si x3))] [(0, .row .ro q5 x4)]
abbrev S3 : St := mkSt [] []
abbrev S4 (x1 : Int) : St := mkSt [(6, .c (si x1))] []
noncomputable abbrev V (g : Cs R) (k : Nat) (K : Kont R) (b : List Bool) (p : Nat) (st : St) : Option R := ev E (G g) k H (nodeAt (bodyOf Tryz.f80) b) p st K
noncomputable abbrev U (g : Cs R) (k : Nat) (n : Nat) (b : List Bool) : Nat → St → (St → Option R) → Kont R → Option R := evPre E (G g) k H n (nodeAt (bodyOf Tryz.f80) b)
noncomputable abbrev W (g : Cs R) (k : Nat) (b : List Bool) (p : Nat) : St → Kont R → Option R := ev E (G g) k H (nodeAt (bodyOf Tryz.f80) b) p
variable (g : Cs R) (k : Nat)
def s1 (g : Cs R) (k : Nat) (a1 a2 : Int) (a0 : L5) (j : Option R) : Option R :=
 j
theorem s1_ev (a1 a2 : Int) (a0 : L5) (X : St → Option R) (K : Kont R) : U g k 1 [] 1 (S1 a1 a2 a0) X K = s1 g k a1 a2 a0 (X (S1 a1 a2 a0)) := by kernel_rfl
def s2 (g : Cs R) (k : Nat) (a1 a2 : Int) (a0 : L5) (j : Int → Option R) : Option R :=
 j 0
theorem s2_ev (a1 a2 : Int) (a0 : L5) (X : St → Option R) (K : Kont R) : U g k 1 [true, false] 6 (S1 a1 a2 a0) X K = s2 g k a1 a2 a0 (fun z0 => X (S2 a1 a2 z0 a0)) := by kernel_rfl
def s3 (g : Cs R) (k : Nat) (a1 a2 z1 : Int) (a0 : L5) (j : Int → Option R) (x0 : Option R) (q : Option R) : Option R :=
 cond (decide (z1 < (a0.length : Int))) (cond (decide (0 ≤ z1) && decide (z1 < (a0.length : Int))) (let y1 := (a0.getD z1.toNat n5).1; cond (decide (y1 = a1)) (cond (decide (0 ≤ z1) && decide (z1 < (a0.length : Int))) (let y2 := (a0.getD z1.toNat n5).2.1; cond (decide (y2 = a2)) (q) (j (IntKind.wrap .i64 (z1 + 1)))) none) (j (IntKind.wrap .i64 (z1 + 1)))) none) (x0)
theorem s3_ev (a1 a2 z1 : Int) (a0 : L5) (K : Kont R) : V g k K [true, false, true, false, false] 52 (S2 a1 a2 z1 a0) = s3 g k a1 a2 z1 a0 (fun z2 => K .normal (S2 a1 a2 z2 a0)) (K (.exit 0) S3) (K .ret (S4 z1)) := by kernel_rfl
def l4r (g : Cs R) (k : Nat) (a1 a2 : Int) (a0 : L5) (x0 : Option R) (q : Int → Option R) : Nat → Int → Option R
 | 0, _ => none
 | n + 1, z1 => s3 g k a1 a2 z1 a0 (fun z2 => l4r g k a1 a2 a0 x0 q n z2) (x0) (q z1)
def l4 (g : Cs R) (k : Nat) (a1 a2 z0 : Int) (a0 : L5) (x0 : Option R) (q : Int → Option R) : Option R := l4r g k a1 a2 a0 x0 q k z0
theorem l4r_ev (a1 a2 : Int) (a0 : L5) (K : Kont R) : ∀ (n : Nat) (z1 : Int), evLoop (W g k [true, false, true, false, false] 52) (atMeet H 26) K n (S2 a1 a2 z1 a0) = l4r g k a1 a2 a0 (K (.exit 0) S3) (fun z3 => K .ret (S4 z3)) n z1 := by
 intro n
 induction n with
 | zero => intros; rfl
 | succ n ih =>
  intro z1
  exact Eq.trans (by kernel_rfl) ((s3_ev g k a1 a2 z1 a0 (loopK (W g k [true, false, true, false, false] 52) (atMeet H 26) K n)).trans (Eq.trans (by kernel_rfl) (congrArg (fun f_ => s3 g k a1 a2 z1 a0 f_ (K (.exit 0) S3) (K .ret (S4 z1))) (funext fun (z2 : Int) => (ih z2)))))
theorem l4_ev (a1 a2 z0 : Int) (a0 : L5) (K : Kont R) : V g k K [true, false, true, false] 26 (S2 a1 a2 z0 a0) = l4 g k a1 a2 z0 a0 (K (.exit 0) S3) (fun z3 => K .ret (S4 z3)) :=
 Eq.trans (by kernel_rfl) (l4r_ev g k a1 a2 a0 K k z0)
def b5 (g : Cs R) (k : Nat) (a1 a2 z0 : Int) (a0 : L5) (j : Option R) (q : Int → Option R) : Option R :=
 l4 g k a1 a2 z0 a0 (j) (fun z3 => q z3)
theorem b5_ev (a1 a2 z0 : Int) (a0 : L5) (K : Kont R) : V g k K [true, false, true] 13 (S2 a1 a2 z0 a0) = b5 g k a1 a2 z0 a0 (K .normal S3) (fun z4 => K .ret (S4 z4)) :=
 Eq.trans (by kernel_rfl) ((l4_ev g k a1 a2 z0 a0 (blockK 0 (fun st => K .normal (atMeet H 13 st)) K)).trans (by kernel_rfl))
def c6 (g : Cs R) (k : Nat) (a1 a2 : Int) (a0 : L5) (j : Option R) (q : Int → Option R) : Option R :=
 s2 g k a1 a2 a0 (fun z0 => b5 g k a1 a2 z0 a0 (j) (fun z4 => q z4))
theorem c6_ev (a1 a2 : Int) (a0 : L5) (K : Kont R) : V g k K [true, false] 6 (S1 a1 a2 a0) = c6 g k a1 a2 a0 (K .normal S3) (fun z5 => K .ret (S4 z5)) :=
 (Eq.trans (by kernel_rfl) (s2_ev g k a1 a2 a0 (V g k K [true, false, true] 13) K)).trans (congrArg (fun f_ => s2 g k a1 a2 a0 f_) (funext fun (z0 : Int) => (b5_ev g k a1 a2 z0 a0 K)))
def s7 (g : Cs R) (k : Nat)  (q : Int → Option R) : Option R :=
 q (-1)
theorem s7_ev  (K : Kont R) : V g k K [true, true] 7 S3 = s7 g k (fun z6 => K .ret (S4 z6)) := by kernel_rfl
def c8 (g : Cs R) (k : Nat) (a1 a2 : Int) (a0 : L5) (q : Int → Option R) : Option R :=
 c6 g k a1 a2 a0 (s7 g k (fun z6 => q z6)) (fun z5 => q z5)
theorem c8_ev (a1 a2 : Int) (a0 : L5) (K : Kont R) : V g k K [true] 3 (S1 a1 a2 a0) = c8 g k a1 a2 a0 (fun z7 => K .ret (S4 z7)) :=
 (Eq.trans (by kernel_rfl) (c6_ev g k a1 a2 a0 (seqK (V g k K [true, true] 7) K))).trans (congrArg (fun f_ => c6 g k a1 a2 a0 f_ (fun z5 => K .ret (S4 z5))) (seqN (f := (V g k K [true, true] 7)) (K := K) (s7_ev g k K)))
def c9 (g : Cs R) (k : Nat) (a1 a2 : Int) (a0 : L5) (q : Int → Option R) : Option R :=
 s1 g k a1 a2 a0 (c8 g k a1 a2 a0 (fun z7 => q z7))
theorem c9_ev (a1 a2 : Int) (a0 : L5) (K : Kont R) : V g k K [] 1 (S1 a1 a2 a0) = c9 g k a1 a2 a0 (fun z8 => K .ret (S4 z8)) :=
 (Eq.trans (by kernel_rfl) (s1_ev g k a1 a2 a0 (V g k K [true] 3) K)).trans (congrArg (fun f_ => s1 g k a1 a2 a0 f_) (c8_ev g k a1 a2 a0 K))
def b (g : Cs R) (k : Nat) (a0 : L5) (a1 a2 : Int) (K : Int → Option R) : Option R :=
 c9 g k a1 a2 a0 (fun z8 => K z8)
theorem evs (a0 : L5) (a1 a2 : Int) (KF : Ret → Option R) : evFunc E (G g) k H [] false Tryz.f80 [.val false [.row .ro q5 a0], .val false [ri a1], .val false [ri a2]] KF = b g k a0 a1 a2 (fun r1 => KF ⟨[.val false [ri r1]], []⟩) :=
 Eq.trans (by kernel_rfl) ((c9_ev g k a1 a2 a0 (fin E.P false Tryz.f80 [] KF)).trans (by kernel_rfl))
end spec_l12Held
namespace spec_l12Held
def g (k : Nat) : Cs R := ⟨()⟩
def c (k : Nat) : T R := b (g k) k
end spec_l12Held
/-! ### spec_l12Fresh: function 106 -/
namespace spec_l12Fresh
abbrev T (R : Type) : Type := Int → Int → Int → (L5) → (L3) → (L5) → Int → Int → Int → Int → ByteArray → (Bool → Option R) → Option R
def con (f : T R) : Con R := ⟨[], fun args K => match args with
 | [.val true [.s (.int .i64 A), .s (.int .i64 B), .s (.int .i64 C), D, F, J], .val true [.s (.int .i64 M), .s (.int .i64 N), .s (.int .i64 O), .s (.int .i64 P), .s (.string Q)]] => withRow q5 D fun S => withRow q3 F fun U => withRow q5 J fun W => f A B C S U W M N O P Q (fun r1 => K ⟨[.val false [.s (.bool r1)]], []⟩)
 | _ => none⟩
structure Cs (R : Type) where
  none_ : Unit := ()
  f90 : spec_NoteOk.T R
  f80 : spec_l12Held.T R
  f74 : spec_l12Mark.T R
def G (g : Cs R) : Cons R := [(90, spec_NoteOk.con g.f90), (80, spec_l12Held.con g.f80), (74, spec_l12Mark.con g.f74)]
def H : List (Nat × Meet) := []
variable (g : Cs R) (k : Nat)
def b (g : Cs R) (k : Nat) (P D Q : Int) (F : L5) (J : L3) (M : L5) (A B N C : Int) (O : ByteArray) (K : Bool → Option R) : Option R :=
 g.f90 A B N C O (fun r1 => cond r1 (cond (decide (D < C)) (g.f80 F A B (fun r2 => cond (decide (r2 < 0)) (g.f74 J A B (fun r3 => cond (decide (r3 < 0)) (g.f80 M A B (fun r4 => K (decide (r4 < 0)))) (K false))) (K false))) (K false)) (K false))
theorem evs (A B C : Int) (D : L5) (F : L3) (J : L5) (M N O P : Int) (Q : ByteArray) (KF : Ret → Option R) : evFunc E (G g) k H [] false Tryz.f106 [.val true [ri A, ri B, ri C, .row .ro q5 D, .row .ro q3 F, .row .ro q5 J], .val true [ri M, ri N, ri O, ri P, .s (.string Q)]] KF = b g k A B C D F J M N O P Q (fun r1 => KF ⟨[.val false [.s (.bool r1)]], []⟩) :=
 by kernel_rfl
end spec_l12Fresh
namespace spec_l12Fresh
def g (k : Nat) : Cs R := ⟨(), spec_NoteOk.c k, spec_l12Held.c k, spec_l12Mark.c k⟩
def c (k : Nat) : T R := b (g k) k
end spec_l12Fresh
/-! ### spec_l12Take: function 79 -/
namespace spec_l12Take
abbrev T (R : Type) : Type := Int → Int → Int → (L5) → (L3) → (L5) → Int → Int → Int → Int → ByteArray → (Int → Int → Int → (L5) → (L3) → (L5) → Bool → Option R) → Option R
def con (f : T R) : Con R := ⟨[], fun args K => match args with
 | [.val true [.s (.int .i64 A), .s (.int .i64 B), .s (.int .i64 C), D, F, J], .val true [.s (.int .i64 M), .s (.int .i64 N), .s (.int .i64 O), .s (.int .i64 P), .s (.string Q)]] => withRow q5 D fun S => withRow q3 F fun U => withRow q5 J fun W => f A B C S U W M N O P Q (fun r1 r2 r3 r4 r5 r6 r7 => K ⟨[.val true [ri r1, ri r2, ri r3, .row .ro q5 r4, .row .ro q3 r5, .row .ro q5 r6], .val false [.s (.bool r7)]], []⟩)
 | _ => none⟩
structure Cs (R : Type) where
  none_ : Unit := ()
  f106 : spec_l12Fresh.T R
  f81 : spec_l12PutNote.T R
  f85 : spec_l12PutMark.T R
def G (g : Cs R) : Cons R := [(106, spec_l12Fresh.con g.f106), (81, spec_l12PutNote.con g.f81), (85, spec_l12PutMark.con g.f85)]
def H : List (Nat × Meet) := []
variable (g : Cs R) (k : Nat)
def b (g : Cs R) (k : Nat) (A D F : Int) (B : L5) (C : L3) (J : L5) (M N O P : Int) (Q : ByteArray) (K : Int → Int → Int → (L5) → (L3) → (L5) → Bool → Option R) : Option R :=
 g.f106 A D F B C J M N O P Q (fun r1 => cond (!r1) (K A D F B C J false) (cond (!decide (O = A)) (g.f81 B M N O P Q (fun r2 => let y3 := (IntKind.wrap .i64 ((r2.length : Int) + (C.length : Int))); K A D F r2 C J (decide (y3 ≤ 12)))) (g.f81 J M N O P Q (fun r4 => g.f85 C M N P (fun r5 => let y6 := (IntKind.wrap .i64 ((B.length : Int) + (r5.length : Int))); K A D F B r5 r4 (decide (y6 ≤ 12)))))))
theorem evs (A B C : Int) (D : L5) (F : L3) (J : L5) (M N O P : Int) (Q : ByteArray) (KF : Ret → Option R) : evFunc E (G g) k H [] true Tryz.f79 [.val true [ri A, ri B, ri C, .row .ro q5 D, .row .ro q3 F, .row .ro q5 J], .val true [ri M, ri N, ri O, ri P, .s (.string Q)]] KF = b g k A B C D F J M N O P Q (fun r1 r2 r3 r4 r5 r6 r7 => KF ⟨[.val true [ri r1, ri r2, ri r3, .row .ro q5 r4, .row .ro q3 r5, .row .ro q5 r6], .val false [.s (.bool r7)]], []⟩) :=
 by kernel_rfl
end spec_l12Take
namespace spec_l12Take
def g (k : Nat) : Cs R := ⟨(), spec_l12Fresh.c k, spec_l12PutNote.c k, spec_l12PutMark.c k⟩
def c (k : Nat) : T R := b (g k) k
end spec_l12Take
/-! ### spec_l12Let: function 83 -/
namespace spec_l12Let
abbrev T (R : Type) : Type := Int → Int → Int → (L5) → (L3) → (L5) → Int → Int → (Int → Int → Int → (L5) → (L3) → (L5) → Bool → Option R) → Option R
def con (f : T R) : Con R := ⟨[], fun args K => match args with
 | [.val true [.s (.int .i64 A), .s (.int .i64 B), .s (.int .i64 C), D, F, J], .val false [.s (.int .i64 a1)], .val false [.s (.int .i64 a2)]] => withRow q5 D fun M => withRow q3 F fun N => withRow q5 J fun O => f A B C M N O a1 a2 (fun r1 r2 r3 r4 r5 r6 r7 => K ⟨[.val true [ri r1, ri r2, ri r3, .row .ro q5 r4, .row .ro q3 r5, .row .ro q5 r6], .val false [.s (.bool r7)]], []⟩)
 | _ => none⟩
structure Cs (R : Type) where
  none_ : Unit := ()
  f80 : spec_l12Held.T R
  f85 : spec_l12PutMark.T R
def G (g : Cs R) : Cons R := [(80, spec_l12Held.con g.f80), (85, spec_l12PutMark.con g.f85)]
def H : List (Nat × Meet) := []
variable (g : Cs R) (k : Nat)
def b (g : Cs R) (k : Nat) (B C D : Int) (A : L5) (F : L3) (J : L5) (a1 a2 : Int) (K : Int → Int → Int → (L5) → (L3) → (L5) → Bool → Option R) : Option R :=
 g.f80 A a1 a2 (fun r1 => cond (decide (r1 < 0)) (K B C D A F J false) (cond (decide (0 ≤ r1) && decide (r1 < (A.length : Int))) (cond (decide (0 ≤ r1) && decide (r1 ≤ (A.length : Int))) (cond (Nat.ble (([] : L5).length + (part (cs := q5) A 0 r1.toNat).length) lim) (let y2 := (([] : L5) ++ (part (cs := q5) A 0 r1.toNat)); cond (decide (0 ≤ (IntKind.wrap .i64 (r1 + 1))) && decide ((IntKind.wrap .i64 (r1 + 1)) ≤ (A.length : Int))) (cond (Nat.ble (y2.length + (part (cs := q5) A ((IntKind.wrap .i64 (r1 + 1)).toNat) (A.length - (IntKind.wrap .i64 (r1 + 1)).toNat)).length) lim) (let y3 := (y2 ++ (part (cs := q5) A ((IntKind.wrap .i64 (r1 + 1)).toNat) (A.length - (IntKind.wrap .i64 (r1 + 1)).toNat))); let y4 := (A.getD r1.toNat n5).2.2.2.1; g.f85 F a1 a2 y4 (fun r5 => K B C D y3 r5 J true)) none) none) none) none) none))
theorem evs (A B C : Int) (D : L5) (F : L3) (J : L5) (a1 a2 : Int) (KF : Ret → Option R) : evFunc E (G g) k H [] true Tryz.f83 [.val true [ri A, ri B, ri C, .row .ro q5 D, .row .ro q3 F, .row .ro q5 J], .val false [ri a1], .val false [ri a2]] KF = b g k A B C D F J a1 a2 (fun r1 r2 r3 r4 r5 r6 r7 => KF ⟨[.val true [ri r1, ri r2, ri r3, .row .ro q5 r4, .row .ro q3 r5, .row .ro q5 r6], .val false [.s (.bool r7)]], []⟩) :=
 by kernel_rfl
end spec_l12Let
namespace spec_l12Let
def g (k : Nat) : Cs R := ⟨(), spec_l12Held.c k, spec_l12PutMark.c k⟩
def c (k : Nat) : T R := b (g k) k
end spec_l12Let
/-! ### spec_l12Eat: function 84 -/
namespace spec_l12Eat
abbrev T (R : Type) : Type := Int → Int → Int → (L5) → (L3) → (L5) → Int → Int → (Int → Int → Int → (L5) → (L3) → (L5) → Bool → Option R) → Option R
def con (f : T R) : Con R := ⟨[], fun args K => match args with
 | [.val true [.s (.int .i64 A), .s (.int .i64 B), .s (.int .i64 C), D, F, J], .val false [.s (.int .i64 a1)], .val false [.s (.int .i64 a2)]] => withRow q5 D fun M => withRow q3 F fun N => withRow q5 J fun O => f A B C M N O a1 a2 (fun r1 r2 r3 r4 r5 r6 r7 => K ⟨[.val true [ri r1, ri r2, ri r3, .row .ro q5 r4, .row .ro q3 r5, .row .ro q5 r6], .val false [.s (.bool r7)]], []⟩)
 | _ => none⟩
structure Cs (R : Type) where
  none_ : Unit := ()
  f80 : spec_l12Held.T R
def G (g : Cs R) : Cons R := [(80, spec_l12Held.con g.f80)]
def H : List (Nat × Meet) := []
variable (g : Cs R) (k : Nat)
def b (g : Cs R) (k : Nat) (B C D : Int) (F : L5) (J : L3) (A : L5) (a1 a2 : Int) (K : Int → Int → Int → (L5) → (L3) → (L5) → Bool → Option R) : Option R :=
 g.f80 A a1 a2 (fun r1 => cond (decide (r1 < 0)) (K B C D F J A false) (cond (decide (0 ≤ r1) && decide (r1 ≤ (A.length : Int))) (cond (Nat.ble (([] : L5).length + (part (cs := q5) A 0 r1.toNat).length) lim) (let y2 := (([] : L5) ++ (part (cs := q5) A 0 r1.toNat)); cond (decide (0 ≤ (IntKind.wrap .i64 (r1 + 1))) && decide ((IntKind.wrap .i64 (r1 + 1)) ≤ (A.length : Int))) (cond (Nat.ble (y2.length + (part (cs := q5) A ((IntKind.wrap .i64 (r1 + 1)).toNat) (A.length - (IntKind.wrap .i64 (r1 + 1)).toNat)).length) lim) (let y3 := (y2 ++ (part (cs := q5) A ((IntKind.wrap .i64 (r1 + 1)).toNat) (A.length - (IntKind.wrap .i64 (r1 + 1)).toNat))); K B C D F J y3 true) none) none) none) none))
theorem evs (A B C : Int) (D : L5) (F : L3) (J : L5) (a1 a2 : Int) (KF : Ret → Option R) : evFunc E (G g) k H [] true Tryz.f84 [.val true [ri A, ri B, ri C, .row .ro q5 D, .row .ro q3 F, .row .ro q5 J], .val false [ri a1], .val false [ri a2]] KF = b g k A B C D F J a1 a2 (fun r1 r2 r3 r4 r5 r6 r7 => KF ⟨[.val true [ri r1, ri r2, ri r3, .row .ro q5 r4, .row .ro q3 r5, .row .ro q5 r6], .val false [.s (.bool r7)]], []⟩) :=
 by kernel_rfl
end spec_l12Eat
namespace spec_l12Eat
def g (k : Nat) : Cs R := ⟨(), spec_l12Held.c k⟩
def c (k : Nat) : T R := b (g k) k
end spec_l12Eat
/-! ### spec_l12Rec: function 43 -/
namespace spec_l12Rec
abbrev T (R : Type) : Type := Int → Int → Int → (L5) → (L3) → (L5) → ByteArray → (Int → Int → Int → (L5) → (L3) → (L5) → Bool → Option R) → Option R
def con (f : T R) : Con R := ⟨[], fun args K => match args with
 | [.val true [.s (.int .i64 A), .s (.int .i64 B), .s (.int .i64 C), D, F, J], .val false [.s (.string a1)]] => withRow q5 D fun M => withRow q3 F fun N => withRow q5 J fun O => f A B C M N O a1 (fun r1 r2 r3 r4 r5 r6 r7 => K ⟨[.val true [ri r1, ri r2, ri r3, .row .ro q5 r4, .row .ro q3 r5, .row .ro q5 r6], .val false [.s (.bool r7)]], []⟩)
 | _ => none⟩
structure Cs (R : Type) where
  none_ : Unit := ()
  f75 : spec_l3Word.T R
  f76 : spec_l3Dec.T R
  f77 : spec_l12Time.T R
  f78 : spec_NoteRead.T R
  f79 : spec_l12Take.T R
  f80 : spec_l12Held.T R
  f81 : spec_l12PutNote.T R
  f82 : spec_l3Nums.T R
  f48 : spec_l6Dec.T R
  f83 : spec_l12Let.T R
  f84 : spec_l12Eat.T R
  f74 : spec_l12Mark.T R
  f85 : spec_l12PutMark.T R
def G (g : Cs R) : Cons R := [(75, spec_l3Word.con g.f75), (76, spec_l3Dec.con g.f76), (77, spec_l12Time.con g.f77), (78, spec_NoteRead.con g.f78), (79, spec_l12Take.con g.f79), (80, spec_l12Held.con g.f80), (81, spec_l12PutNote.con g.f81), (82, spec_l3Nums.con g.f82), (48, spec_l6Dec.con g.f48), (83, spec_l12Let.con g.f83), (84, spec_l12Eat.con g.f84), (74, spec_l12Mark.con g.f74), (85, spec_l12PutMark.con g.f85)]
def H : List (Nat × Meet) := []
variable (g : Cs R) (k : Nat)
def b (g : Cs R) (k : Nat) (C F J : Int) (A : L5) (D : L3) (B : L5) (a1 : ByteArray) (K : Int → Int → Int → (L5) → (L3) → (L5) → Bool → Option R) : Option R :=
 g.f75 a1 (fun r1 r2 => let y3 := (decide (r1 = (ByteArray.mk #[116, 105, 109, 101]))); cond y3 (g.f76 r2 (fun r4 => cond (decide (r4 ≤ F)) (K C F J A D B false) (g.f77 C F J A D B r4 (fun r5 r6 r7 r8 r9 r10 => K r5 r6 r7 r8 r9 r10 true)))) (cond (decide (r1 = (ByteArray.mk #[111, 119, 110]))) (g.f78 r2 (fun r11 r12 r13 r14 r15 r16 => cond (!r16) (K C F J A D B false) (cond (!decide (r11 = C)) (K C F J A D B false) (cond (!decide (r12 = J)) (K C F J A D B false) (g.f79 C F (IntKind.wrap .i64 (J + 1)) A D B r11 r12 r13 r14 r15 (fun r17 r18 r19 r20 r21 r22 r23 => K r17 r18 r19 r20 r21 r22 r23)))))) (let y24 := (decide (r1 = (ByteArray.mk #[116, 97, 107, 101]))); cond y24 (g.f78 r2 (fun r25 r26 r27 r28 r29 r30 => cond (!r30) (K C F J A D B false) (cond (decide (r25 = C)) (K C F J A D B false) (g.f79 C F J A D B r25 r26 r27 r28 r29 (fun r31 r32 r33 r34 r35 r36 r37 => K r31 r32 r33 r34 r35 r36 r37))))) (let y38 := (decide (r1 = (ByteArray.mk #[110, 101, 120, 116]))); cond y38 (g.f76 r2 (fun r39 => cond (decide (r39 ≤ J)) (K C F J A D B false) (K C F r39 A D B true))) (let y40 := (decide (r1 = (ByteArray.mk #[104, 101, 108, 100]))); cond y40 (cond y40 (g.f78 r2 (fun r41 r42 r43 r44 r45 r46 => cond (!r46) (K C F J A D B false) (g.f80 A r41 r42 (fun r47 => cond (decide ((0 : Int) ≤ r47)) (K C F J A D B false) (g.f80 B r41 r42 (fun r48 => cond (decide ((0 : Int) ≤ r48)) (K C F J A D B false) (let y49 := (decide (r1 = (ByteArray.mk #[104, 101, 108, 100]))); cond y49 (g.f81 A r41 r42 r43 r44 r45 (fun r50 => K C F J r50 D B true)) (g.f81 B r41 r42 r43 r44 r45 (fun r51 => K C F J A D r51 true))))))))) (g.f82 r2 3 (fun r52 r53 => cond (!decide (r53 = (ByteArray.mk #[]))) (K C F J A D B false) (cond (decide (0 ≤ (0 : Int)) && decide ((0 : Int) < (r52.length : Int))) (g.f48 (r52.getD 0 (0 : Int)) (fun r54 => cond (decide (r54.size + (ByteArray.mk #[32]).size ≤ 9223372036854775807)) (cond (decide (0 ≤ (1 : Int)) && decide ((1 : Int) < (r52.length : Int))) (g.f48 (r52.getD 1 (0 : Int)) (fun r55 => cond (decide ((r54 ++ (ByteArray.mk #[32])).size + r55.size ≤ 9223372036854775807)) (cond (decide (((r54 ++ (ByteArray.mk #[32])) ++ r55).size + (ByteArray.mk #[32]).size ≤ 9223372036854775807)) (let y56 := (((r54 ++ (ByteArray.mk #[32])) ++ r55) ++ (ByteArray.mk #[32])); cond (decide (0 ≤ (2 : Int)) && decide ((2 : Int) < (r52.length : Int))) (g.f48 (r52.getD 2 (0 : Int)) (fun r57 => cond (decide (y56.size + r57.size ≤ 9223372036854775807)) (cond (!decide (r2 = (y56 ++ r57))) (K C F J A D B false) (cond (decide (r1 = (ByteArray.mk #[108, 101, 116]))) (cond (decide (0 ≤ (0 : Int)) && decide ((0 : Int) < (r52.length : Int))) (cond (decide (0 ≤ (1 : Int)) && decide ((1 : Int) < (r52.length : Int))) (g.f80 A (r52.getD 0 (0 : Int)) (r52.getD 1 (0 : Int)) (fun r58 => cond (decide (r58 < 0)) (K C F J A D B false) (cond (decide (0 ≤ r58) && decide (r58 < (A.length : Int))) (let y59 := (A.getD r58.toNat n5).2.2.2.1; cond (decide (0 ≤ (2 : Int)) && decide ((2 : Int) < (r52.length : Int))) (cond (!decide (y59 = (r52.getD 2 (0 : Int)))) (K C F J A D B false) (cond (decide (0 ≤ (0 : Int)) && decide ((0 : Int) < (r52.length : Int))) (cond (decide (0 ≤ (1 : Int)) && decide ((1 : Int) < (r52.length : Int))) (g.f83 C F J A D B (r52.getD 0 (0 : Int)) (r52.getD 1 (0 : Int)) (fun r60 r61 r62 r63 r64 r65 r66 => K r60 r61 r62 r63 r64 r65 r66)) none) none)) none) none))) none) none) (cond (decide (r1 = (ByteArray.mk #[101, 97, 116]))) (cond (decide (0 ≤ (0 : Int)) && decide ((0 : Int) < (r52.length : Int))) (cond (decide (0 ≤ (1 : Int)) && decide ((1 : Int) < (r52.length : Int))) (g.f80 B (r52.getD 0 (0 : Int)) (r52.getD 1 (0 : Int)) (fun r67 => cond (decide (r67 < 0)) (K C F J A D B false) (cond (decide (0 ≤ r67) && decide (r67 < (B.length : Int))) (let y68 := (B.getD r67.toNat n5).2.2.2.1; cond (decide (0 ≤ (2 : Int)) && decide ((2 : Int) < (r52.length : Int))) (cond (!decide (y68 = (r52.getD 2 (0 : Int)))) (K C F J A D B false) (cond (decide (0 ≤ (0 : Int)) && decide ((0 : Int) < (r52.length : Int))) (cond (decide (0 ≤ (1 : Int)) && decide ((1 : Int) < (r52.length : Int))) (g.f84 C F J A D B (r52.getD 0 (0 : Int)) (r52.getD 1 (0 : Int)) (fun r69 r70 r71 r72 r73 r74 r75 => K r69 r70 r71 r72 r73 r74 r75)) none) none)) none) none))) none) none) (let y76 := (decide (r1 = (ByteArray.mk #[109, 97, 114, 107]))); cond y76 (cond (decide (0 ≤ (0 : Int)) && decide ((0 : Int) < (r52.length : Int))) (cond (decide (0 ≤ (1 : Int)) && decide ((1 : Int) < (r52.length : Int))) (g.f74 D (r52.getD 0 (0 : Int)) (r52.getD 1 (0 : Int)) (fun r77 => cond (decide ((0 : Int) ≤ r77)) (K C F J A D B false) (cond (decide (0 ≤ (0 : Int)) && decide ((0 : Int) < (r52.length : Int))) (cond (decide (0 ≤ (1 : Int)) && decide ((1 : Int) < (r52.length : Int))) (cond (decide (0 ≤ (2 : Int)) && decide ((2 : Int) < (r52.length : Int))) (g.f85 D (r52.getD 0 (0 : Int)) (r52.getD 1 (0 : Int)) (r52.getD 2 (0 : Int)) (fun r78 => K C F J A r78 B true)) none) none) none))) none) none) (K C F J A D B false))))) none)) none) none) none)) none) none)) none)))) (let y79 := (decide (r1 = (ByteArray.mk #[105, 110, 98, 111, 120]))); cond y79 (g.f78 r2 (fun r80 r81 r82 r83 r84 r85 => cond (!r85) (K C F J A D B false) (g.f80 A r80 r81 (fun r86 => cond (decide ((0 : Int) ≤ r86)) (K C F J A D B false) (g.f80 B r80 r81 (fun r87 => cond (decide ((0 : Int) ≤ r87)) (K C F J A D B false) (let y88 := (decide (r1 = (ByteArray.mk #[104, 101, 108, 100]))); cond y88 (g.f81 A r80 r81 r82 r83 r84 (fun r89 => K C F J r89 D B true)) (g.f81 B r80 r81 r82 r83 r84 (fun r90 => K C F J A D r90 true))))))))) (g.f82 r2 3 (fun r91 r92 => cond (!decide (r92 = (ByteArray.mk #[]))) (K C F J A D B false) (cond (decide (0 ≤ (0 : Int)) && decide ((0 : Int) < (r91.length : Int))) (g.f48 (r91.getD 0 (0 : Int)) (fun r93 => cond (decide (r93.size + (ByteArray.mk #[32]).size ≤ 9223372036854775807)) (cond (decide (0 ≤ (1 : Int)) && decide ((1 : Int) < (r91.length : Int))) (g.f48 (r91.getD 1 (0 : Int)) (fun r94 => cond (decide ((r93 ++ (ByteArray.mk #[32])).size + r94.size ≤ 9223372036854775807)) (cond (decide (((r93 ++ (ByteArray.mk #[32])) ++ r94).size + (ByteArray.mk #[32]).size ≤ 9223372036854775807)) (let y95 := (((r93 ++ (ByteArray.mk #[32])) ++ r94) ++ (ByteArray.mk #[32])); cond (decide (0 ≤ (2 : Int)) && decide ((2 : Int) < (r91.length : Int))) (g.f48 (r91.getD 2 (0 : Int)) (fun r96 => cond (decide (y95.size + r96.size ≤ 9223372036854775807)) (cond (!decide (r2 = (y95 ++ r96))) (K C F J A D B false) (cond (decide (r1 = (ByteArray.mk #[108, 101, 116]))) (cond (decide (0 ≤ (0 : Int)) && decide ((0 : Int) < (r91.length : Int))) (cond (decide (0 ≤ (1 : Int)) && decide ((1 : Int) < (r91.length : Int))) (g.f80 A (r91.getD 0 (0 : Int)) (r91.getD 1 (0 : Int)) (fun r97 => cond (decide (r97 < 0)) (K C F J A D B false) (cond (decide (0 ≤ r97) && decide (r97 < (A.length : Int))) (let y98 := (A.getD r97.toNat n5).2.2.2.1; cond (decide (0 ≤ (2 : Int)) && decide ((2 : Int) < (r91.length : Int))) (cond (!decide (y98 = (r91.getD 2 (0 : Int)))) (K C F J A D B false) (cond (decide (0 ≤ (0 : Int)) && decide ((0 : Int) < (r91.length : Int))) (cond (decide (0 ≤ (1 : Int)) && decide ((1 : Int) < (r91.length : Int))) (g.f83 C F J A D B (r91.getD 0 (0 : Int)) (r91.getD 1 (0 : Int)) (fun r99 r100 r101 r102 r103 r104 r105 => K r99 r100 r101 r102 r103 r104 r105)) none) none)) none) none))) none) none) (cond (decide (r1 = (ByteArray.mk #[101, 97, 116]))) (cond (decide (0 ≤ (0 : Int)) && decide ((0 : Int) < (r91.length : Int))) (cond (decide (0 ≤ (1 : Int)) && decide ((1 : Int) < (r91.length : Int))) (g.f80 B (r91.getD 0 (0 : Int)) (r91.getD 1 (0 : Int)) (fun r106 => cond (decide (r106 < 0)) (K C F J A D B false) (cond (decide (0 ≤ r106) && decide (r106 < (B.length : Int))) (let y107 := (B.getD r106.toNat n5).2.2.2.1; cond (decide (0 ≤ (2 : Int)) && decide ((2 : Int) < (r91.length : Int))) (cond (!decide (y107 = (r91.getD 2 (0 : Int)))) (K C F J A D B false) (cond (decide (0 ≤ (0 : Int)) && decide ((0 : Int) < (r91.length : Int))) (cond (decide (0 ≤ (1 : Int)) && decide ((1 : Int) < (r91.length : Int))) (g.f84 C F J A D B (r91.getD 0 (0 : Int)) (r91.getD 1 (0 : Int)) (fun r108 r109 r110 r111 r112 r113 r114 => K r108 r109 r110 r111 r112 r113 r114)) none) none)) none) none))) none) none) (let y115 := (decide (r1 = (ByteArray.mk #[109, 97, 114, 107]))); cond y115 (cond (decide (0 ≤ (0 : Int)) && decide ((0 : Int) < (r91.length : Int))) (cond (decide (0 ≤ (1 : Int)) && decide ((1 : Int) < (r91.length : Int))) (g.f74 D (r91.getD 0 (0 : Int)) (r91.getD 1 (0 : Int)) (fun r116 => cond (decide ((0 : Int) ≤ r116)) (K C F J A D B false) (cond (decide (0 ≤ (0 : Int)) && decide ((0 : Int) < (r91.length : Int))) (cond (decide (0 ≤ (1 : Int)) && decide ((1 : Int) < (r91.length : Int))) (cond (decide (0 ≤ (2 : Int)) && decide ((2 : Int) < (r91.length : Int))) (g.f85 D (r91.getD 0 (0 : Int)) (r91.getD 1 (0 : Int)) (r91.getD 2 (0 : Int)) (fun r117 => K C F J A r117 B true)) none) none) none))) none) none) (K C F J A D B false))))) none)) none) none) none)) none) none)) none)))))))))
theorem evs (A B C : Int) (D : L5) (F : L3) (J : L5) (a1 : ByteArray) (KF : Ret → Option R) : evFunc E (G g) k H [] true Tryz.f43 [.val true [ri A, ri B, ri C, .row .ro q5 D, .row .ro q3 F, .row .ro q5 J], .val false [.s (.string a1)]] KF = b g k A B C D F J a1 (fun r1 r2 r3 r4 r5 r6 r7 => KF ⟨[.val true [ri r1, ri r2, ri r3, .row .ro q5 r4, .row .ro q3 r5, .row .ro q5 r6], .val false [.s (.bool r7)]], []⟩) :=
 by kernel_rfl
end spec_l12Rec
namespace spec_l12Rec
def g (k : Nat) : Cs R := ⟨(), spec_l3Word.c k, spec_l3Dec.c k, spec_l12Time.c k, spec_NoteRead.c k, spec_l12Take.c k, spec_l12Held.c k, spec_l12PutNote.c k, spec_l3Nums.c k, spec_l6Dec.c k, spec_l12Let.c k, spec_l12Eat.c k, spec_l12Mark.c k, spec_l12PutMark.c k⟩
def c (k : Nat) : T R := b (g k) k
end spec_l12Rec
/-! ### spec_l12Copy: function 44 -/
namespace spec_l12Copy
abbrev T (R : Type) : Type := Int → Int → Int → (L5) → (L3) → (L5) → (Int → Int → Int → (L5) → (L3) → (L5) → Option R) → Option R
def con (f : T R) : Con R := ⟨[], fun args K => match args with
 | [.val true [.s (.int .i64 A), .s (.int .i64 B), .s (.int .i64 C), D, F, J]] => withRow q5 D fun M => withRow q3 F fun N => withRow q5 J fun O => f A B C M N O (fun r1 r2 r3 r4 r5 r6 => K ⟨[.val true [ri r1, ri r2, ri r3, .row .own q5 r4, .row .own q3 r5, .row .own q5 r6]], []⟩)
 | _ => none⟩
structure Cs (R : Type) where
  none_ : Unit := ()
def G (g : Cs R) : Cons R := []
def H : List (Nat × Meet) := []
variable (g : Cs R) (k : Nat)
def b (g : Cs R) (k : Nat) (D F J : Int) (A : L5) (B : L3) (C : L5) (K : Int → Int → Int → (L5) → (L3) → (L5) → Option R) : Option R :=
 cond (Nat.ble (([] : L5).length + A.length) lim) (let y1 := (([] : L5) ++ A); cond (Nat.ble (([] : L3).length + B.length) lim) (cond (Nat.ble (([] : L5).length + C.length) lim) (let y2 := (([] : L5) ++ C); K D F J y1 (([] : L3) ++ B) y2) none) none) none
theorem evs (A B C : Int) (D : L5) (F : L3) (J : L5) (KF : Ret → Option R) : evFunc E (G g) k H [] false Tryz.f44 [.val true [ri A, ri B, ri C, .row .ro q5 D, .row .ro q3 F, .row .ro q5 J]] KF = b g k A B C D F J (fun r1 r2 r3 r4 r5 r6 => KF ⟨[.val true [ri r1, ri r2, ri r3, .row .own q5 r4, .row .own q3 r5, .row .own q5 r6]], []⟩) :=
 by kernel_rfl
end spec_l12Copy
namespace spec_l12Copy
def g (k : Nat) : Cs R := ⟨()⟩
def c (k : Nat) : T R := b (g k) k
end spec_l12Copy
/-! ### spec_KeepDo: function 21 -/
namespace spec_KeepDo
abbrev T (R : Type) : Type := Int → Int → Int → (L5) → (L3) → (L5) → ByteArray → (Int → Int → Int → (L5) → (L3) → (L5) → Bool → Option R) → Option R
def con (f : T R) : Con R := ⟨[], fun args K => match args with
 | [.val true [.s (.int .i64 A), .s (.int .i64 B), .s (.int .i64 C), D, F, J], .val false [.s (.string a1)]] => withRow q5 D fun M => withRow q3 F fun N => withRow q5 J fun O => f A B C M N O a1 (fun r1 r2 r3 r4 r5 r6 r7 => K ⟨[.val true [ri r1, ri r2, ri r3, .row .own q5 r4, .row .own q3 r5, .row .own q5 r6], .val false [.s (.bool r7)]], []⟩)
 | _ => none⟩
structure Cs (R : Type) where
  none_ : Unit := ()
  f42 : spec_KeepOk.T R
  f44 : spec_l12Copy.T R
  f43 : spec_l12Rec.T R
def G (g : Cs R) : Cons R := [(42, spec_KeepOk.con g.f42), (44, spec_l12Copy.con g.f44), (43, spec_l12Rec.con g.f43)]
def H : List (Nat × Meet) := []
variable (g : Cs R) (k : Nat)
def b (g : Cs R) (k : Nat) (A B C : Int) (D : L5) (F : L3) (J : L5) (a1 : ByteArray) (K : Int → Int → Int → (L5) → (L3) → (L5) → Bool → Option R) : Option R :=
 g.f42 A B C D F J (fun r1 => cond (!r1) (K 0 0 0 [] [] [] false) (g.f44 A B C D F J (fun r2 r3 r4 r5 r6 r7 => g.f43 r2 r3 r4 r5 r6 r7 a1 (fun r8 r9 r10 r11 r12 r13 r14 => cond (!r14) (g.f44 A B C D F J (fun r15 r16 r17 r18 r19 r20 => K r15 r16 r17 r18 r19 r20 false)) (g.f42 r8 r9 r10 r11 r12 r13 (fun r21 => cond (!r21) (g.f44 A B C D F J (fun r22 r23 r24 r25 r26 r27 => K r22 r23 r24 r25 r26 r27 false)) (g.f44 r8 r9 r10 r11 r12 r13 (fun r28 r29 r30 r31 r32 r33 => K r28 r29 r30 r31 r32 r33 true))))))))
theorem evs (A B C : Int) (D : L5) (F : L3) (J : L5) (a1 : ByteArray) (KF : Ret → Option R) : evFunc E (G g) k H [] false Tryz.f21 [.val true [ri A, ri B, ri C, .row .ro q5 D, .row .ro q3 F, .row .ro q5 J], .val false [.s (.string a1)]] KF = b g k A B C D F J a1 (fun r1 r2 r3 r4 r5 r6 r7 => KF ⟨[.val true [ri r1, ri r2, ri r3, .row .own q5 r4, .row .own q3 r5, .row .own q5 r6], .val false [.s (.bool r7)]], []⟩) :=
 by kernel_rfl
end spec_KeepDo
namespace spec_KeepDo
def g (k : Nat) : Cs R := ⟨(), spec_KeepOk.c k, spec_l12Copy.c k, spec_l12Rec.c k⟩
def c (k : Nat) : T R := b (g k) k
end spec_KeepDo
/-! ### spec_l6Open: function 23 -/
namespace spec_l6Open
abbrev T (R : Type) : Type := List Int → (List Int → Int → Option R) → Option R
def con (f : T R) : Con R := ⟨[], fun args K => match args with
 | [.val false [pa0]] => withRow [.int .u8] pa0 fun a0 => f a0 (fun r1 r2 => K ⟨[.ref [.row .ro [.int .u8] r1, ri r2]], []⟩)
 | _ => none⟩
structure Cs (R : Type) where
  none_ : Unit := ()
def G (g : Cs R) : Cons R := []
def H : List (Nat × Meet) := []
variable (g : Cs R) (k : Nat)
def b (g : Cs R) (k : Nat) (a0 : List Int) (K : List Int → Int → Option R) : Option R :=
 cond (decide ((2000 : Int) < (a0.length : Int))) (cond (decide (0 ≤ (2000 : Int)) && decide ((2000 : Int) ≤ (a0.length : Int))) (K (part (cs := [.int .u8]) a0 0 2000) 0) none) (K a0 0)
theorem evs (a0 : List Int) (KF : Ret → Option R) : evFunc E (G g) k H [] false Tryz.f23 [.val false [.row .ro [.int .u8] a0]] KF = b g k a0 (fun r1 r2 => KF ⟨[.ref [.row .ro [.int .u8] r1, ri r2]], []⟩) :=
 by kernel_rfl
end spec_l6Open
namespace spec_l6Open
def g (k : Nat) : Cs R := ⟨()⟩
def c (k : Nat) : T R := b (g k) k
end spec_l6Open
/-! ### spec_l6Rd_pick: function 24 -/
namespace spec_l6Rd_pick
abbrev T (R : Type) : Type := List Int → Int → Int → (Int → Int → Option R) → Option R
def con (f : T R) : Con R := ⟨[], fun args K => match args with
 | [.ref [B, .s (.int .i64 C)], .val false [.s (.int .i64 a1)]] => withRow [.int .u8] B fun A => f A C a1 (fun r1 r2 => K ⟨[.val false [ri r1]], [[.row .ro [.int .u8] A, ri r2]]⟩)
 | _ => none⟩
structure Cs (R : Type) where
  none_ : Unit := ()
def G (g : Cs R) : Cons R := []
def H : List (Nat × Meet) := []
variable (g : Cs R) (k : Nat)
def b (g : Cs R) (k : Nat) (A : List Int) (B a1 : Int) (K : Int → Int → Option R) : Option R :=
 cond (decide (a1 < 1)) (K 0 (IntKind.wrap .i64 (B + 1))) (cond (decide ((A.length : Int) = 0)) (K 0 (IntKind.wrap .i64 (B + 1))) (let y1 := (IntKind.wrap .i64 ((IntKind.wrap .i64 (B + 1)) - 1)); cond (decide (y1 < (A.length : Int))) (cond (decide (0 ≤ y1) && decide (y1 < (A.length : Int))) (let y2 := (IntKind.wrap .i64 ((A.getD y1.toNat (0 : Int)))); cond (!decide (a1 = 0)) (K (Int.tmod y2 a1) (IntKind.wrap .i64 (B + 1))) none) none) (cond (!decide ((A.length : Int) = 0)) (cond (decide (0 ≤ (Int.tmod y1 (A.length : Int))) && decide ((Int.tmod y1 (A.length : Int)) < (A.length : Int))) (let y3 := (A.getD ((Int.tmod y1 (A.length : Int)).toNat) (0 : Int)); let y4 := (IntKind.wrap .i64 ((IntKind.wrap .i64 (y3)) * 131)); let y5 := (IntKind.wrap .i64 ((IntKind.wrap .i64 (y1 * 7)) + 3)); cond (!decide ((A.length : Int) = 0)) (cond (decide (0 ≤ (Int.tmod y5 (A.length : Int))) && decide ((Int.tmod y5 (A.length : Int)) < (A.length : Int))) (let y6 := (A.getD ((Int.tmod y5 (A.length : Int)).toNat) (0 : Int)); let y7 := (IntKind.wrap .i64 ((IntKind.wrap .i64 (y6)) * 1117)); let y8 := (IntKind.wrap .i64 ((IntKind.wrap .i64 (y4 + y7)) + (IntKind.wrap .i64 (y1 * 29)))); cond (!decide ((A.length : Int) = 0)) (let y9 := (IntKind.wrap .i64 (Int.tdiv y1 (A.length : Int))); let y10 := (IntKind.wrap .i64 (y8 + (IntKind.wrap .i64 (y9 * 53)))); cond (!decide ((64 : Int) = 0)) (let y11 := (IntKind.wrap .i64 (((BitVec.ofInt (IntKind.bits .i64) y10 ^^^ BitVec.ofInt (IntKind.bits .i64) (IntKind.wrap .i64 (Int.tdiv y10 64))).toNat : Int))); cond (!decide (a1 = 0)) (K (Int.tmod y11 a1) (IntKind.wrap .i64 (B + 1))) none) none) none) none) none) none) none)))
theorem evs (A : List Int) (B a1 : Int) (KF : Ret → Option R) : evFunc E (G g) k H [] false Tryz.f24 [.ref [.row .ro [.int .u8] A, ri B], .val false [ri a1]] KF = b g k A B a1 (fun r1 r2 => KF ⟨[.val false [ri r1]], [[.row .ro [.int .u8] A, ri r2]]⟩) :=
 by kernel_rfl
end spec_l6Rd_pick
namespace spec_l6Rd_pick
def g (k : Nat) : Cs R := ⟨()⟩
def c (k : Nat) : T R := b (g k) k
end spec_l6Rd_pick
/-! ### spec_l6Rd_of: function 88 -/
namespace spec_l6Rd_of
abbrev T (R : Type) : Type := List Int → Int → List ByteArray → (ByteArray → Int → Option R) → Option R
def con (f : T R) : Con R := ⟨[], fun args K => match args with
 | [.ref [B, .s (.int .i64 C)], .val false [pa1]] => withRow [.int .u8] B fun A => withRow [.str] pa1 fun a1 => f A C a1 (fun r1 r2 => K ⟨[.val false [.s (.string r1)]], [[.row .ro [.int .u8] A, ri r2]]⟩)
 | _ => none⟩
structure Cs (R : Type) where
  none_ : Unit := ()
  f24 : spec_l6Rd_pick.T R
def G (g : Cs R) : Cons R := [(24, spec_l6Rd_pick.con g.f24)]
def H : List (Nat × Meet) := []
variable (g : Cs R) (k : Nat)
def b (g : Cs R) (k : Nat) (A : List Int) (B : Int) (a1 : List ByteArray) (K : ByteArray → Int → Option R) : Option R :=
 g.f24 A B (a1.length : Int) (fun r1 r2 => cond (decide (0 ≤ r1) && decide (r1 < (a1.length : Int))) (K (a1.getD r1.toNat ByteArray.empty) r2) none)
theorem evs (A : List Int) (B : Int) (a1 : List ByteArray) (KF : Ret → Option R) : evFunc E (G g) k H [] false Tryz.f88 [.ref [.row .ro [.int .u8] A, ri B], .val false [.row .ro [.str] a1]] KF = b g k A B a1 (fun r1 r2 => KF ⟨[.val false [.s (.string r1)]], [[.row .ro [.int .u8] A, ri r2]]⟩) :=
 by kernel_rfl
end spec_l6Rd_of
namespace spec_l6Rd_of
def g (k : Nat) : Cs R := ⟨(), spec_l6Rd_pick.c k⟩
def c (k : Nat) : T R := b (g k) k
end spec_l6Rd_of
/-! ### spec_l6Many: function 91 -/
namespace spec_l6Many
abbrev T (R : Type) : Type := ByteArray → Int → (ByteArray → Option R) → Option R
def con (f : T R) : Con R := ⟨[], fun args K => match args with
 | [.val false [.s (.string a0)], .val false [.s (.int .i64 a1)]] => f a0 a1 (fun r1 => K ⟨[.val false [.s (.string r1)]], []⟩)
 | _ => none⟩
structure Cs (R : Type) where
  none_ : Unit := ()
def G (g : Cs R) : Cons R := []
def H : List (Nat × Meet) := [(6, ⟨[(0, []), (1, []), (5, [])], []⟩), (28, ⟨[(0, []), (1, []), (5, [])], []⟩), (31, ⟨[(4, [])], []⟩), (113, ⟨[(0, []), (1, []), (5, [])], []⟩), (451, ⟨[(5, [])], []⟩)]
abbrev S1 (x1 : ByteArray) (x2 : Int) (x3 : ByteArray) : St := mkSt [(0, .c (.s (.string x1))), (1, .c (si x2)), (5, .c (.s (.string x3)))] []
abbrev S2 (x1 : ByteArray) : St := mkSt [(5, .c (.s (.string x1)))] []
abbrev S3 (x1 : ByteArray) : St := mkSt [(4, .c (.s (.string x1)))] []
noncomputable abbrev V (g : Cs R) (k : Nat) (K : Kont R) (b : List Bool) (p : Nat) (st : St) : Option R := ev E (G g) k H (nodeAt (bodyOf Tryz.f91) b) p st K
noncomputable abbrev U (g : Cs R) (k : Nat) (n : Nat) (b : List Bool) : Nat → St → (St → Option R) → Kont R → Option R := evPre E (G g) k H n (nodeAt (bodyOf Tryz.f91) b)
noncomputable abbrev W (g : Cs R) (k : Nat) (b : List Bool) (p : Nat) : St → Kont R → Option R := ev E (G g) k H (nodeAt (bodyOf Tryz.f91) b) p
variable (g : Cs R) (k : Nat)
def s1 (g : Cs R) (k : Nat) (a0 : ByteArray) (a1 : Int) (j : ByteArray → Option R) : Option R :=
 j (ByteArray.mk #[])
theorem s1_ev (a0 : ByteArray) (a1 : Int) (X : St → Option R) (K : Kont R) : U g k 2 [] 1 (mkSt [(0, .c (.s (.string a0))), (1, .c (si a1))] []) X K = s1 g k a0 a1 (fun z0 => X (S1 a0 a1 z0)) := by kernel_rfl
def s2 (g : Cs R) (k : Nat) (z1 : ByteArray) (z2 : Int) (z3 : ByteArray) (j : ByteArray → Int → ByteArray → Option R) (x0 : Option R) : Option R :=
 cond (decide ((0 : Int) < z2)) (cond (!decide ((2 : Int) = 0)) (cond (decide ((Int.tmod z2 2) = 1)) (cond (decide (z3.size + z1.size ≤ 9223372036854775807)) (cond (decide (z1.size + z1.size ≤ 9223372036854775807)) (cond (!decide ((2 : Int) = 0)) (j (z1 ++ z1) (IntKind.wrap .i64 (Int.tdiv z2 2)) (z3 ++ z1)) none) none) none) (cond (decide (z1.size + z1.size ≤ 9223372036854775807)) (cond (!decide ((2 : Int) = 0)) (j (z1 ++ z1) (IntKind.wrap .i64 (Int.tdiv z2 2)) z3) none) none)) none) (x0)
theorem s2_ev (z1 : ByteArray) (z2 : Int) (z3 : ByteArray) (K : Kont R) : V g k K [true, true, false, false, false] 56 (S1 z1 z2 z3) = s2 g k z1 z2 z3 (fun z4 z5 z6 => K .normal (S1 z4 z5 z6)) (K (.exit 0) (S2 z3)) := by kernel_rfl
def l3r (g : Cs R) (k : Nat)  (x0 : ByteArray → Option R) : Nat → ByteArray → Int → ByteArray → Option R
 | 0, _, _, _ => none
 | n + 1, z1, z2, z3 => s2 g k z1 z2 z3 (fun z4 z5 z6 => l3r g k x0 n z4 z5 z6) (x0 z3)
def l3 (g : Cs R) (k : Nat) (a0 : ByteArray) (a1 : Int) (z0 : ByteArray) (x0 : ByteArray → Option R) : Option R := l3r g k x0 k a0 a1 z0
theorem l3r_ev  (K : Kont R) : ∀ (n : Nat) (z1 : ByteArray) (z2 : Int) (z3 : ByteArray), evLoop (W g k [true, true, false, false, false] 56) (atMeet H 28) K n (S1 z1 z2 z3) = l3r g k (fun z7 => K (.exit 0) (S2 z7)) n z1 z2 z3 := by
 intro n
 induction n with
 | zero => intros; rfl
 | succ n ih =>
  intro z1 z2 z3
  exact Eq.trans (by kernel_rfl) ((s2_ev g k z1 z2 z3 (loopK (W g k [true, true, false, false, false] 56) (atMeet H 28) K n)).trans (Eq.trans (by kernel_rfl) (congrArg (fun f_ => s2 g k z1 z2 z3 f_ (K (.exit 0) (S2 z3))) (funext fun (z4 : ByteArray) => (funext fun (z5 : Int) => (funext fun (z6 : ByteArray) => (ih z4 z5 z6)))))))
theorem l3_ev (a0 : ByteArray) (a1 : Int) (z0 : ByteArray) (K : Kont R) : V g k K [true, true, false, false] 28 (S1 a0 a1 z0) = l3 g k a0 a1 z0 (fun z7 => K (.exit 0) (S2 z7)) :=
 Eq.trans (by kernel_rfl) (l3r_ev g k K k a0 a1 z0)
def b4 (g : Cs R) (k : Nat) (a0 : ByteArray) (a1 : Int) (z0 : ByteArray) (j : ByteArray → Option R) : Option R :=
 l3 g k a0 a1 z0 (fun z7 => j z7)
theorem b4_ev (a0 : ByteArray) (a1 : Int) (z0 : ByteArray) (K : Kont R) : V g k K [true, true, false] 14 (S1 a0 a1 z0) = b4 g k a0 a1 z0 (fun z8 => K .normal (S2 z8)) :=
 Eq.trans (by kernel_rfl) ((l3_ev g k a0 a1 z0 (blockK 0 (fun st => K .normal (atMeet H 14 st)) K)).trans (by kernel_rfl))
def s5 (g : Cs R) (k : Nat) (z8 : ByteArray) (q : Option R) : Option R :=
 q
theorem s5_ev (z8 : ByteArray) (K : Kont R) : V g k K [true, true, true] 15 (S2 z8) = s5 g k z8 (K .ret (S3 z8)) := by kernel_rfl
def c6 (g : Cs R) (k : Nat) (a0 : ByteArray) (a1 : Int) (z0 : ByteArray) (q : ByteArray → Option R) : Option R :=
 b4 g k a0 a1 z0 (fun z8 => s5 g k z8 (q z8))
theorem c6_ev (a0 : ByteArray) (a1 : Int) (z0 : ByteArray) (K : Kont R) : V g k K [true, true] 7 (S1 a0 a1 z0) = c6 g k a0 a1 z0 (fun z9 => K .ret (S3 z9)) :=
 (Eq.trans (by kernel_rfl) (b4_ev g k a0 a1 z0 (seqK (V g k K [true, true, true] 15) K))).trans (congrArg (fun f_ => b4 g k a0 a1 z0 f_) (funext fun (z8 : ByteArray) => (seqN (f := (V g k K [true, true, true] 15)) (K := K) (s5_ev g k z8 K))))
def c7 (g : Cs R) (k : Nat) (a0 : ByteArray) (a1 : Int) (q : ByteArray → Option R) : Option R :=
 s1 g k a0 a1 (fun z0 => c6 g k a0 a1 z0 (fun z9 => q z9))
theorem c7_ev (a0 : ByteArray) (a1 : Int) (K : Kont R) : V g k K [] 1 (mkSt [(0, .c (.s (.string a0))), (1, .c (si a1))] []) = c7 g k a0 a1 (fun z10 => K .ret (S3 z10)) :=
 (Eq.trans (by kernel_rfl) (s1_ev g k a0 a1 (V g k K [true, true] 7) K)).trans (congrArg (fun f_ => s1 g k a0 a1 f_) (funext fun (z0 : ByteArray) => (c6_ev g k a0 a1 z0 K)))
def b (g : Cs R) (k : Nat) (a0 : ByteArray) (a1 : Int) (K : ByteArray → Option R) : Option R :=
 c7 g k a0 a1 (fun z10 => K z10)
theorem evs (a0 : ByteArray) (a1 : Int) (KF : Ret → Option R) : evFunc E (G g) k H [] false Tryz.f91 [.val false [.s (.string a0)], .val false [ri a1]] KF = b g k a0 a1 (fun r1 => KF ⟨[.val false [.s (.string r1)]], []⟩) :=
 Eq.trans (by kernel_rfl) ((c7_ev g k a0 a1 (fin E.P false Tryz.f91 [] KF)).trans (by kernel_rfl))
end spec_l6Many
namespace spec_l6Many
def g (k : Nat) : Cs R := ⟨()⟩
def c (k : Nat) : T R := b (g k) k
end spec_l6Many
/-! ### spec_l72Text: function 89 -/
namespace spec_l72Text
abbrev T (R : Type) : Type := List Int → Int → (ByteArray → Int → Option R) → Option R
def con (f : T R) : Con R := ⟨[], fun args K => match args with
 | [.ref [B, .s (.int .i64 C)]] => withRow [.int .u8] B fun A => f A C (fun r1 r2 => K ⟨[.val false [.s (.string r1)]], [[.row .ro [.int .u8] A, ri r2]]⟩)
 | _ => none⟩
structure Cs (R : Type) where
  none_ : Unit := ()
  f24 : spec_l6Rd_pick.T R
  f91 : spec_l6Many.T R
  f88 : spec_l6Rd_of.T R
def G (g : Cs R) : Cons R := [(24, spec_l6Rd_pick.con g.f24), (91, spec_l6Many.con g.f91), (88, spec_l6Rd_of.con g.f88)]
def H : List (Nat × Meet) := [(2, ⟨[(0, [(0, [.int .u8])])], [31]⟩), (12, ⟨[(0, [(0, [.int .u8])]), (6, [])], [31]⟩), (15, ⟨[(2, [])], [31]⟩), (52, ⟨[(0, [(0, [.int .u8])]), (6, []), (7, [])], [31]⟩), (213, ⟨[(2, [])], [31]⟩), (214, ⟨[(0, [(0, [.int .u8])]), (14, [])], [31]⟩), (431, ⟨[(0, [(0, [.int .u8])])], [31]⟩), (860, ⟨[(0, [(0, [.int .u8])]), (3, [(0, [.int .u8])])], [31]⟩), (3444, ⟨[(0, [(0, [.int .u8])]), (3, [(0, [.int .u8])]), (4, [])], [31]⟩), (3447, ⟨[(2, [])], [31]⟩), (6890, ⟨[(0, [(0, [.int .u8])]), (3, [(0, [.int .u8])]), (4, [])], [31]⟩), (55123, ⟨[(0, [(0, [.int .u8])]), (3, [(0, [.int .u8])]), (4, [])], [31]⟩), (110243, ⟨[(3, [(0, [.int .u8])])], [31]⟩)]
abbrev S1 (x1 : Int) (x2 : List Int) : St := mkSt [(0, .c (.ptr 31 0 0))] [(31, .box [.sl 0, si x1]), (0, .row .ro [.int .u8] x2)]
abbrev S2 (x1 x2 : Int) (x3 : List Int) : St := mkSt [(0, .c (.ptr 31 0 0)), (6, .c (si x1))] [(31, .box [.sl 0, si x2]), (0, .row .ro [.int .u8] x3)]
abbrev S3 (x1 : Int) (x2 : Bool) (x3 : Int) (x4 : List Int) : St := mkSt [(0, .c (.ptr 31 0 0)), (6, .c (si x1)), (7, .c (.s (.bool x2)))] [(31, .box [.sl 0, si x3]), (0, .row .ro [.int .u8] x4)]
abbrev S4 (x1 : ByteArray) (x2 : Int) (x3 : List Int) : St := mkSt [(2, .c (.s (.string x1)))] [(31, .box [.sl 0, si x2]), (0, .row .ro [.int .u8] x3)]
abbrev S5 (x1 : Bool) (x2 : Int) (x3 : List Int) : St := mkSt [(0, .c (.ptr 31 0 0)), (14, .c (.s (.bool x1)))] [(31, .box [.sl 0, si x2]), (0, .row .ro [.int .u8] x3)]
abbrev S6 (x1 : Int) (x2 x3 : List Int) : St := mkSt [(0, .c (.ptr 31 0 0)), (3, .c (.sl 9003))] [(31, .box [.sl 0, si x1]), (9003, .row .own [.int .u8] x2), (0, .row .ro [.int .u8] x3)]
abbrev S7 (x1 x2 : Int) (x3 x4 : List Int) : St := mkSt [(0, .c (.ptr 31 0 0)), (3, .c (.sl 9003)), (4, .c (si x1))] [(31, .box [.sl 0, si x2]), (9003, .row .own [.int .u8] x3), (0, .row .ro [.int .u8] x4)]
abbrev S8 (x1 : Int) (x2 x3 : List Int) : St := mkSt [(3, .c (.sl 9003))] [(31, .box [.sl 0, si x1]), (9003, .row .own [.int .u8] x2), (0, .row .ro [.int .u8] x3)]
noncomputable abbrev V (g : Cs R) (k : Nat) (K : Kont R) (b : List Bool) (p : Nat) (st : St) : Option R := ev E (G g) k H (nodeAt (bodyOf Tryz.f89) b) p st K
noncomputable abbrev U (g : Cs R) (k : Nat) (n : Nat) (b : List Bool) : Nat → St → (St → Option R) → Kont R → Option R := evPre E (G g) k H n (nodeAt (bodyOf Tryz.f89) b)
noncomputable abbrev W (g : Cs R) (k : Nat) (b : List Bool) (p : Nat) : St → Kont R → Option R := ev E (G g) k H (nodeAt (bodyOf Tryz.f89) b) p
variable (g : Cs R) (k : Nat)
def s1 (g : Cs R) (k : Nat) (A : Int) (B : List Int) (j : Option R) : Option R :=
 j
theorem s1_ev (A : Int) (B : List Int) (X : St → Option R) (K : Kont R) : U g k 1 [] 1 (S1 A B) X K = s1 g k A B (X (S1 A B)) := by kernel_rfl
def s2 (g : Cs R) (k : Nat) (A : Int) (B : List Int) (j : Int → Int → Option R) : Option R :=
 g.f24 B A 8 (fun r1 r2 => j r1 r2)
theorem s2_ev (B : Int) (A : List Int) (X : St → Option R) (K : Kont R) : U g k 1 [true, false] 6 (S1 B A) X K = s2 g k B A (fun z0 z1 => X (S2 z0 z1 A)) := by kernel_rfl
def s3 (g : Cs R) (k : Nat) (z0 z1 : Int) (A : List Int) (j : Bool → Option R) : Option R :=
 j (decide (z0 = 0))
theorem s3_ev (z0 z1 : Int) (A : List Int) (X : St → Option R) (K : Kont R) : U g k 1 [true, false, true, false] 26 (S2 z0 z1 A) X K = s3 g k z0 z1 A (fun z2 => X (S3 z0 z2 z1 A)) := by kernel_rfl
def s4 (g : Cs R) (k : Nat) (z0 : Int) (z2 : Bool) (z1 : Int) (A : List Int) (q : ByteArray → Int → Option R) : Option R :=
 g.f91 (ByteArray.mk #[120]) 24 (fun r1 => g.f91 (ByteArray.mk #[121]) 25 (fun r2 => let y3 := ([(ByteArray.mk #[]), r1, r2, (ByteArray.mk #[0, 1]), (ByteArray.mk #[97, 10])] : List ByteArray); g.f88 A z1 y3 (fun r4 r5 => q r4 r5)))
theorem s4_ev (z0 : Int) (z2 : Bool) (z1 : Int) (A : List Int) (K : Kont R) : V g k K [true, false, true, false, true, false] 106 (S3 z0 z2 z1 A) = s4 g k z0 z2 z1 A (fun z3 z4 => K .ret (S4 z3 z4 A)) := by kernel_rfl
def s5 (g : Cs R) (k : Nat) (z0 : Int) (z2 : Bool) (z1 : Int) (A : List Int) (j : Bool → Option R) : Option R :=
 j (decide (z0 = 1))
theorem s5_ev (z0 : Int) (z2 : Bool) (z1 : Int) (A : List Int) (X : St → Option R) (K : Kont R) : U g k 1 [true, false, true, false, true, true] 107 (S3 z0 z2 z1 A) X K = s5 g k z0 z2 z1 A (fun z5 => X (S5 z5 z1 A)) := by kernel_rfl
def s6 (g : Cs R) (k : Nat) (z5 : Bool) (z1 : Int) (A : List Int) (j : List Int → Option R) : Option R :=
 j ([] : List Int)
theorem s6_ev (z5 : Bool) (z1 : Int) (A : List Int) (X : St → Option R) (K : Kont R) : U g k 1 [true, false, true, false, true, true, true, false] 430 (S5 z5 z1 A) X K = s6 g k z5 z1 A (fun z6 => X (S6 z1 z6 A)) := by kernel_rfl
def s7 (g : Cs R) (k : Nat) (z1 : Int) (z6 A : List Int) (j : Int → Int → Option R) : Option R :=
 g.f24 A z1 20 (fun r1 r2 => j (IntKind.wrap .i64 ((1 : Int) + r1)) r2)
theorem s7_ev (z1 : Int) (z6 A : List Int) (X : St → Option R) (K : Kont R) : U g k 1 [true, false, true, false, true, true, true, false, true, false] 1722 (S6 z1 z6 A) X K = s7 g k z1 z6 A (fun z7 z8 => X (S7 z7 z8 z6 A)) := by kernel_rfl
def s8 (g : Cs R) (k : Nat) (z9 z10 : Int) (z11 A : List Int) (j : Int → Int → List Int → Option R) (x1 : Option R) : Option R :=
 cond (decide ((0 : Int) < z9)) (g.f24 A z10 256 (fun r1 r2 => cond (Nat.ble (z11.length + ([(IntKind.wrap .u8 (r1))] : List Int).length) lim) (let y3 := (z11 ++ ([(IntKind.wrap .u8 (r1))] : List Int)); j (IntKind.wrap .i64 (z9 - 1)) r2 y3) none)) (x1)
theorem s8_ev (z9 z10 : Int) (z11 A : List Int) (K : Kont R) : V g k K [true, false, true, false, true, true, true, false, true, false, true, false, false] 13780 (S7 z9 z10 z11 A) = s8 g k z9 z10 z11 A (fun z12 z13 z14 => K .normal (S7 z12 z13 z14 A)) (K (.exit 1) (S8 z10 z11 A)) := by kernel_rfl
def l9r (g : Cs R) (k : Nat) (A : List Int) (x1 : Int → List Int → Option R) : Nat → Int → Int → List Int → Option R
 | 0, _, _, _ => none
 | n + 1, z9, z10, z11 => s8 g k z9 z10 z11 A (fun z12 z13 z14 => l9r g k A x1 n z12 z13 z14) (x1 z10 z11)
def l9 (g : Cs R) (k : Nat) (z7 z8 : Int) (z6 A : List Int) (x1 : Int → List Int → Option R) : Option R := l9r g k A x1 k z7 z8 z6
theorem l9r_ev (A : List Int) (K : Kont R) : ∀ (n : Nat) (z9 z10 : Int) (z11 : List Int), evLoop (W g k [true, false, true, false, true, true, true, false, true, false, true, false, false] 13780) (atMeet H 6890) K n (S7 z9 z10 z11 A) = l9r g k A (fun z15 z16 => K (.exit 1) (S8 z15 z16 A)) n z9 z10 z11 := by
 intro n
 induction n with
 | zero => intros; rfl
 | succ n ih =>
  intro z9 z10 z11
  exact Eq.trans (by kernel_rfl) ((s8_ev g k z9 z10 z11 A (loopK (W g k [true, false, true, false, true, true, true, false, true, false, true, false, false] 13780) (atMeet H 6890) K n)).trans (Eq.trans (by kernel_rfl) (congrArg (fun f_ => s8 g k z9 z10 z11 A f_ (K (.exit 1) (S8 z10 z11 A))) (funext fun (z12 : Int) => (funext fun (z13 : Int) => (funext fun (z14 : List Int) => (ih z12 z13 z14)))))))
theorem l9_ev (z7 z8 : Int) (z6 A : List Int) (K : Kont R) : V g k K [true, false, true, false, true, true, true, false, true, false, true, false] 6890 (S7 z7 z8 z6 A) = l9 g k z7 z8 z6 A (fun z15 z16 => K (.exit 1) (S8 z15 z16 A)) :=
 Eq.trans (by kernel_rfl) (l9r_ev g k A K k z7 z8 z6)
def b10 (g : Cs R) (k : Nat) (z7 z8 : Int) (z6 A : List Int) (j : Int → List Int → Option R) : Option R :=
 l9 g k z7 z8 z6 A (fun z15 z16 => j z15 z16)
theorem b10_ev (z7 z8 : Int) (z6 A : List Int) (K : Kont R) : V g k K [true, false, true, false, true, true, true, false, true, false, true] 3445 (S7 z7 z8 z6 A) = b10 g k z7 z8 z6 A (fun z17 z18 => K .normal (S8 z17 z18 A)) :=
 Eq.trans (by kernel_rfl) ((l9_ev g k z7 z8 z6 A (blockK 1 (fun st => K .normal (atMeet H 3445 st)) K)).trans (by kernel_rfl))
def c11 (g : Cs R) (k : Nat) (z1 : Int) (z6 A : List Int) (j : Int → List Int → Option R) : Option R :=
 s7 g k z1 z6 A (fun z7 z8 => b10 g k z7 z8 z6 A (fun z17 z18 => j z17 z18))
theorem c11_ev (z1 : Int) (z6 A : List Int) (K : Kont R) : V g k K [true, false, true, false, true, true, true, false, true, false] 1722 (S6 z1 z6 A) = c11 g k z1 z6 A (fun z19 z20 => K .normal (S8 z19 z20 A)) :=
 (Eq.trans (by kernel_rfl) (s7_ev g k z1 z6 A (V g k K [true, false, true, false, true, true, true, false, true, false, true] 3445) K)).trans (congrArg (fun f_ => s7 g k z1 z6 A f_) (funext fun (z7 : Int) => (funext fun (z8 : Int) => (b10_ev g k z7 z8 z6 A K))))
def s12 (g : Cs R) (k : Nat) (z19 : Int) (z20 A : List Int) (q : ByteArray → Option R) : Option R :=
 q (ofBytes z20)
theorem s12_ev (z19 : Int) (z20 A : List Int) (K : Kont R) : V g k K [true, false, true, false, true, true, true, false, true, true] 1723 (S8 z19 z20 A) = s12 g k z19 z20 A (fun z21 => K .ret (S4 z21 z19 A)) := by kernel_rfl
def c13 (g : Cs R) (k : Nat) (z1 : Int) (z6 A : List Int) (q : ByteArray → Int → Option R) : Option R :=
 c11 g k z1 z6 A (fun z19 z20 => s12 g k z19 z20 A (fun z21 => q z21 z19))
theorem c13_ev (z1 : Int) (z6 A : List Int) (K : Kont R) : V g k K [true, false, true, false, true, true, true, false, true] 861 (S6 z1 z6 A) = c13 g k z1 z6 A (fun z22 z23 => K .ret (S4 z22 z23 A)) :=
 (Eq.trans (by kernel_rfl) (c11_ev g k z1 z6 A (seqK (V g k K [true, false, true, false, true, true, true, false, true, true] 1723) K))).trans (congrArg (fun f_ => c11 g k z1 z6 A f_) (funext fun (z19 : Int) => (funext fun (z20 : List Int) => (seqN (f := (V g k K [true, false, true, false, true, true, true, false, true, true] 1723)) (K := K) (s12_ev g k z19 z20 A K)))))
def c14 (g : Cs R) (k : Nat) (z5 : Bool) (z1 : Int) (A : List Int) (q : ByteArray → Int → Option R) : Option R :=
 s6 g k z5 z1 A (fun z6 => c13 g k z1 z6 A (fun z22 z23 => q z22 z23))
theorem c14_ev (z5 : Bool) (z1 : Int) (A : List Int) (K : Kont R) : V g k K [true, false, true, false, true, true, true, false] 430 (S5 z5 z1 A) = c14 g k z5 z1 A (fun z24 z25 => K .ret (S4 z24 z25 A)) :=
 (Eq.trans (by kernel_rfl) (s6_ev g k z5 z1 A (V g k K [true, false, true, false, true, true, true, false, true] 861) K)).trans (congrArg (fun f_ => s6 g k z5 z1 A f_) (funext fun (z6 : List Int) => (c13_ev g k z1 z6 A K)))
def s15 (g : Cs R) (k : Nat) (z5 : Bool) (z1 : Int) (A : List Int) (j : Option R) : Option R :=
 j
theorem s15_ev (z5 : Bool) (z1 : Int) (A : List Int) (K : Kont R) : V g k K [true, false, true, false, true, true, true, true] 431 (S5 z5 z1 A) = s15 g k z5 z1 A (K .normal (S1 z1 A)) := by kernel_rfl
def d16 (g : Cs R) (k : Nat) (z5 : Bool) (z1 : Int) (A : List Int) (j : Option R) (q : ByteArray → Int → Option R) : Option R :=
 cond z5 (c14 g k z5 z1 A (fun z24 z25 => q z24 z25)) (s15 g k z5 z1 A (j))
theorem d16_ev (z5 : Bool) (z1 : Int) (A : List Int) (K : Kont R) : V g k K [true, false, true, false, true, true, true] 215 (S5 z5 z1 A) = d16 g k z5 z1 A (K .normal (S1 z1 A)) (fun z26 z27 => K .ret (S4 z26 z27 A)) :=
 (show _ = cond z5 _ _ from by kernel_rfl).trans ((cond_congr (c14_ev g k z5 z1 A (seqK (fun st => K .normal (atMeet H 215 st)) K)) (s15_ev g k z5 z1 A (seqK (fun st => K .normal (atMeet H 215 st)) K))).trans (by kernel_rfl))
def c17 (g : Cs R) (k : Nat) (z0 : Int) (z2 : Bool) (z1 : Int) (A : List Int) (j : Option R) (q : ByteArray → Int → Option R) : Option R :=
 s5 g k z0 z2 z1 A (fun z5 => d16 g k z5 z1 A (j) (fun z26 z27 => q z26 z27))
theorem c17_ev (z0 : Int) (z2 : Bool) (z1 : Int) (A : List Int) (K : Kont R) : V g k K [true, false, true, false, true, true] 107 (S3 z0 z2 z1 A) = c17 g k z0 z2 z1 A (K .normal (S1 z1 A)) (fun z28 z29 => K .ret (S4 z28 z29 A)) :=
 (Eq.trans (by kernel_rfl) (s5_ev g k z0 z2 z1 A (V g k K [true, false, true, false, true, true, true] 215) K)).trans (congrArg (fun f_ => s5 g k z0 z2 z1 A f_) (funext fun (z5 : Bool) => (d16_ev g k z5 z1 A K)))
def d18 (g : Cs R) (k : Nat) (z0 : Int) (z2 : Bool) (z1 : Int) (A : List Int) (j : Option R) (q : ByteArray → Int → Option R) : Option R :=
 cond z2 (s4 g k z0 z2 z1 A (fun z3 z4 => q z3 z4)) (c17 g k z0 z2 z1 A (j) (fun z28 z29 => q z28 z29))
theorem d18_ev (z0 : Int) (z2 : Bool) (z1 : Int) (A : List Int) (K : Kont R) : V g k K [true, false, true, false, true] 53 (S3 z0 z2 z1 A) = d18 g k z0 z2 z1 A (K .normal (S1 z1 A)) (fun z30 z31 => K .ret (S4 z30 z31 A)) :=
 (show _ = cond z2 _ _ from by kernel_rfl).trans ((cond_congr (s4_ev g k z0 z2 z1 A (seqK (fun st => K .normal (atMeet H 53 st)) K)) (c17_ev g k z0 z2 z1 A (seqK (fun st => K .normal (atMeet H 53 st)) K))).trans (by kernel_rfl))
def c19 (g : Cs R) (k : Nat) (z0 z1 : Int) (A : List Int) (j : Option R) (q : ByteArray → Int → Option R) : Option R :=
 s3 g k z0 z1 A (fun z2 => d18 g k z0 z2 z1 A (j) (fun z30 z31 => q z30 z31))
theorem c19_ev (z0 z1 : Int) (A : List Int) (K : Kont R) : V g k K [true, false, true, false] 26 (S2 z0 z1 A) = c19 g k z0 z1 A (K .normal (S1 z1 A)) (fun z32 z33 => K .ret (S4 z32 z33 A)) :=
 (Eq.trans (by kernel_rfl) (s3_ev g k z0 z1 A (V g k K [true, false, true, false, true] 53) K)).trans (congrArg (fun f_ => s3 g k z0 z1 A f_) (funext fun (z2 : Bool) => (d18_ev g k z0 z2 z1 A K)))
def b20 (g : Cs R) (k : Nat) (z0 z1 : Int) (A : List Int) (j : Option R) (q : ByteArray → Int → Option R) : Option R :=
 c19 g k z0 z1 A (j) (fun z32 z33 => q z32 z33)
theorem b20_ev (z0 z1 : Int) (A : List Int) (K : Kont R) : V g k K [true, false, true] 13 (S2 z0 z1 A) = b20 g k z0 z1 A (K .normal (S1 z1 A)) (fun z34 z35 => K .ret (S4 z34 z35 A)) :=
 Eq.trans (by kernel_rfl) ((c19_ev g k z0 z1 A (blockK 0 (fun st => K .normal (atMeet H 13 st)) K)).trans (by kernel_rfl))
def c21 (g : Cs R) (k : Nat) (B : Int) (A : List Int) (j : Int → Option R) (q : ByteArray → Int → Option R) : Option R :=
 s2 g k B A (fun z0 z1 => b20 g k z0 z1 A (j z1) (fun z34 z35 => q z34 z35))
theorem c21_ev (B : Int) (A : List Int) (K : Kont R) : V g k K [true, false] 6 (S1 B A) = c21 g k B A (fun z36 => K .normal (S1 z36 A)) (fun z37 z38 => K .ret (S4 z37 z38 A)) :=
 (Eq.trans (by kernel_rfl) (s2_ev g k B A (V g k K [true, false, true] 13) K)).trans (congrArg (fun f_ => s2 g k B A f_) (funext fun (z0 : Int) => (funext fun (z1 : Int) => (b20_ev g k z0 z1 A K))))
def s22 (g : Cs R) (k : Nat) (z36 : Int) (A : List Int) (q : ByteArray → Int → Option R) : Option R :=
 let y1 := ([(ByteArray.mk #[97]), (ByteArray.mk #[97, 98, 99, 100]), (ByteArray.mk #[104, 101, 108, 108, 111]), (ByteArray.mk #[49, 50, 51, 52, 53, 54, 55, 56]), (ByteArray.mk #[97, 32, 108, 111, 110, 103, 101, 114, 32, 109, 101, 115, 115, 97, 103, 101]), (ByteArray.mk #[106, 117, 115, 116, 32, 116, 119, 101, 110, 116, 121, 45, 102, 111, 117, 114, 32, 98, 121, 116, 101, 115, 32, 33]), (ByteArray.mk #[109, 105, 120, 101, 100, 32, 98, 108, 111, 99, 107, 115]), (ByteArray.mk #[102, 111, 117, 114, 32, 119, 111, 114, 100, 115, 32, 111, 102, 32, 97, 32, 116, 101, 120, 116])] : List ByteArray); g.f88 A z36 y1 (fun r2 r3 => q r2 r3)
theorem s22_ev (z36 : Int) (A : List Int) (K : Kont R) : V g k K [true, true] 7 (S1 z36 A) = s22 g k z36 A (fun z39 z40 => K .ret (S4 z39 z40 A)) := by kernel_rfl
def c23 (g : Cs R) (k : Nat) (B : Int) (A : List Int) (q : ByteArray → Int → Option R) : Option R :=
 c21 g k B A (fun z36 => s22 g k z36 A (fun z39 z40 => q z39 z40)) (fun z37 z38 => q z37 z38)
theorem c23_ev (B : Int) (A : List Int) (K : Kont R) : V g k K [true] 3 (S1 B A) = c23 g k B A (fun z41 z42 => K .ret (S4 z41 z42 A)) :=
 (Eq.trans (by kernel_rfl) (c21_ev g k B A (seqK (V g k K [true, true] 7) K))).trans (congrArg (fun f_ => c21 g k B A f_ (fun z37 z38 => K .ret (S4 z37 z38 A))) (funext fun (z36 : Int) => (seqN (f := (V g k K [true, true] 7)) (K := K) (s22_ev g k z36 A K))))
def c24 (g : Cs R) (k : Nat) (A : Int) (B : List Int) (q : ByteArray → Int → Option R) : Option R :=
 s1 g k A B (c23 g k A B (fun z41 z42 => q z41 z42))
theorem c24_ev (B : Int) (A : List Int) (K : Kont R) : V g k K [] 1 (S1 B A) = c24 g k B A (fun z43 z44 => K .ret (S4 z43 z44 A)) :=
 (Eq.trans (by kernel_rfl) (s1_ev g k B A (V g k K [true] 3) K)).trans (congrArg (fun f_ => s1 g k B A f_) (c23_ev g k B A K))
def b (g : Cs R) (k : Nat) (A : List Int) (B : Int) (K : ByteArray → Int → Option R) : Option R :=
 c24 g k B A (fun z43 z44 => K z43 z44)
theorem evs (A : List Int) (B : Int) (KF : Ret → Option R) : evFunc E (G g) k H [] false Tryz.f89 [.ref [.row .ro [.int .u8] A, ri B]] KF = b g k A B (fun r1 r2 => KF ⟨[.val false [.s (.string r1)]], [[.row .ro [.int .u8] A, ri r2]]⟩) :=
 Eq.trans (by kernel_rfl) ((c24_ev g k B A (fin E.P false Tryz.f89 [.ref 31] KF)).trans (by kernel_rfl))
end spec_l72Text
namespace spec_l72Text
def g (k : Nat) : Cs R := ⟨(), spec_l6Rd_pick.c k, spec_l6Many.c k, spec_l6Rd_of.c k⟩
def c (k : Nat) : T R := b (g k) k
end spec_l72Text
/-! ### spec_l72Note: function 47 -/
namespace spec_l72Note
abbrev T (R : Type) : Type := List Int → Int → (Int → Int → Int → Int → ByteArray → Int → Option R) → Option R
def con (f : T R) : Con R := ⟨[], fun args K => match args with
 | [.ref [B, .s (.int .i64 C)]] => withRow [.int .u8] B fun A => f A C (fun r1 r2 r3 r4 r5 r6 => K ⟨[.val true [ri r1, ri r2, ri r3, ri r4, .s (.string r5)]], [[.row .ro [.int .u8] A, ri r6]]⟩)
 | _ => none⟩
structure Cs (R : Type) where
  none_ : Unit := ()
  f24 : spec_l6Rd_pick.T R
  f88 : spec_l6Rd_of.T R
  f89 : spec_l72Text.T R
def G (g : Cs R) : Cons R := [(24, spec_l6Rd_pick.con g.f24), (88, spec_l6Rd_of.con g.f88), (89, spec_l72Text.con g.f89)]
def H : List (Nat × Meet) := []
variable (g : Cs R) (k : Nat)
def b (g : Cs R) (k : Nat) (A : List Int) (B : Int) (K : Int → Int → Int → Int → ByteArray → Int → Option R) : Option R :=
 g.f24 A B 4 (fun r1 r2 => g.f24 A r2 5 (fun r3 r4 => g.f24 A r4 4 (fun r5 r6 => g.f24 A r6 30 (fun r7 r8 => let y9 := ([(ByteArray.mk #[97]), (ByteArray.mk #[104, 101, 108, 108, 111]), (ByteArray.mk #[97, 32, 108, 111, 110, 103, 101, 114, 32, 109, 101, 115, 115, 97, 103, 101]), (ByteArray.mk #[32, 120, 32]), (ByteArray.mk #[106, 117, 115, 116, 32, 116, 119, 101, 110, 116, 121, 45, 102, 111, 117, 114, 32, 98, 121, 116, 101, 115, 32, 33])] : List ByteArray); g.f88 A r8 y9 (fun r10 r11 => g.f24 A r11 16 (fun r12 r13 => cond (decide (r12 = 0)) (g.f24 A r13 2 (fun r14 r15 => cond (decide (0 ≤ r14) && decide (r14 < (([(-1), 4] : List Int).length : Int))) (let y16 := (([(-1), 4] : List Int).getD r14.toNat (0 : Int)); K y16 (IntKind.wrap .i64 ((1 : Int) + r3)) r5 (IntKind.wrap .i64 ((1 : Int) + r7)) r10 r15) none)) (cond (decide (r12 = 1)) (g.f24 A r13 3 (fun r17 r18 => cond (decide (0 ≤ r17) && decide (r17 < (([0, 99, 100] : List Int).length : Int))) (let y19 := (([0, 99, 100] : List Int).getD r17.toNat (0 : Int)); K r1 y19 r5 (IntKind.wrap .i64 ((1 : Int) + r7)) r10 r18) none)) (cond (decide (r12 = 2)) (g.f24 A r13 3 (fun r20 r21 => cond (decide (0 ≤ r20) && decide (r20 < (([0, 999, 1000] : List Int).length : Int))) (let y22 := (([0, 999, 1000] : List Int).getD r20.toNat (0 : Int)); K r1 (IntKind.wrap .i64 ((1 : Int) + r3)) r5 y22 r10 r21) none)) (cond (decide (r12 = 3)) (g.f89 A r13 (fun r23 r24 => K r1 (IntKind.wrap .i64 ((1 : Int) + r3)) r5 (IntKind.wrap .i64 ((1 : Int) + r7)) r23 r24)) (cond (decide (r12 = 4)) (g.f24 A r13 2 (fun r25 r26 => cond (decide (0 ≤ r25) && decide (r25 < (([(-1), 4] : List Int).length : Int))) (let y27 := (([(-1), 4] : List Int).getD r25.toNat (0 : Int)); K r1 (IntKind.wrap .i64 ((1 : Int) + r3)) y27 (IntKind.wrap .i64 ((1 : Int) + r7)) r10 r26) none)) (K r1 (IntKind.wrap .i64 ((1 : Int) + r3)) r5 (IntKind.wrap .i64 ((1 : Int) + r7)) r10 r13)))))))))))
theorem evs (A : List Int) (B : Int) (KF : Ret → Option R) : evFunc E (G g) k H [] false Tryz.f47 [.ref [.row .ro [.int .u8] A, ri B]] KF = b g k A B (fun r1 r2 r3 r4 r5 r6 => KF ⟨[.val true [ri r1, ri r2, ri r3, ri r4, .s (.string r5)]], [[.row .ro [.int .u8] A, ri r6]]⟩) :=
 by kernel_rfl
end spec_l72Note
namespace spec_l72Note
def g (k : Nat) : Cs R := ⟨(), spec_l6Rd_pick.c k, spec_l6Rd_of.c k, spec_l72Text.c k⟩
def c (k : Nat) : T R := b (g k) k
end spec_l72Note
/-! ### spec_l22Three: function 50 -/
namespace spec_l22Three
abbrev T (R : Type) : Type := Int → Int → Int → (ByteArray → Option R) → Option R
def con (f : T R) : Con R := ⟨[], fun args K => match args with
 | [.val false [.s (.int .i64 a0)], .val false [.s (.int .i64 a1)], .val false [.s (.int .i64 a2)]] => f a0 a1 a2 (fun r1 => K ⟨[.val false [.s (.string r1)]], []⟩)
 | _ => none⟩
structure Cs (R : Type) where
  none_ : Unit := ()
  f48 : spec_l6Dec.T R
def G (g : Cs R) : Cons R := [(48, spec_l6Dec.con g.f48)]
def H : List (Nat × Meet) := []
variable (g : Cs R) (k : Nat)
def b (g : Cs R) (k : Nat) (a0 a1 a2 : Int) (K : ByteArray → Option R) : Option R :=
 g.f48 a0 (fun r1 => cond (decide (r1.size + (ByteArray.mk #[32]).size ≤ 9223372036854775807)) (g.f48 a1 (fun r2 => cond (decide ((r1 ++ (ByteArray.mk #[32])).size + r2.size ≤ 9223372036854775807)) (cond (decide (((r1 ++ (ByteArray.mk #[32])) ++ r2).size + (ByteArray.mk #[32]).size ≤ 9223372036854775807)) (let y3 := (((r1 ++ (ByteArray.mk #[32])) ++ r2) ++ (ByteArray.mk #[32])); g.f48 a2 (fun r4 => cond (decide (y3.size + r4.size ≤ 9223372036854775807)) (K (y3 ++ r4)) none)) none) none)) none)
theorem evs (a0 a1 a2 : Int) (KF : Ret → Option R) : evFunc E (G g) k H [] false Tryz.f50 [.val false [ri a0], .val false [ri a1], .val false [ri a2]] KF = b g k a0 a1 a2 (fun r1 => KF ⟨[.val false [.s (.string r1)]], []⟩) :=
 by kernel_rfl
end spec_l22Three
namespace spec_l22Three
def g (k : Nat) : Cs R := ⟨(), spec_l6Dec.c k⟩
def c (k : Nat) : T R := b (g k) k
end spec_l22Three
/-! ### spec_l72Rec: function 51 -/
namespace spec_l72Rec
abbrev T (R : Type) : Type := List Int → Int → (ByteArray → Int → Option R) → Option R
def con (f : T R) : Con R := ⟨[], fun args K => match args with
 | [.ref [B, .s (.int .i64 C)]] => withRow [.int .u8] B fun A => f A C (fun r1 r2 => K ⟨[.val false [.s (.string r1)]], [[.row .ro [.int .u8] A, ri r2]]⟩)
 | _ => none⟩
structure Cs (R : Type) where
  none_ : Unit := ()
  f24 : spec_l6Rd_pick.T R
  f48 : spec_l6Dec.T R
  f50 : spec_l22Three.T R
  f91 : spec_l6Many.T R
  f88 : spec_l6Rd_of.T R
  f47 : spec_l72Note.T R
  f49 : spec_NoteWrite.T R
def G (g : Cs R) : Cons R := [(24, spec_l6Rd_pick.con g.f24), (48, spec_l6Dec.con g.f48), (50, spec_l22Three.con g.f50), (91, spec_l6Many.con g.f91), (88, spec_l6Rd_of.con g.f88), (47, spec_l72Note.con g.f47), (49, spec_NoteWrite.con g.f49)]
def H : List (Nat × Meet) := []
variable (g : Cs R) (k : Nat)
def b (g : Cs R) (k : Nat) (A : List Int) (B : Int) (K : ByteArray → Int → Option R) : Option R :=
 g.f24 A B 8 (fun r1 r2 => cond (decide (r1 = 0)) (g.f24 A r2 30 (fun r3 r4 => g.f48 r3 (fun r5 => cond (decide ((ByteArray.mk #[116, 105, 109, 101, 32]).size + r5.size ≤ 9223372036854775807)) (K ((ByteArray.mk #[116, 105, 109, 101, 32]) ++ r5) r4) none))) (cond (decide (r1 = 1)) (g.f24 A r2 4 (fun r6 r7 => g.f24 A r7 3 (fun r8 r9 => g.f24 A r9 30 (fun r10 r11 => g.f50 r6 (IntKind.wrap .i64 ((1 : Int) + r8)) (IntKind.wrap .i64 ((1 : Int) + r10)) (fun r12 => cond (decide ((ByteArray.mk #[108, 101, 116, 32]).size + r12.size ≤ 9223372036854775807)) (K ((ByteArray.mk #[108, 101, 116, 32]) ++ r12) r11) none))))) (cond (decide (r1 = 2)) (g.f24 A r2 4 (fun r13 r14 => g.f24 A r14 3 (fun r15 r16 => g.f24 A r16 30 (fun r17 r18 => g.f50 r13 (IntKind.wrap .i64 ((1 : Int) + r15)) (IntKind.wrap .i64 ((1 : Int) + r17)) (fun r19 => cond (decide ((ByteArray.mk #[101, 97, 116, 32]).size + r19.size ≤ 9223372036854775807)) (K ((ByteArray.mk #[101, 97, 116, 32]) ++ r19) r18) none))))) (cond (decide (r1 = 3)) (g.f91 (ByteArray.mk #[122]) 60 (fun r20 => g.f91 (ByteArray.mk #[122]) 61 (fun r21 => let y22 := ([(ByteArray.mk #[]), (ByteArray.mk #[119, 104, 97, 116]), (ByteArray.mk #[116, 105, 109, 101]), (ByteArray.mk #[116, 105, 109, 101, 32, 48]), (ByteArray.mk #[116, 105, 109, 101, 32, 48, 49]), (ByteArray.mk #[110, 101, 120, 116, 32, 51]), (ByteArray.mk #[110, 101, 120, 116, 32, 49]), (ByteArray.mk #[109, 97, 114, 107, 32, 48, 32, 49, 32, 53]), (ByteArray.mk #[109, 97, 114, 107, 32, 48, 32, 49]), (ByteArray.mk #[109, 97, 114, 107, 32, 48, 32, 49, 32, 53, 32]), (ByteArray.mk #[104, 101, 108, 100, 32, 48, 32, 49, 32, 50, 32, 57, 32, 120]), (ByteArray.mk #[105, 110, 98, 111, 120, 32, 48, 32, 49, 32, 50, 32, 57, 32, 120]), r20, r21] : List ByteArray); g.f88 A r2 y22 (fun r23 r24 => K r23 r24)))) (let y25 := ([(ByteArray.mk #[111, 119, 110, 32]), (ByteArray.mk #[116, 97, 107, 101, 32]), (ByteArray.mk #[116, 97, 107, 101, 32]), (ByteArray.mk #[104, 101, 108, 100, 32]), (ByteArray.mk #[105, 110, 98, 111, 120, 32])] : List ByteArray); g.f88 A r2 y25 (fun r26 r27 => g.f47 A r27 (fun r28 r29 r30 r31 r32 r33 => g.f49 r28 r29 r30 r31 r32 (fun r34 => cond (decide (r26.size + r34.size ≤ 9223372036854775807)) (K (r26 ++ r34) r33) none))))))))
theorem evs (A : List Int) (B : Int) (KF : Ret → Option R) : evFunc E (G g) k H [] false Tryz.f51 [.ref [.row .ro [.int .u8] A, ri B]] KF = b g k A B (fun r1 r2 => KF ⟨[.val false [.s (.string r1)]], [[.row .ro [.int .u8] A, ri r2]]⟩) :=
 by kernel_rfl
end spec_l72Rec
namespace spec_l72Rec
def g (k : Nat) : Cs R := ⟨(), spec_l6Rd_pick.c k, spec_l6Dec.c k, spec_l22Three.c k, spec_l6Many.c k, spec_l6Rd_of.c k, spec_l72Note.c k, spec_NoteWrite.c k⟩
def c (k : Nat) : T R := b (g k) k
end spec_l72Rec
/-! ### spec_l72Near: function 25 -/
namespace spec_l72Near
abbrev T (R : Type) : Type := List Int → Int → Int → Int → Int → (L5) → (L3) → (L5) → (ByteArray → Int → Option R) → Option R
def con (f : T R) : Con R := ⟨[], fun args K => match args with
 | [.ref [B, .s (.int .i64 C)], .val true [.s (.int .i64 D), .s (.int .i64 F), .s (.int .i64 J), M, N, O]] => withRow [.int .u8] B fun A => withRow q5 M fun P => withRow q3 N fun Q => withRow q5 O fun S => f A C D F J P Q S (fun r1 r2 => K ⟨[.val false [.s (.string r1)]], [[.row .ro [.int .u8] A, ri r2]]⟩)
 | _ => none⟩
structure Cs (R : Type) where
  none_ : Unit := ()
  f47 : spec_l72Note.T R
  f24 : spec_l6Rd_pick.T R
  f48 : spec_l6Dec.T R
  f49 : spec_NoteWrite.T R
  f50 : spec_l22Three.T R
  f51 : spec_l72Rec.T R
def G (g : Cs R) : Cons R := [(47, spec_l72Note.con g.f47), (24, spec_l6Rd_pick.con g.f24), (48, spec_l6Dec.con g.f48), (49, spec_NoteWrite.con g.f49), (50, spec_l22Three.con g.f50), (51, spec_l72Rec.con g.f51)]
def H : List (Nat × Meet) := []
variable (g : Cs R) (k : Nat)
def b (g : Cs R) (k : Nat) (A : List Int) (F J D M : Int) (B : L5) (N : L3) (C : L5) (K : ByteArray → Int → Option R) : Option R :=
 g.f47 A F (fun r1 r2 r3 r4 r5 r6 => g.f24 A r6 9 (fun r7 r8 => cond (decide (r7 = 0)) (g.f24 A r8 3 (fun r9 r10 => g.f48 (IntKind.wrap .i64 (D + r9)) (fun r11 => cond (decide ((ByteArray.mk #[116, 105, 109, 101, 32]).size + r11.size ≤ 9223372036854775807)) (let y12 := ((ByteArray.mk #[116, 105, 109, 101, 32]) ++ r11); K y12 r10) none))) (cond (decide (r7 = 1)) (g.f49 J M r3 r4 r5 (fun r13 => cond (decide ((ByteArray.mk #[111, 119, 110, 32]).size + r13.size ≤ 9223372036854775807)) (K ((ByteArray.mk #[111, 119, 110, 32]) ++ r13) r8) none)) (cond (decide (r7 = 2)) (cond (decide ((0 : Int) < (B.length : Int))) (g.f24 A r8 (B.length : Int) (fun r14 r15 => cond (decide (0 ≤ r14) && decide (r14 < (B.length : Int))) (let y16 := (B.getD r14.toNat n5).1; let y17 := (B.getD r14.toNat n5).2.1; let y18 := (B.getD r14.toNat n5).2.2.2.1; g.f50 y16 y17 y18 (fun r19 => cond (decide ((ByteArray.mk #[108, 101, 116, 32]).size + r19.size ≤ 9223372036854775807)) (K ((ByteArray.mk #[108, 101, 116, 32]) ++ r19) r15) none)) none)) (g.f24 A r8 20 (fun r20 r21 => g.f49 r1 r2 r3 (IntKind.wrap .i64 (D + r20)) r5 (fun r22 => cond (decide ((ByteArray.mk #[116, 97, 107, 101, 32]).size + r22.size ≤ 9223372036854775807)) (K ((ByteArray.mk #[116, 97, 107, 101, 32]) ++ r22) r21) none)))) (cond (decide (r7 = 3)) (cond (decide ((0 : Int) < (C.length : Int))) (g.f24 A r8 (C.length : Int) (fun r23 r24 => cond (decide (0 ≤ r23) && decide (r23 < (C.length : Int))) (let y25 := (C.getD r23.toNat n5).1; let y26 := (C.getD r23.toNat n5).2.1; let y27 := (C.getD r23.toNat n5).2.2.2.1; g.f50 y25 y26 y27 (fun r28 => cond (decide ((ByteArray.mk #[101, 97, 116, 32]).size + r28.size ≤ 9223372036854775807)) (K ((ByteArray.mk #[101, 97, 116, 32]) ++ r28) r24) none)) none)) (g.f24 A r8 20 (fun r29 r30 => g.f49 r1 r2 r3 (IntKind.wrap .i64 (D + r29)) r5 (fun r31 => cond (decide ((ByteArray.mk #[116, 97, 107, 101, 32]).size + r31.size ≤ 9223372036854775807)) (K ((ByteArray.mk #[116, 97, 107, 101, 32]) ++ r31) r30) none)))) (cond (decide (r7 = 4)) (g.f51 A r8 (fun r32 r33 => K r32 r33)) (g.f24 A r8 20 (fun r34 r35 => g.f49 r1 r2 r3 (IntKind.wrap .i64 (D + r34)) r5 (fun r36 => cond (decide ((ByteArray.mk #[116, 97, 107, 101, 32]).size + r36.size ≤ 9223372036854775807)) (K ((ByteArray.mk #[116, 97, 107, 101, 32]) ++ r36) r35) none)))))))))
theorem evs (A : List Int) (B C D F : Int) (J : L5) (M : L3) (N : L5) (KF : Ret → Option R) : evFunc E (G g) k H [] false Tryz.f25 [.ref [.row .ro [.int .u8] A, ri B], .val true [ri C, ri D, ri F, .row .ro q5 J, .row .ro q3 M, .row .ro q5 N]] KF = b g k A B C D F J M N (fun r1 r2 => KF ⟨[.val false [.s (.string r1)]], [[.row .ro [.int .u8] A, ri r2]]⟩) :=
 by kernel_rfl
end spec_l72Near
namespace spec_l72Near
def g (k : Nat) : Cs R := ⟨(), spec_l72Note.c k, spec_l6Rd_pick.c k, spec_l6Dec.c k, spec_NoteWrite.c k, spec_l22Three.c k, spec_l72Rec.c k⟩
def c (k : Nat) : T R := b (g k) k
end spec_l72Near
/-! ### spec_DrawKeepOf: function 6 -/
namespace spec_DrawKeepOf
abbrev T (R : Type) : Type := List Int → (Int → List ByteArray → Option R) → Option R
def con (f : T R) : Con R := ⟨[], fun args K => match args with
 | [.val false [pa0]] => withRow [.int .u8] pa0 fun a0 => f a0 (fun r1 r2 => K ⟨[.val false [ri r1], .val false [.row .own [.str] r2]], []⟩)
 | _ => none⟩
structure Cs (R : Type) where
  none_ : Unit := ()
  f23 : spec_l6Open.T R
  f24 : spec_l6Rd_pick.T R
  f12 : spec_KeepStart.T R
  f25 : spec_l72Near.T R
  f21 : spec_KeepDo.T R
def G (g : Cs R) : Cons R := [(23, spec_l6Open.con g.f23), (24, spec_l6Rd_pick.con g.f24), (12, spec_KeepStart.con g.f12), (25, spec_l72Near.con g.f25), (21, spec_KeepDo.con g.f21)]
def H : List (Nat × Meet) := [(61, ⟨[(4, [(0, [.int .u8])]), (5, [])], []⟩), (126, ⟨[(4, [(0, [.int .u8])]), (5, []), (6, [(0, [.str])]), (7, [(3, q5), (4, q3), (5, q5)])], []⟩), (508, ⟨[(4, [(0, [.int .u8])]), (5, []), (6, [(0, [.str])]), (7, [(3, q5), (4, q3), (5, q5)]), (8, [])], []⟩), (511, ⟨[(2, []), (3, [(0, [.str])])], []⟩), (1018, ⟨[(4, [(0, [.int .u8])]), (5, []), (6, [(0, [.str])]), (7, [(3, q5), (4, q3), (5, q5)]), (8, [])], []⟩), (8147, ⟨[(4, [(0, [.int .u8])]), (5, []), (6, [(0, [.str])]), (7, [(3, q5), (4, q3), (5, q5)]), (8, [])], []⟩), (16291, ⟨[(5, []), (6, [(0, [.str])])], []⟩)]
abbrev S1 (x1 : List Int) : St := mkSt [(0, .c (.sl 0))] [(0, .row .ro [.int .u8] x1)]
abbrev S2 (x1 x2 : Int) (x3 : List Int) : St := mkSt [(4, .c (.ptr 9004 0 0)), (5, .c (si x1))] [(9004, .box [.sl 1009004, si x2]), (1009004, .row .ro [.int .u8] x3)]
abbrev S3 (x1 x2 : Int) (x3 : List ByteArray) (x4 x5 x6 : Int) (x7 : List Int) (x8 : L5) (x9 : L3) (x10 : L5) : St := mkSt [(4, .c (.ptr 9004 0 0)), (5, .c (si x1)), (6, .c (.sl 9006)), (7, .c (.ptr 9007 0 0))] [(9004, .box [.sl 1009004, si x2]), (9006, .row .own [.str] x3), (9007, .box [si x4, si x5, si x6, .sl 1039007, .sl 1049007, .sl 1059007]), (1009004, .row .ro [.int .u8] x7), (1039007, .row .own q5 x8), (1049007, .row .own q3 x9), (1059007, .row .own q5 x10)]
abbrev S4 (x1 x2 x3 : Int) (x4 : List ByteArray) (x5 x6 x7 : Int) (x8 : List Int) (x9 : L5) (x10 : L3) (x11 : L5) : St := mkSt [(4, .c (.ptr 9004 0 0)), (5, .c (si x1)), (6, .c (.sl 9006)), (7, .c (.ptr 9007 0 0)), (8, .c (si x2))] [(9004, .box [.sl 1009004, si x3]), (9006, .row .own [.str] x4), (9007, .box [si x5, si x6, si x7, .sl 1039007, .sl 1049007, .sl 1059007]), (1009004, .row .ro [.int .u8] x8), (1039007, .row .own q5 x9), (1049007, .row .own q3 x10), (1059007, .row .own q5 x11)]
abbrev S5 (x1 : Int) (x2 : List ByteArray) : St := mkSt [(5, .c (si x1)), (6, .c (.sl 9006))] [(9006, .row .own [.str] x2)]
abbrev S6 (x1 : Int) (x2 : List ByteArray) : St := mkSt [(2, .c (si x1)), (3, .c (.sl 9003))] [(9003, .row .own [.str] x2)]
noncomputable abbrev V (g : Cs R) (k : Nat) (K : Kont R) (b : List Bool) (p : Nat) (st : St) : Option R := ev E (G g) k H (nodeAt (bodyOf Tryz.f6) b) p st K
noncomputable abbrev U (g : Cs R) (k : Nat) (n : Nat) (b : List Bool) : Nat → St → (St → Option R) → Kont R → Option R := evPre E (G g) k H n (nodeAt (bodyOf Tryz.f6) b)
noncomputable abbrev W (g : Cs R) (k : Nat) (b : List Bool) (p : Nat) : St → Kont R → Option R := ev E (G g) k H (nodeAt (bodyOf Tryz.f6) b) p
variable (g : Cs R) (k : Nat)
def s1 (g : Cs R) (k : Nat) (a0 : List Int) (j : Int → Int → List Int → Option R) : Option R :=
 g.f23 a0 (fun r1 r2 => g.f24 r1 r2 4 (fun r3 r4 => g.f24 r1 r4 16 (fun r5 r6 => cond (decide (r5 = 0)) (g.f24 r1 r6 2 (fun r7 r8 => cond (decide (0 ≤ r7) && decide (r7 < (([(-1), 4] : List Int).length : Int))) (j (([(-1), 4] : List Int).getD r7.toNat (0 : Int)) r8 r1) none)) (j r3 r6 r1))))
theorem s1_ev (a0 : List Int) (X : St → Option R) (K : Kont R) : U g k 4 [] 1 (S1 a0) X K = s1 g k a0 (fun z0 z1 z2 => X (S2 z0 z1 z2)) := by kernel_rfl
def s2 (g : Cs R) (k : Nat) (z0 z1 : Int) (z2 : List Int) (j : List ByteArray → Int → Int → Int → (L5) → (L3) → (L5) → Option R) : Option R :=
 g.f12 z0 (fun r1 r2 r3 r4 r5 r6 => j ([] : List ByteArray) r1 r2 r3 r4 r5 r6)
theorem s2_ev (z0 z1 : Int) (z2 : List Int) (X : St → Option R) (K : Kont R) : U g k 2 [true, true, true, true] 31 (S2 z0 z1 z2) X K = s2 g k z0 z1 z2 (fun z3 z4 z5 z6 z7 z8 z9 => X (S3 z0 z1 z3 z4 z5 z6 z2 z7 z8 z9)) := by kernel_rfl
def s3 (g : Cs R) (k : Nat) (z0 z1 : Int) (z3 : List ByteArray) (z4 z5 z6 : Int) (z2 : List Int) (z7 : L5) (z8 : L3) (z9 : L5) (j : Int → Int → Option R) : Option R :=
 g.f24 z2 z1 12 (fun r1 r2 => j r1 r2)
theorem s3_ev (z0 z1 : Int) (z3 : List ByteArray) (z4 z5 z6 : Int) (z2 : List Int) (z7 : L5) (z8 : L3) (z9 : L5) (X : St → Option R) (K : Kont R) : U g k 1 [true, true, true, true, true, true, false] 254 (S3 z0 z1 z3 z4 z5 z6 z2 z7 z8 z9) X K = s3 g k z0 z1 z3 z4 z5 z6 z2 z7 z8 z9 (fun z10 z11 => X (S4 z0 z10 z11 z3 z4 z5 z6 z2 z7 z8 z9)) := by kernel_rfl
def s4 (g : Cs R) (k : Nat) (z0 z12 z13 : Int) (z14 : List ByteArray) (z15 z16 z17 : Int) (z2 : List Int) (z18 : L5) (z19 : L3) (z20 : L5) (j : Int → Int → List ByteArray → Int → Int → Int → (L5) → (L3) → (L5) → Option R) (x0 : Option R) : Option R :=
 cond (decide ((0 : Int) < z12)) (g.f25 z2 z13 z15 z16 z17 z18 z19 z20 (fun r1 r2 => g.f21 z15 z16 z17 z18 z19 z20 r1 (fun r3 r4 r5 r6 r7 r8 r9 => cond r9 (cond (Nat.ble (z14.length + ([r1] : List ByteArray).length) lim) (j (IntKind.wrap .i64 (z12 - 1)) r2 (z14 ++ ([r1] : List ByteArray)) r3 r4 r5 r6 r7 r8) none) (g.f24 z2 r2 12 (fun r10 r11 => cond (decide (r10 = 0)) (cond (Nat.ble (z14.length + ([r1] : List ByteArray).length) lim) (j (IntKind.wrap .i64 (z12 - 1)) r11 (z14 ++ ([r1] : List ByteArray)) r3 r4 r5 r6 r7 r8) none) (j (IntKind.wrap .i64 (z12 - 1)) r11 z14 z15 z16 z17 z18 z19 z20)))))) (x0)
theorem s4_ev (z0 z12 z13 : Int) (z14 : List ByteArray) (z15 z16 z17 : Int) (z2 : List Int) (z18 : L5) (z19 : L3) (z20 : L5) (K : Kont R) : V g k K [true, true, true, true, true, true, false, true, false, false] 2036 (S4 z0 z12 z13 z14 z15 z16 z17 z2 z18 z19 z20) = s4 g k z0 z12 z13 z14 z15 z16 z17 z2 z18 z19 z20 (fun z21 z22 z23 z24 z25 z26 z27 z28 z29 => K .normal (S4 z0 z21 z22 z23 z24 z25 z26 z2 z27 z28 z29)) (K (.exit 0) (S5 z0 z14)) := by kernel_rfl
def l5r (g : Cs R) (k : Nat) (z0 : Int) (z2 : List Int) (x0 : List ByteArray → Option R) : Nat → Int → Int → List ByteArray → Int → Int → Int → (L5) → (L3) → (L5) → Option R
 | 0, _, _, _, _, _, _, _, _, _ => none
 | n + 1, z12, z13, z14, z15, z16, z17, z18, z19, z20 => s4 g k z0 z12 z13 z14 z15 z16 z17 z2 z18 z19 z20 (fun z21 z22 z23 z24 z25 z26 z27 z28 z29 => l5r g k z0 z2 x0 n z21 z22 z23 z24 z25 z26 z27 z28 z29) (x0 z14)
def l5 (g : Cs R) (k : Nat) (z0 z10 z11 : Int) (z3 : List ByteArray) (z4 z5 z6 : Int) (z2 : List Int) (z7 : L5) (z8 : L3) (z9 : L5) (x0 : List ByteArray → Option R) : Option R := l5r g k z0 z2 x0 k z10 z11 z3 z4 z5 z6 z7 z8 z9
theorem l5r_ev (z0 : Int) (z2 : List Int) (K : Kont R) : ∀ (n : Nat) (z12 z13 : Int) (z14 : List ByteArray) (z15 z16 z17 : Int) (z18 : L5) (z19 : L3) (z20 : L5), evLoop (W g k [true, true, true, true, true, true, false, true, false, false] 2036) (atMeet H 1018) K n (S4 z0 z12 z13 z14 z15 z16 z17 z2 z18 z19 z20) = l5r g k z0 z2 (fun z30 => K (.exit 0) (S5 z0 z30)) n z12 z13 z14 z15 z16 z17 z18 z19 z20 := by
 intro n
 induction n with
 | zero => intros; rfl
 | succ n ih =>
  intro z12 z13 z14 z15 z16 z17 z18 z19 z20
  exact Eq.trans (by kernel_rfl) ((s4_ev g k z0 z12 z13 z14 z15 z16 z17 z2 z18 z19 z20 (loopK (W g k [true, true, true, true, true, true, false, true, false, false] 2036) (atMeet H 1018) K n)).trans (Eq.trans (by kernel_rfl) (congrArg (fun f_ => s4 g k z0 z12 z13 z14 z15 z16 z17 z2 z18 z19 z20 f_ (K (.exit 0) (S5 z0 z14))) (funext fun (z21 : Int) => (funext fun (z22 : Int) => (funext fun (z23 : List ByteArray) => (funext fun (z24 : Int) => (funext fun (z25 : Int) => (funext fun (z26 : Int) => (funext fun (z27 : L5) => (funext fun (z28 : L3) => (funext fun (z29 : L5) => (ih z21 z22 z23 z24 z25 z26 z27 z28 z29)))))))))))))
theorem l5_ev (z0 z10 z11 : Int) (z3 : List ByteArray) (z4 z5 z6 : Int) (z2 : List Int) (z7 : L5) (z8 : L3) (z9 : L5) (K : Kont R) : V g k K [true, true, true, true, true, true, false, true, false] 1018 (S4 z0 z10 z11 z3 z4 z5 z6 z2 z7 z8 z9) = l5 g k z0 z10 z11 z3 z4 z5 z6 z2 z7 z8 z9 (fun z30 => K (.exit 0) (S5 z0 z30)) :=
 Eq.trans (by kernel_rfl) (l5r_ev g k z0 z2 K k z10 z11 z3 z4 z5 z6 z7 z8 z9)
def b6 (g : Cs R) (k : Nat) (z0 z10 z11 : Int) (z3 : List ByteArray) (z4 z5 z6 : Int) (z2 : List Int) (z7 : L5) (z8 : L3) (z9 : L5) (j : List ByteArray → Option R) : Option R :=
 l5 g k z0 z10 z11 z3 z4 z5 z6 z2 z7 z8 z9 (fun z30 => j z30)
theorem b6_ev (z0 z10 z11 : Int) (z3 : List ByteArray) (z4 z5 z6 : Int) (z2 : List Int) (z7 : L5) (z8 : L3) (z9 : L5) (K : Kont R) : V g k K [true, true, true, true, true, true, false, true] 509 (S4 z0 z10 z11 z3 z4 z5 z6 z2 z7 z8 z9) = b6 g k z0 z10 z11 z3 z4 z5 z6 z2 z7 z8 z9 (fun z31 => K .normal (S5 z0 z31)) :=
 Eq.trans (by kernel_rfl) ((l5_ev g k z0 z10 z11 z3 z4 z5 z6 z2 z7 z8 z9 (blockK 0 (fun st => K .normal (atMeet H 509 st)) K)).trans (by kernel_rfl))
def c7 (g : Cs R) (k : Nat) (z0 z1 : Int) (z3 : List ByteArray) (z4 z5 z6 : Int) (z2 : List Int) (z7 : L5) (z8 : L3) (z9 : L5) (j : List ByteArray → Option R) : Option R :=
 s3 g k z0 z1 z3 z4 z5 z6 z2 z7 z8 z9 (fun z10 z11 => b6 g k z0 z10 z11 z3 z4 z5 z6 z2 z7 z8 z9 (fun z31 => j z31))
theorem c7_ev (z0 z1 : Int) (z3 : List ByteArray) (z4 z5 z6 : Int) (z2 : List Int) (z7 : L5) (z8 : L3) (z9 : L5) (K : Kont R) : V g k K [true, true, true, true, true, true, false] 254 (S3 z0 z1 z3 z4 z5 z6 z2 z7 z8 z9) = c7 g k z0 z1 z3 z4 z5 z6 z2 z7 z8 z9 (fun z32 => K .normal (S5 z0 z32)) :=
 (Eq.trans (by kernel_rfl) (s3_ev g k z0 z1 z3 z4 z5 z6 z2 z7 z8 z9 (V g k K [true, true, true, true, true, true, false, true] 509) K)).trans (congrArg (fun f_ => s3 g k z0 z1 z3 z4 z5 z6 z2 z7 z8 z9 f_) (funext fun (z10 : Int) => (funext fun (z11 : Int) => (b6_ev g k z0 z10 z11 z3 z4 z5 z6 z2 z7 z8 z9 K))))
def s8 (g : Cs R) (k : Nat) (z0 : Int) (z32 : List ByteArray) (q : Option R) : Option R :=
 q
theorem s8_ev (z0 : Int) (z32 : List ByteArray) (K : Kont R) : V g k K [true, true, true, true, true, true, true] 255 (S5 z0 z32) = s8 g k z0 z32 (K .ret (S6 z0 z32)) := by kernel_rfl
def c9 (g : Cs R) (k : Nat) (z0 z1 : Int) (z3 : List ByteArray) (z4 z5 z6 : Int) (z2 : List Int) (z7 : L5) (z8 : L3) (z9 : L5) (q : List ByteArray → Option R) : Option R :=
 c7 g k z0 z1 z3 z4 z5 z6 z2 z7 z8 z9 (fun z32 => s8 g k z0 z32 (q z32))
theorem c9_ev (z0 z1 : Int) (z3 : List ByteArray) (z4 z5 z6 : Int) (z2 : List Int) (z7 : L5) (z8 : L3) (z9 : L5) (K : Kont R) : V g k K [true, true, true, true, true, true] 127 (S3 z0 z1 z3 z4 z5 z6 z2 z7 z8 z9) = c9 g k z0 z1 z3 z4 z5 z6 z2 z7 z8 z9 (fun z33 => K .ret (S6 z0 z33)) :=
 (Eq.trans (by kernel_rfl) (c7_ev g k z0 z1 z3 z4 z5 z6 z2 z7 z8 z9 (seqK (V g k K [true, true, true, true, true, true, true] 255) K))).trans (congrArg (fun f_ => c7 g k z0 z1 z3 z4 z5 z6 z2 z7 z8 z9 f_) (funext fun (z32 : List ByteArray) => (seqN (f := (V g k K [true, true, true, true, true, true, true] 255)) (K := K) (s8_ev g k z0 z32 K))))
def c10 (g : Cs R) (k : Nat) (z0 z1 : Int) (z2 : List Int) (q : List ByteArray → Option R) : Option R :=
 s2 g k z0 z1 z2 (fun z3 z4 z5 z6 z7 z8 z9 => c9 g k z0 z1 z3 z4 z5 z6 z2 z7 z8 z9 (fun z33 => q z33))
theorem c10_ev (z0 z1 : Int) (z2 : List Int) (K : Kont R) : V g k K [true, true, true, true] 31 (S2 z0 z1 z2) = c10 g k z0 z1 z2 (fun z34 => K .ret (S6 z0 z34)) :=
 (Eq.trans (by kernel_rfl) (s2_ev g k z0 z1 z2 (V g k K [true, true, true, true, true, true] 127) K)).trans (congrArg (fun f_ => s2 g k z0 z1 z2 f_) (funext fun (z3 : List ByteArray) => (funext fun (z4 : Int) => (funext fun (z5 : Int) => (funext fun (z6 : Int) => (funext fun (z7 : L5) => (funext fun (z8 : L3) => (funext fun (z9 : L5) => (c9_ev g k z0 z1 z3 z4 z5 z6 z2 z7 z8 z9 K)))))))))
def c11 (g : Cs R) (k : Nat) (a0 : List Int) (q : Int → List ByteArray → Option R) : Option R :=
 s1 g k a0 (fun z0 z1 z2 => c10 g k z0 z1 z2 (fun z34 => q z0 z34))
theorem c11_ev (a0 : List Int) (K : Kont R) : V g k K [] 1 (S1 a0) = c11 g k a0 (fun z35 z36 => K .ret (S6 z35 z36)) :=
 (Eq.trans (by kernel_rfl) (s1_ev g k a0 (V g k K [true, true, true, true] 31) K)).trans (congrArg (fun f_ => s1 g k a0 f_) (funext fun (z0 : Int) => (funext fun (z1 : Int) => (funext fun (z2 : List Int) => (c10_ev g k z0 z1 z2 K)))))
def b (g : Cs R) (k : Nat) (a0 : List Int) (K : Int → List ByteArray → Option R) : Option R :=
 c11 g k a0 (fun z35 z36 => K z35 z36)
theorem evs (a0 : List Int) (KF : Ret → Option R) : evFunc E (G g) k H [] false Tryz.f6 [.val false [.row .ro [.int .u8] a0]] KF = b g k a0 (fun r1 r2 => KF ⟨[.val false [ri r1], .val false [.row .own [.str] r2]], []⟩) :=
 Eq.trans (by kernel_rfl) ((c11_ev g k a0 (fin E.P false Tryz.f6 [] KF)).trans (by kernel_rfl))
end spec_DrawKeepOf
namespace spec_DrawKeepOf
def g (k : Nat) : Cs R := ⟨(), spec_l6Open.c k, spec_l6Rd_pick.c k, spec_KeepStart.c k, spec_l72Near.c k, spec_KeepDo.c k⟩
def c (k : Nat) : T R := b (g k) k
end spec_DrawKeepOf
/-! ### spec_KeepOf: function 7 -/
namespace spec_KeepOf
abbrev T (R : Type) : Type := Int → List ByteArray → (Int → Int → Int → (L5) → (L3) → (L5) → Bool → Option R) → Option R
def con (f : T R) : Con R := ⟨[], fun args K => match args with
 | [.val false [.s (.int .i64 a0)], .val false [pa1]] => withRow [.str] pa1 fun a1 => f a0 a1 (fun r1 r2 r3 r4 r5 r6 r7 => K ⟨[.val true [ri r1, ri r2, ri r3, .row .own q5 r4, .row .own q3 r5, .row .own q5 r6], .val false [.s (.bool r7)]], []⟩)
 | _ => none⟩
structure Cs (R : Type) where
  none_ : Unit := ()
  f12 : spec_KeepStart.T R
  f26 : spec_l3Keeper.T R
  f21 : spec_KeepDo.T R
def G (g : Cs R) : Cons R := [(12, spec_KeepStart.con g.f12), (26, spec_l3Keeper.con g.f26), (21, spec_KeepDo.con g.f21)]
def H : List (Nat × Meet) := [(29, ⟨[(1, [(0, [.str])]), (4, [(3, q5), (4, q3), (5, q5)]), (6, [(3, q5), (4, q3), (5, q5)])], []⟩), (60, ⟨[(1, [(0, [.str])]), (4, [(3, q5), (4, q3), (5, q5)]), (6, [(3, q5), (4, q3), (5, q5)]), (7, [])], []⟩), (63, ⟨[(4, [(3, q5), (4, q3), (5, q5)]), (5, [])], []⟩), (117, ⟨[(4, [(3, q5), (4, q3), (5, q5)]), (5, [])], []⟩), (122, ⟨[(1, [(0, [.str])]), (4, [(3, q5), (4, q3), (5, q5)]), (6, [(3, q5), (4, q3), (5, q5)]), (7, [])], []⟩), (979, ⟨[(1, [(0, [.str])]), (4, [(3, q5), (4, q3), (5, q5)]), (6, [(3, q5), (4, q3), (5, q5)]), (7, [])], []⟩), (1955, ⟨[(4, [(3, q5), (4, q3), (5, q5)]), (6, [(3, q5), (4, q3), (5, q5)])], []⟩), (62613, ⟨[(4, [(3, q5), (4, q3), (5, q5)]), (5, [])], []⟩)]
abbrev S1 (x1 : List ByteArray) (x2 x3 x4 x5 x6 x7 : Int) (x8 : L5) (x9 : L3) (x10 x11 : L5) (x12 : L3) (x13 : L5) : St := mkSt [(1, .c (.sl 32)), (4, .c (.ptr 9004 0 0)), (6, .c (.ptr 9006 0 0))] [(32, .row .ro [.str] x1), (9004, .box [si x2, si x3, si x4, .sl 1039004, .sl 1049004, .sl 1059004]), (9006, .box [si x5, si x6, si x7, .sl 1039006, .sl 1049006, .sl 1059006]), (1039004, .row .own q5 x8), (1049004, .row .own q3 x9), (1059004, .row .own q5 x10), (1039006, .row .own q5 x11), (1049006, .row .own q3 x12), (1059006, .row .own q5 x13)]
abbrev S2 (x1 : Bool) (x2 x3 x4 : Int) (x5 : L5) (x6 : L3) (x7 : L5) : St := mkSt [(4, .c (.ptr 9004 0 0)), (5, .c (.s (.bool x1)))] [(9004, .box [si x2, si x3, si x4, .sl 1039004, .sl 1049004, .sl 1059004]), (1039004, .row .own q5 x5), (1049004, .row .own q3 x6), (1059004, .row .own q5 x7)]
abbrev S3 (x1 : Int) (x2 : List ByteArray) (x3 x4 x5 x6 x7 x8 : Int) (x9 : L5) (x10 : L3) (x11 x12 : L5) (x13 : L3) (x14 : L5) : St := mkSt [(1, .c (.sl 32)), (4, .c (.ptr 9004 0 0)), (6, .c (.ptr 9006 0 0)), (7, .c (si x1))] [(32, .row .ro [.str] x2), (9004, .box [si x3, si x4, si x5, .sl 1039004, .sl 1049004, .sl 1059004]), (9006, .box [si x6, si x7, si x8, .sl 1039006, .sl 1049006, .sl 1059006]), (1039004, .row .own q5 x9), (1049004, .row .own q3 x10), (1059004, .row .own q5 x11), (1039006, .row .own q5 x12), (1049006, .row .own q3 x13), (1059006, .row .own q5 x14)]
abbrev S4 (x1 x2 x3 x4 x5 x6 : Int) (x7 : L5) (x8 : L3) (x9 x10 : L5) (x11 : L3) (x12 : L5) : St := mkSt [(4, .c (.ptr 9004 0 0)), (6, .c (.ptr 9006 0 0))] [(9004, .box [si x1, si x2, si x3, .sl 1039004, .sl 1049004, .sl 1059004]), (9006, .box [si x4, si x5, si x6, .sl 1039006, .sl 1049006, .sl 1059006]), (1039004, .row .own q5 x7), (1049004, .row .own q3 x8), (1059004, .row .own q5 x9), (1039006, .row .own q5 x10), (1049006, .row .own q3 x11), (1059006, .row .own q5 x12)]
noncomputable abbrev V (g : Cs R) (k : Nat) (K : Kont R) (b : List Bool) (p : Nat) (st : St) : Option R := ev E (G g) k H (nodeAt (bodyOf Tryz.f7) b) p st K
noncomputable abbrev U (g : Cs R) (k : Nat) (n : Nat) (b : List Bool) : Nat → St → (St → Option R) → Kont R → Option R := evPre E (G g) k H n (nodeAt (bodyOf Tryz.f7) b)
noncomputable abbrev W (g : Cs R) (k : Nat) (b : List Bool) (p : Nat) : St → Kont R → Option R := ev E (G g) k H (nodeAt (bodyOf Tryz.f7) b) p
variable (g : Cs R) (k : Nat)
def s1 (g : Cs R) (k : Nat) (a0 : Int) (a1 : List ByteArray) (j : Int → Int → Int → Int → Int → Int → (L5) → (L3) → (L5) → (L5) → (L3) → (L5) → Option R) (q : Bool → Int → Int → Int → (L5) → (L3) → (L5) → Option R) : Option R :=
 g.f12 a0 (fun r1 r2 r3 r4 r5 r6 => g.f26 a0 (fun r7 => cond (!r7) (q false r1 r2 r3 r4 r5 r6) (j 0 0 0 r1 r2 r3 [] [] [] r4 r5 r6)))
theorem s1_ev (a0 : Int) (a1 : List ByteArray) (X : St → Option R) (K : Kont R) : U g k 3 [] 1 (mkSt [(0, .c (si a0)), (1, .c (.sl 32))] [(32, .row .ro [.str] a1)]) X K = s1 g k a0 a1 (fun z0 z1 z2 z3 z4 z5 z6 z7 z8 z9 z10 z11 => X (S1 a1 z0 z1 z2 z3 z4 z5 z6 z7 z8 z9 z10 z11)) (fun z12 z13 z14 z15 z16 z17 z18 => K .ret (S2 z12 z13 z14 z15 z16 z17 z18)) := by kernel_rfl
def s2 (g : Cs R) (k : Nat) (a1 : List ByteArray) (z0 z1 z2 z3 z4 z5 : Int) (z6 : L5) (z7 : L3) (z8 z9 : L5) (z10 : L3) (z11 : L5) (j : Int → Option R) : Option R :=
 j 0
theorem s2_ev (a1 : List ByteArray) (z0 z1 z2 z3 z4 z5 : Int) (z6 : L5) (z7 : L3) (z8 z9 : L5) (z10 : L3) (z11 : L5) (X : St → Option R) (K : Kont R) : U g k 1 [true, true, true, false] 30 (S1 a1 z0 z1 z2 z3 z4 z5 z6 z7 z8 z9 z10 z11) X K = s2 g k a1 z0 z1 z2 z3 z4 z5 z6 z7 z8 z9 z10 z11 (fun z19 => X (S3 z19 a1 z0 z1 z2 z3 z4 z5 z6 z7 z8 z9 z10 z11)) := by kernel_rfl
def s3 (g : Cs R) (k : Nat) (z20 : Int) (a1 : List ByteArray) (z0 z1 z2 z21 z22 z23 : Int) (z6 : L5) (z7 : L3) (z8 z24 : L5) (z25 : L3) (z26 : L5) (j : Int → Int → Int → Int → (L5) → (L3) → (L5) → Option R) (x0 : Option R) (q : Bool → Int → Int → Int → (L5) → (L3) → (L5) → Option R) : Option R :=
 cond (decide (z20 < (a1.length : Int))) (cond (decide (0 ≤ z20) && decide (z20 < (a1.length : Int))) (g.f21 z21 z22 z23 z24 z25 z26 (a1.getD z20.toNat ByteArray.empty) (fun r1 r2 r3 r4 r5 r6 r7 => cond (!r7) (q false 0 0 0 [] [] []) (j (IntKind.wrap .i64 (z20 + 1)) r1 r2 r3 r4 r5 r6))) none) (x0)
theorem s3_ev (z20 : Int) (a1 : List ByteArray) (z0 z1 z2 z21 z22 z23 : Int) (z6 : L5) (z7 : L3) (z8 z24 : L5) (z25 : L3) (z26 : L5) (K : Kont R) : V g k K [true, true, true, false, true, false, false] 244 (S3 z20 a1 z0 z1 z2 z21 z22 z23 z6 z7 z8 z24 z25 z26) = s3 g k z20 a1 z0 z1 z2 z21 z22 z23 z6 z7 z8 z24 z25 z26 (fun z27 z28 z29 z30 z31 z32 z33 => K .normal (S3 z27 a1 z0 z1 z2 z28 z29 z30 z6 z7 z8 z31 z32 z33)) (K (.exit 0) (S4 z0 z1 z2 z21 z22 z23 z6 z7 z8 z24 z25 z26)) (fun z34 z35 z36 z37 z38 z39 z40 => K .ret (S2 z34 z35 z36 z37 z38 z39 z40)) := by kernel_rfl
def l4r (g : Cs R) (k : Nat) (a1 : List ByteArray) (z0 z1 z2 : Int) (z6 : L5) (z7 : L3) (z8 : L5) (x0 : Int → Int → Int → (L5) → (L3) → (L5) → Option R) (q : Bool → Int → Int → Int → (L5) → (L3) → (L5) → Option R) : Nat → Int → Int → Int → Int → (L5) → (L3) → (L5) → Option R
 | 0, _, _, _, _, _, _, _ => none
 | n + 1, z20, z21, z22, z23, z24, z25, z26 => s3 g k z20 a1 z0 z1 z2 z21 z22 z23 z6 z7 z8 z24 z25 z26 (fun z27 z28 z29 z30 z31 z32 z33 => l4r g k a1 z0 z1 z2 z6 z7 z8 x0 q n z27 z28 z29 z30 z31 z32 z33) (x0 z21 z22 z23 z24 z25 z26) (fun z34 z35 z36 z37 z38 z39 z40 => q z34 z35 z36 z37 z38 z39 z40)
def l4 (g : Cs R) (k : Nat) (z19 : Int) (a1 : List ByteArray) (z0 z1 z2 z3 z4 z5 : Int) (z6 : L5) (z7 : L3) (z8 z9 : L5) (z10 : L3) (z11 : L5) (x0 : Int → Int → Int → (L5) → (L3) → (L5) → Option R) (q : Bool → Int → Int → Int → (L5) → (L3) → (L5) → Option R) : Option R := l4r g k a1 z0 z1 z2 z6 z7 z8 x0 q k z19 z3 z4 z5 z9 z10 z11
theorem l4r_ev (a1 : List ByteArray) (z0 z1 z2 : Int) (z6 : L5) (z7 : L3) (z8 : L5) (K : Kont R) : ∀ (n : Nat) (z20 z21 z22 z23 : Int) (z24 : L5) (z25 : L3) (z26 : L5), evLoop (W g k [true, true, true, false, true, false, false] 244) (atMeet H 122) K n (S3 z20 a1 z0 z1 z2 z21 z22 z23 z6 z7 z8 z24 z25 z26) = l4r g k a1 z0 z1 z2 z6 z7 z8 (fun z41 z42 z43 z44 z45 z46 => K (.exit 0) (S4 z0 z1 z2 z41 z42 z43 z6 z7 z8 z44 z45 z46)) (fun z47 z48 z49 z50 z51 z52 z53 => K .ret (S2 z47 z48 z49 z50 z51 z52 z53)) n z20 z21 z22 z23 z24 z25 z26 := by
 intro n
 induction n with
 | zero => intros; rfl
 | succ n ih =>
  intro z20 z21 z22 z23 z24 z25 z26
  exact Eq.trans (by kernel_rfl) ((s3_ev g k z20 a1 z0 z1 z2 z21 z22 z23 z6 z7 z8 z24 z25 z26 (loopK (W g k [true, true, true, false, true, false, false] 244) (atMeet H 122) K n)).trans (Eq.trans (by kernel_rfl) (congrArg (fun f_ => s3 g k z20 a1 z0 z1 z2 z21 z22 z23 z6 z7 z8 z24 z25 z26 f_ (K (.exit 0) (S4 z0 z1 z2 z21 z22 z23 z6 z7 z8 z24 z25 z26)) (fun z34 z35 z36 z37 z38 z39 z40 => K .ret (S2 z34 z35 z36 z37 z38 z39 z40))) (funext fun (z27 : Int) => (funext fun (z28 : Int) => (funext fun (z29 : Int) => (funext fun (z30 : Int) => (funext fun (z31 : L5) => (funext fun (z32 : L3) => (funext fun (z33 : L5) => (ih z27 z28 z29 z30 z31 z32 z33)))))))))))
theorem l4_ev (z19 : Int) (a1 : List ByteArray) (z0 z1 z2 z3 z4 z5 : Int) (z6 : L5) (z7 : L3) (z8 z9 : L5) (z10 : L3) (z11 : L5) (K : Kont R) : V g k K [true, true, true, false, true, false] 122 (S3 z19 a1 z0 z1 z2 z3 z4 z5 z6 z7 z8 z9 z10 z11) = l4 g k z19 a1 z0 z1 z2 z3 z4 z5 z6 z7 z8 z9 z10 z11 (fun z41 z42 z43 z44 z45 z46 => K (.exit 0) (S4 z0 z1 z2 z41 z42 z43 z6 z7 z8 z44 z45 z46)) (fun z47 z48 z49 z50 z51 z52 z53 => K .ret (S2 z47 z48 z49 z50 z51 z52 z53)) :=
 Eq.trans (by kernel_rfl) (l4r_ev g k a1 z0 z1 z2 z6 z7 z8 K k z19 z3 z4 z5 z9 z10 z11)
def b5 (g : Cs R) (k : Nat) (z19 : Int) (a1 : List ByteArray) (z0 z1 z2 z3 z4 z5 : Int) (z6 : L5) (z7 : L3) (z8 z9 : L5) (z10 : L3) (z11 : L5) (j : Int → Int → Int → (L5) → (L3) → (L5) → Option R) (q : Bool → Int → Int → Int → (L5) → (L3) → (L5) → Option R) : Option R :=
 l4 g k z19 a1 z0 z1 z2 z3 z4 z5 z6 z7 z8 z9 z10 z11 (fun z41 z42 z43 z44 z45 z46 => j z41 z42 z43 z44 z45 z46) (fun z47 z48 z49 z50 z51 z52 z53 => q z47 z48 z49 z50 z51 z52 z53)
theorem b5_ev (z19 : Int) (a1 : List ByteArray) (z0 z1 z2 z3 z4 z5 : Int) (z6 : L5) (z7 : L3) (z8 z9 : L5) (z10 : L3) (z11 : L5) (K : Kont R) : V g k K [true, true, true, false, true] 61 (S3 z19 a1 z0 z1 z2 z3 z4 z5 z6 z7 z8 z9 z10 z11) = b5 g k z19 a1 z0 z1 z2 z3 z4 z5 z6 z7 z8 z9 z10 z11 (fun z54 z55 z56 z57 z58 z59 => K .normal (S4 z0 z1 z2 z54 z55 z56 z6 z7 z8 z57 z58 z59)) (fun z60 z61 z62 z63 z64 z65 z66 => K .ret (S2 z60 z61 z62 z63 z64 z65 z66)) :=
 Eq.trans (by kernel_rfl) ((l4_ev g k z19 a1 z0 z1 z2 z3 z4 z5 z6 z7 z8 z9 z10 z11 (blockK 0 (fun st => K .normal (atMeet H 61 st)) K)).trans (by kernel_rfl))
def c6 (g : Cs R) (k : Nat) (a1 : List ByteArray) (z0 z1 z2 z3 z4 z5 : Int) (z6 : L5) (z7 : L3) (z8 z9 : L5) (z10 : L3) (z11 : L5) (j : Int → Int → Int → (L5) → (L3) → (L5) → Option R) (q : Bool → Int → Int → Int → (L5) → (L3) → (L5) → Option R) : Option R :=
 s2 g k a1 z0 z1 z2 z3 z4 z5 z6 z7 z8 z9 z10 z11 (fun z19 => b5 g k z19 a1 z0 z1 z2 z3 z4 z5 z6 z7 z8 z9 z10 z11 (fun z54 z55 z56 z57 z58 z59 => j z54 z55 z56 z57 z58 z59) (fun z60 z61 z62 z63 z64 z65 z66 => q z60 z61 z62 z63 z64 z65 z66))
theorem c6_ev (a1 : List ByteArray) (z0 z1 z2 z3 z4 z5 : Int) (z6 : L5) (z7 : L3) (z8 z9 : L5) (z10 : L3) (z11 : L5) (K : Kont R) : V g k K [true, true, true, false] 30 (S1 a1 z0 z1 z2 z3 z4 z5 z6 z7 z8 z9 z10 z11) = c6 g k a1 z0 z1 z2 z3 z4 z5 z6 z7 z8 z9 z10 z11 (fun z67 z68 z69 z70 z71 z72 => K .normal (S4 z0 z1 z2 z67 z68 z69 z6 z7 z8 z70 z71 z72)) (fun z73 z74 z75 z76 z77 z78 z79 => K .ret (S2 z73 z74 z75 z76 z77 z78 z79)) :=
 (Eq.trans (by kernel_rfl) (s2_ev g k a1 z0 z1 z2 z3 z4 z5 z6 z7 z8 z9 z10 z11 (V g k K [true, true, true, false, true] 61) K)).trans (congrArg (fun f_ => s2 g k a1 z0 z1 z2 z3 z4 z5 z6 z7 z8 z9 z10 z11 f_) (funext fun (z19 : Int) => (b5_ev g k z19 a1 z0 z1 z2 z3 z4 z5 z6 z7 z8 z9 z10 z11 K)))
def s7 (g : Cs R) (k : Nat) (z0 z1 z2 z67 z68 z69 : Int) (z6 : L5) (z7 : L3) (z8 z70 : L5) (z71 : L3) (z72 : L5) (q : Bool → Option R) : Option R :=
 q true
theorem s7_ev (z0 z1 z2 z67 z68 z69 : Int) (z6 : L5) (z7 : L3) (z8 z70 : L5) (z71 : L3) (z72 : L5) (K : Kont R) : V g k K [true, true, true, true] 31 (S4 z0 z1 z2 z67 z68 z69 z6 z7 z8 z70 z71 z72) = s7 g k z0 z1 z2 z67 z68 z69 z6 z7 z8 z70 z71 z72 (fun z80 => K .ret (S2 z80 z67 z68 z69 z70 z71 z72)) := by kernel_rfl
def c8 (g : Cs R) (k : Nat) (a1 : List ByteArray) (z0 z1 z2 z3 z4 z5 : Int) (z6 : L5) (z7 : L3) (z8 z9 : L5) (z10 : L3) (z11 : L5) (q : Bool → Int → Int → Int → (L5) → (L3) → (L5) → Option R) : Option R :=
 c6 g k a1 z0 z1 z2 z3 z4 z5 z6 z7 z8 z9 z10 z11 (fun z67 z68 z69 z70 z71 z72 => s7 g k z0 z1 z2 z67 z68 z69 z6 z7 z8 z70 z71 z72 (fun z80 => q z80 z67 z68 z69 z70 z71 z72)) (fun z73 z74 z75 z76 z77 z78 z79 => q z73 z74 z75 z76 z77 z78 z79)
theorem c8_ev (a1 : List ByteArray) (z0 z1 z2 z3 z4 z5 : Int) (z6 : L5) (z7 : L3) (z8 z9 : L5) (z10 : L3) (z11 : L5) (K : Kont R) : V g k K [true, true, true] 15 (S1 a1 z0 z1 z2 z3 z4 z5 z6 z7 z8 z9 z10 z11) = c8 g k a1 z0 z1 z2 z3 z4 z5 z6 z7 z8 z9 z10 z11 (fun z81 z82 z83 z84 z85 z86 z87 => K .ret (S2 z81 z82 z83 z84 z85 z86 z87)) :=
 (Eq.trans (by kernel_rfl) (c6_ev g k a1 z0 z1 z2 z3 z4 z5 z6 z7 z8 z9 z10 z11 (seqK (V g k K [true, true, true, true] 31) K))).trans (congrArg (fun f_ => c6 g k a1 z0 z1 z2 z3 z4 z5 z6 z7 z8 z9 z10 z11 f_ (fun z73 z74 z75 z76 z77 z78 z79 => K .ret (S2 z73 z74 z75 z76 z77 z78 z79))) (funext fun (z67 : Int) => (funext fun (z68 : Int) => (funext fun (z69 : Int) => (funext fun (z70 : L5) => (funext fun (z71 : L3) => (funext fun (z72 : L5) => (seqN (f := (V g k K [true, true, true, true] 31)) (K := K) (s7_ev g k z0 z1 z2 z67 z68 z69 z6 z7 z8 z70 z71 z72 K)))))))))
def c9 (g : Cs R) (k : Nat) (a0 : Int) (a1 : List ByteArray) (q : Bool → Int → Int → Int → (L5) → (L3) → (L5) → Option R) : Option R :=
 s1 g k a0 a1 (fun z0 z1 z2 z3 z4 z5 z6 z7 z8 z9 z10 z11 => c8 g k a1 z0 z1 z2 z3 z4 z5 z6 z7 z8 z9 z10 z11 (fun z81 z82 z83 z84 z85 z86 z87 => q z81 z82 z83 z84 z85 z86 z87)) (fun z12 z13 z14 z15 z16 z17 z18 => q z12 z13 z14 z15 z16 z17 z18)
theorem c9_ev (a0 : Int) (a1 : List ByteArray) (K : Kont R) : V g k K [] 1 (mkSt [(0, .c (si a0)), (1, .c (.sl 32))] [(32, .row .ro [.str] a1)]) = c9 g k a0 a1 (fun z88 z89 z90 z91 z92 z93 z94 => K .ret (S2 z88 z89 z90 z91 z92 z93 z94)) :=
 (Eq.trans (by kernel_rfl) (s1_ev g k a0 a1 (V g k K [true, true, true] 15) K)).trans (congrArg (fun f_ => s1 g k a0 a1 f_ (fun z12 z13 z14 z15 z16 z17 z18 => K .ret (S2 z12 z13 z14 z15 z16 z17 z18))) (funext fun (z0 : Int) => (funext fun (z1 : Int) => (funext fun (z2 : Int) => (funext fun (z3 : Int) => (funext fun (z4 : Int) => (funext fun (z5 : Int) => (funext fun (z6 : L5) => (funext fun (z7 : L3) => (funext fun (z8 : L5) => (funext fun (z9 : L5) => (funext fun (z10 : L3) => (funext fun (z11 : L5) => (c8_ev g k a1 z0 z1 z2 z3 z4 z5 z6 z7 z8 z9 z10 z11 K))))))))))))))
def b (g : Cs R) (k : Nat) (a0 : Int) (a1 : List ByteArray) (K : Int → Int → Int → (L5) → (L3) → (L5) → Bool → Option R) : Option R :=
 c9 g k a0 a1 (fun z88 z89 z90 z91 z92 z93 z94 => K z89 z90 z91 z92 z93 z94 z88)
theorem evs (a0 : Int) (a1 : List ByteArray) (KF : Ret → Option R) : evFunc E (G g) k H [] false Tryz.f7 [.val false [ri a0], .val false [.row .ro [.str] a1]] KF = b g k a0 a1 (fun r1 r2 r3 r4 r5 r6 r7 => KF ⟨[.val true [ri r1, ri r2, ri r3, .row .own q5 r4, .row .own q3 r5, .row .own q5 r6], .val false [.s (.bool r7)]], []⟩) :=
 Eq.trans (by kernel_rfl) ((c9_ev g k a0 a1 (fin E.P false Tryz.f7 [] KF)).trans (by kernel_rfl))
end spec_KeepOf
namespace spec_KeepOf
def g (k : Nat) : Cs R := ⟨(), spec_KeepStart.c k, spec_l3Keeper.c k, spec_KeepDo.c k⟩
def c (k : Nat) : T R := b (g k) k
end spec_KeepOf
/-! ### impl_in: function 53 -/
namespace impl_in
abbrev T (R : Type) : Type := Int → Int → Int → (Bool → Option R) → Option R
def con (f : T R) : Con R := ⟨[], fun args K => match args with
 | [.val false [.s (.int .i64 a0)], .val false [.s (.int .i64 a1)], .val false [.s (.int .i64 a2)]] => f a0 a1 a2 (fun r1 => K ⟨[.val false [.s (.bool r1)]], []⟩)
 | _ => none⟩
structure Cs (R : Type) where
  none_ : Unit := ()
def G (g : Cs R) : Cons R := []
def H : List (Nat × Meet) := []
variable (g : Cs R) (k : Nat)
def b (g : Cs R) (k : Nat) (a0 a1 a2 : Int) (K : Bool → Option R) : Option R :=
 cond (decide (a1 ≤ a0)) (K (decide (a0 ≤ a2))) (K false)
theorem evs (a0 a1 a2 : Int) (KF : Ret → Option R) : evFunc E (G g) k H [] false Tryz.f53 [.val false [ri a0], .val false [ri a1], .val false [ri a2]] KF = b g k a0 a1 a2 (fun r1 => KF ⟨[.val false [.s (.bool r1)]], []⟩) :=
 by kernel_rfl
end impl_in
namespace impl_in
def g (k : Nat) : Cs R := ⟨()⟩
def c (k : Nat) : T R := b (g k) k
end impl_in
/-! ### impl_isNode: function 27 -/
namespace impl_isNode
abbrev T (R : Type) : Type := Int → (Bool → Option R) → Option R
def con (f : T R) : Con R := ⟨[], fun args K => match args with
 | [.val false [.s (.int .i64 a0)]] => f a0 (fun r1 => K ⟨[.val false [.s (.bool r1)]], []⟩)
 | _ => none⟩
structure Cs (R : Type) where
  none_ : Unit := ()
  f53 : impl_in.T R
def G (g : Cs R) : Cons R := [(53, impl_in.con g.f53)]
def H : List (Nat × Meet) := []
variable (g : Cs R) (k : Nat)
def b (g : Cs R) (k : Nat) (a0 : Int) (K : Bool → Option R) : Option R :=
 g.f53 a0 0 3 (fun r1 => K r1)
theorem evs (a0 : Int) (KF : Ret → Option R) : evFunc E (G g) k H [] false Tryz.f27 [.val false [ri a0]] KF = b g k a0 (fun r1 => KF ⟨[.val false [.s (.bool r1)]], []⟩) :=
 by kernel_rfl
end impl_isNode
namespace impl_isNode
def g (k : Nat) : Cs R := ⟨(), impl_in.c k⟩
def c (k : Nat) : T R := b (g k) k
end impl_isNode
/-! ### impl_textOk: function 107 -/
namespace impl_textOk
abbrev T (R : Type) : Type := ByteArray → (Bool → Option R) → Option R
def con (f : T R) : Con R := ⟨[], fun args K => match args with
 | [.val false [.s (.string a0)]] => f a0 (fun r1 => K ⟨[.val false [.s (.bool r1)]], []⟩)
 | _ => none⟩
structure Cs (R : Type) where
  none_ : Unit := ()
  f53 : impl_in.T R
def G (g : Cs R) : Cons R := [(53, impl_in.con g.f53)]
def H : List (Nat × Meet) := [(2, ⟨[(0, [])], []⟩), (12, ⟨[(0, []), (3, [])], []⟩), (15, ⟨[(2, [])], []⟩), (26, ⟨[(0, []), (3, [])], []⟩), (211, ⟨[(0, []), (3, [])], []⟩), (419, ⟨[(0, [])], []⟩), (3365, ⟨[(2, [])], []⟩)]
abbrev S1 (x1 : ByteArray) : St := mkSt [(0, .c (.s (.string x1)))] []
abbrev S2 (x1 : ByteArray) (x2 : Int) : St := mkSt [(0, .c (.s (.string x1))), (3, .c (si x2))] []
abbrev S3 (x1 : Bool) : St := mkSt [(2, .c (.s (.bool x1)))] []
noncomputable abbrev V (g : Cs R) (k : Nat) (K : Kont R) (b : List Bool) (p : Nat) (st : St) : Option R := ev E (G g) k H (nodeAt (bodyOf Tryz.f107) b) p st K
noncomputable abbrev U (g : Cs R) (k : Nat) (n : Nat) (b : List Bool) : Nat → St → (St → Option R) → Kont R → Option R := evPre E (G g) k H n (nodeAt (bodyOf Tryz.f107) b)
noncomputable abbrev W (g : Cs R) (k : Nat) (b : List Bool) (p : Nat) : St → Kont R → Option R := ev E (G g) k H (nodeAt (bodyOf Tryz.f107) b) p
variable (g : Cs R) (k : Nat)
def s1 (g : Cs R) (k : Nat) (a0 : ByteArray) (j : Option R) : Option R :=
 j
theorem s1_ev (a0 : ByteArray) (X : St → Option R) (K : Kont R) : U g k 1 [] 1 (S1 a0) X K = s1 g k a0 (X (S1 a0)) := by kernel_rfl
def s2 (g : Cs R) (k : Nat) (a0 : ByteArray) (j : Int → Option R) : Option R :=
 j 0
theorem s2_ev (a0 : ByteArray) (X : St → Option R) (K : Kont R) : U g k 1 [true, false] 6 (S1 a0) X K = s2 g k a0 (fun z0 => X (S2 a0 z0)) := by kernel_rfl
def s3 (g : Cs R) (k : Nat) (a0 : ByteArray) (z1 : Int) (j : Int → Option R) (x0 : Option R) (q : Bool → Option R) : Option R :=
 cond (decide (z1 < (a0.size : Int))) (cond (decide (0 ≤ z1) && decide (z1 < (a0.size : Int))) (g.f53 (IntKind.wrap .i64 ((byteAt a0 z1.toNat))) 32 126 (fun r1 => cond (!r1) (q false) (j (IntKind.wrap .i64 (z1 + 1))))) none) (x0)
theorem s3_ev (a0 : ByteArray) (z1 : Int) (K : Kont R) : V g k K [true, false, true, false, false] 52 (S2 a0 z1) = s3 g k a0 z1 (fun z2 => K .normal (S2 a0 z2)) (K (.exit 0) (S1 a0)) (fun z3 => K .ret (S3 z3)) := by kernel_rfl
def l4r (g : Cs R) (k : Nat) (a0 : ByteArray) (x0 : Option R) (q : Bool → Option R) : Nat → Int → Option R
 | 0, _ => none
 | n + 1, z1 => s3 g k a0 z1 (fun z2 => l4r g k a0 x0 q n z2) (x0) (fun z3 => q z3)
def l4 (g : Cs R) (k : Nat) (a0 : ByteArray) (z0 : Int) (x0 : Option R) (q : Bool → Option R) : Option R := l4r g k a0 x0 q k z0
theorem l4r_ev (a0 : ByteArray) (K : Kont R) : ∀ (n : Nat) (z1 : Int), evLoop (W g k [true, false, true, false, false] 52) (atMeet H 26) K n (S2 a0 z1) = l4r g k a0 (K (.exit 0) (S1 a0)) (fun z4 => K .ret (S3 z4)) n z1 := by
 intro n
 induction n with
 | zero => intros; rfl
 | succ n ih =>
  intro z1
  exact Eq.trans (by kernel_rfl) ((s3_ev g k a0 z1 (loopK (W g k [true, false, true, false, false] 52) (atMeet H 26) K n)).trans (Eq.trans (by kernel_rfl) (congrArg (fun f_ => s3 g k a0 z1 f_ (K (.exit 0) (S1 a0)) (fun z3 => K .ret (S3 z3))) (funext fun (z2 : Int) => (ih z2)))))
theorem l4_ev (a0 : ByteArray) (z0 : Int) (K : Kont R) : V g k K [true, false, true, false] 26 (S2 a0 z0) = l4 g k a0 z0 (K (.exit 0) (S1 a0)) (fun z4 => K .ret (S3 z4)) :=
 Eq.trans (by kernel_rfl) (l4r_ev g k a0 K k z0)
def b5 (g : Cs R) (k : Nat) (a0 : ByteArray) (z0 : Int) (j : Option R) (q : Bool → Option R) : Option R :=
 l4 g k a0 z0 (j) (fun z4 => q z4)
theorem b5_ev (a0 : ByteArray) (z0 : Int) (K : Kont R) : V g k K [true, false, true] 13 (S2 a0 z0) = b5 g k a0 z0 (K .normal (S1 a0)) (fun z5 => K .ret (S3 z5)) :=
 Eq.trans (by kernel_rfl) ((l4_ev g k a0 z0 (blockK 0 (fun st => K .normal (atMeet H 13 st)) K)).trans (by kernel_rfl))
def c6 (g : Cs R) (k : Nat) (a0 : ByteArray) (j : Option R) (q : Bool → Option R) : Option R :=
 s2 g k a0 (fun z0 => b5 g k a0 z0 (j) (fun z5 => q z5))
theorem c6_ev (a0 : ByteArray) (K : Kont R) : V g k K [true, false] 6 (S1 a0) = c6 g k a0 (K .normal (S1 a0)) (fun z6 => K .ret (S3 z6)) :=
 (Eq.trans (by kernel_rfl) (s2_ev g k a0 (V g k K [true, false, true] 13) K)).trans (congrArg (fun f_ => s2 g k a0 f_) (funext fun (z0 : Int) => (b5_ev g k a0 z0 K)))
def s7 (g : Cs R) (k : Nat) (a0 : ByteArray) (q : Bool → Option R) : Option R :=
 g.f53 (a0.size : Int) 1 24 (fun r1 => q r1)
theorem s7_ev (a0 : ByteArray) (K : Kont R) : V g k K [true, true] 7 (S1 a0) = s7 g k a0 (fun z7 => K .ret (S3 z7)) := by kernel_rfl
def c8 (g : Cs R) (k : Nat) (a0 : ByteArray) (q : Bool → Option R) : Option R :=
 c6 g k a0 (s7 g k a0 (fun z7 => q z7)) (fun z6 => q z6)
theorem c8_ev (a0 : ByteArray) (K : Kont R) : V g k K [true] 3 (S1 a0) = c8 g k a0 (fun z8 => K .ret (S3 z8)) :=
 (Eq.trans (by kernel_rfl) (c6_ev g k a0 (seqK (V g k K [true, true] 7) K))).trans (congrArg (fun f_ => c6 g k a0 f_ (fun z6 => K .ret (S3 z6))) (seqN (f := (V g k K [true, true] 7)) (K := K) (s7_ev g k a0 K)))
def c9 (g : Cs R) (k : Nat) (a0 : ByteArray) (q : Bool → Option R) : Option R :=
 s1 g k a0 (c8 g k a0 (fun z8 => q z8))
theorem c9_ev (a0 : ByteArray) (K : Kont R) : V g k K [] 1 (S1 a0) = c9 g k a0 (fun z9 => K .ret (S3 z9)) :=
 (Eq.trans (by kernel_rfl) (s1_ev g k a0 (V g k K [true] 3) K)).trans (congrArg (fun f_ => s1 g k a0 f_) (c8_ev g k a0 K))
def b (g : Cs R) (k : Nat) (a0 : ByteArray) (K : Bool → Option R) : Option R :=
 c9 g k a0 (fun z9 => K z9)
theorem evs (a0 : ByteArray) (KF : Ret → Option R) : evFunc E (G g) k H [] false Tryz.f107 [.val false [.s (.string a0)]] KF = b g k a0 (fun r1 => KF ⟨[.val false [.s (.bool r1)]], []⟩) :=
 Eq.trans (by kernel_rfl) ((c9_ev g k a0 (fin E.P false Tryz.f107 [] KF)).trans (by kernel_rfl))
end impl_textOk
namespace impl_textOk
def g (k : Nat) : Cs R := ⟨(), impl_in.c k⟩
def c (k : Nat) : T R := b (g k) k
end impl_textOk
/-! ### impl_NoteOk: function 92 -/
namespace impl_NoteOk
abbrev T (R : Type) : Type := Int → Int → Int → Int → ByteArray → (Bool → Option R) → Option R
def con (f : T R) : Con R := ⟨[], fun args K => match args with
 | [.val true [.s (.int .i64 A), .s (.int .i64 B), .s (.int .i64 C), .s (.int .i64 D), .s (.string F)]] => f A B C D F (fun r1 => K ⟨[.val false [.s (.bool r1)]], []⟩)
 | _ => none⟩
structure Cs (R : Type) where
  none_ : Unit := ()
  f27 : impl_isNode.T R
  f53 : impl_in.T R
  f107 : impl_textOk.T R
def G (g : Cs R) : Cons R := [(27, impl_isNode.con g.f27), (53, impl_in.con g.f53), (107, impl_textOk.con g.f107)]
def H : List (Nat × Meet) := []
variable (g : Cs R) (k : Nat)
def b (g : Cs R) (k : Nat) (A B C D : Int) (F : ByteArray) (K : Bool → Option R) : Option R :=
 g.f27 A (fun r1 => cond r1 (g.f27 C (fun r2 => cond r2 (g.f53 B 1 99 (fun r3 => cond r3 (g.f53 D 1 999 (fun r4 => cond r4 (g.f107 F (fun r5 => K r5)) (K false))) (K false))) (K false))) (K false))
theorem evs (A B C D : Int) (F : ByteArray) (KF : Ret → Option R) : evFunc E (G g) k H [] false Tryz.f92 [.val true [ri A, ri B, ri C, ri D, .s (.string F)]] KF = b g k A B C D F (fun r1 => KF ⟨[.val false [.s (.bool r1)]], []⟩) :=
 by kernel_rfl
end impl_NoteOk
namespace impl_NoteOk
def g (k : Nat) : Cs R := ⟨(), impl_isNode.c k, impl_in.c k, impl_textOk.c k⟩
def c (k : Nat) : T R := b (g k) k
end impl_NoteOk
/-! ### impl_before: function 93 -/
namespace impl_before
abbrev T (R : Type) : Type := Int → Int → Int → Int → (Bool → Option R) → Option R
def con (f : T R) : Con R := ⟨[], fun args K => match args with
 | [.val false [.s (.int .i64 a0)], .val false [.s (.int .i64 a1)], .val false [.s (.int .i64 a2)], .val false [.s (.int .i64 a3)]] => f a0 a1 a2 a3 (fun r1 => K ⟨[.val false [.s (.bool r1)]], []⟩)
 | _ => none⟩
structure Cs (R : Type) where
  none_ : Unit := ()
def G (g : Cs R) : Cons R := []
def H : List (Nat × Meet) := []
variable (g : Cs R) (k : Nat)
def b (g : Cs R) (k : Nat) (a0 a1 a2 a3 : Int) (K : Bool → Option R) : Option R :=
 cond (decide (a0 < a2)) (K true) (cond (decide (a0 = a2)) (K (decide (a1 < a3))) (K false))
theorem evs (a0 a1 a2 a3 : Int) (KF : Ret → Option R) : evFunc E (G g) k H [] false Tryz.f93 [.val false [ri a0], .val false [ri a1], .val false [ri a2], .val false [ri a3]] KF = b g k a0 a1 a2 a3 (fun r1 => KF ⟨[.val false [.s (.bool r1)]], []⟩) :=
 by kernel_rfl
end impl_before
namespace impl_before
def g (k : Nat) : Cs R := ⟨()⟩
def c (k : Nat) : T R := b (g k) k
end impl_before
/-! ### impl_notesOk: function 54 -/
namespace impl_notesOk
abbrev T (R : Type) : Type := (L5) → (Bool → Option R) → Option R
def con (f : T R) : Con R := ⟨[], fun args K => match args with
 | [.val false [pa0]] => withRow q5 pa0 fun a0 => f a0 (fun r1 => K ⟨[.val false [.s (.bool r1)]], []⟩)
 | _ => none⟩
structure Cs (R : Type) where
  none_ : Unit := ()
  f92 : impl_NoteOk.T R
  f93 : impl_before.T R
def G (g : Cs R) : Cons R := [(92, impl_NoteOk.con g.f92), (93, impl_before.con g.f93)]
def H : List (Nat × Meet) := [(2, ⟨[(0, [(0, q5)])], []⟩), (12, ⟨[(0, [(0, q5)]), (5, [(0, q5)]), (6, []), (7, [])], []⟩), (15, ⟨[(2, [])], []⟩), (26, ⟨[(0, [(0, q5)]), (5, [(0, q5)]), (6, []), (7, [])], []⟩), (421, ⟨[], []⟩), (423, ⟨[(0, [(0, q5)]), (5, [(0, q5)]), (6, []), (7, [])], []⟩), (13517, ⟨[(2, [])], []⟩)]
abbrev S1 (x1 : L5) : St := mkSt [(0, .c (.sl 0))] [(0, .row .ro q5 x1)]
abbrev S2 (x1 x2 : Int) (x3 : L5) : St := mkSt [(0, .c (.sl 0)), (5, .c (.sl 0)), (6, .c (si x1)), (7, .c (si x2))] [(0, .row .ro q5 x3)]
abbrev S3 : St := mkSt [] []
abbrev S4 (x1 : Bool) : St := mkSt [(2, .c (.s (.bool x1)))] []
noncomputable abbrev V (g : Cs R) (k : Nat) (K : Kont R) (b : List Bool) (p : Nat) (st : St) : Option R := ev E (G g) k H (nodeAt (bodyOf Tryz.f54) b) p st K
noncomputable abbrev U (g : Cs R) (k : Nat) (n : Nat) (b : List Bool) : Nat → St → (St → Option R) → Kont R → Option R := evPre E (G g) k H n (nodeAt (bodyOf Tryz.f54) b)
noncomputable abbrev W (g : Cs R) (k : Nat) (b : List Bool) (p : Nat) : St → Kont R → Option R := ev E (G g) k H (nodeAt (bodyOf Tryz.f54) b) p
variable (g : Cs R) (k : Nat)
def s1 (g : Cs R) (k : Nat) (a0 : L5) (j : Option R) : Option R :=
 j
theorem s1_ev (a0 : L5) (X : St → Option R) (K : Kont R) : U g k 1 [] 1 (S1 a0) X K = s1 g k a0 (X (S1 a0)) := by kernel_rfl
def s2 (g : Cs R) (k : Nat) (a0 : L5) (j : Int → Int → Option R) : Option R :=
 j (a0.length : Int) 0
theorem s2_ev (a0 : L5) (X : St → Option R) (K : Kont R) : U g k 1 [true, false] 6 (S1 a0) X K = s2 g k a0 (fun z0 z1 => X (S2 z0 z1 a0)) := by kernel_rfl
def s3 (g : Cs R) (k : Nat) (z0 z2 : Int) (a0 : L5) (j : Int → Option R) (x0 : Option R) (q : Bool → Option R) : Option R :=
 cond (decide (z2 < z0)) (cond (decide (0 ≤ z2) && decide (z2 < (a0.length : Int))) (g.f92 ((a0.getD z2.toNat n5).1) ((a0.getD z2.toNat n5).2.1) ((a0.getD z2.toNat n5).2.2.1) ((a0.getD z2.toNat n5).2.2.2.1) ((a0.getD z2.toNat n5).2.2.2.2) (fun r1 => cond (!r1) (q false) (cond (decide ((0 : Int) < z2)) (cond (decide (0 ≤ (IntKind.wrap .i64 (z2 - 1))) && decide ((IntKind.wrap .i64 (z2 - 1)) < (a0.length : Int))) (let y2 := (a0.getD ((IntKind.wrap .i64 (z2 - 1)).toNat) n5).1; cond (decide (0 ≤ (IntKind.wrap .i64 (z2 - 1))) && decide ((IntKind.wrap .i64 (z2 - 1)) < (a0.length : Int))) (let y3 := (a0.getD ((IntKind.wrap .i64 (z2 - 1)).toNat) n5).2.1; let y4 := (a0.getD z2.toNat n5).1; let y5 := (a0.getD z2.toNat n5).2.1; g.f93 y2 y3 y4 y5 (fun r6 => cond (!r6) (q false) (j (IntKind.wrap .i64 (z2 + 1))))) none) none) (j (IntKind.wrap .i64 (z2 + 1)))))) none) (x0)
theorem s3_ev (z0 z2 : Int) (a0 : L5) (K : Kont R) : V g k K [true, false, true, false, false] 52 (S2 z0 z2 a0) = s3 g k z0 z2 a0 (fun z3 => K .normal (S2 z0 z3 a0)) (K (.exit 0) S3) (fun z4 => K .ret (S4 z4)) := by kernel_rfl
def l4r (g : Cs R) (k : Nat) (z0 : Int) (a0 : L5) (x0 : Option R) (q : Bool → Option R) : Nat → Int → Option R
 | 0, _ => none
 | n + 1, z2 => s3 g k z0 z2 a0 (fun z3 => l4r g k z0 a0 x0 q n z3) (x0) (fun z4 => q z4)
def l4 (g : Cs R) (k : Nat) (z0 z1 : Int) (a0 : L5) (x0 : Option R) (q : Bool → Option R) : Option R := l4r g k z0 a0 x0 q k z1
theorem l4r_ev (z0 : Int) (a0 : L5) (K : Kont R) : ∀ (n : Nat) (z2 : Int), evLoop (W g k [true, false, true, false, false] 52) (atMeet H 26) K n (S2 z0 z2 a0) = l4r g k z0 a0 (K (.exit 0) S3) (fun z5 => K .ret (S4 z5)) n z2 := by
 intro n
 induction n with
 | zero => intros; rfl
 | succ n ih =>
  intro z2
  exact Eq.trans (by kernel_rfl) ((s3_ev g k z0 z2 a0 (loopK (W g k [true, false, true, false, false] 52) (atMeet H 26) K n)).trans (Eq.trans (by kernel_rfl) (congrArg (fun f_ => s3 g k z0 z2 a0 f_ (K (.exit 0) S3) (fun z4 => K .ret (S4 z4))) (funext fun (z3 : Int) => (ih z3)))))
theorem l4_ev (z0 z1 : Int) (a0 : L5) (K : Kont R) : V g k K [true, false, true, false] 26 (S2 z0 z1 a0) = l4 g k z0 z1 a0 (K (.exit 0) S3) (fun z5 => K .ret (S4 z5)) :=
 Eq.trans (by kernel_rfl) (l4r_ev g k z0 a0 K k z1)
def b5 (g : Cs R) (k : Nat) (z0 z1 : Int) (a0 : L5) (j : Option R) (q : Bool → Option R) : Option R :=
 l4 g k z0 z1 a0 (j) (fun z5 => q z5)
theorem b5_ev (z0 z1 : Int) (a0 : L5) (K : Kont R) : V g k K [true, false, true] 13 (S2 z0 z1 a0) = b5 g k z0 z1 a0 (K .normal S3) (fun z6 => K .ret (S4 z6)) :=
 Eq.trans (by kernel_rfl) ((l4_ev g k z0 z1 a0 (blockK 0 (fun st => K .normal (atMeet H 13 st)) K)).trans (by kernel_rfl))
def c6 (g : Cs R) (k : Nat) (a0 : L5) (j : Option R) (q : Bool → Option R) : Option R :=
 s2 g k a0 (fun z0 z1 => b5 g k z0 z1 a0 (j) (fun z6 => q z6))
theorem c6_ev (a0 : L5) (K : Kont R) : V g k K [true, false] 6 (S1 a0) = c6 g k a0 (K .normal S3) (fun z7 => K .ret (S4 z7)) :=
 (Eq.trans (by kernel_rfl) (s2_ev g k a0 (V g k K [true, false, true] 13) K)).trans (congrArg (fun f_ => s2 g k a0 f_) (funext fun (z0 : Int) => (funext fun (z1 : Int) => (b5_ev g k z0 z1 a0 K))))
def s7 (g : Cs R) (k : Nat)  (q : Bool → Option R) : Option R :=
 q true
theorem s7_ev  (K : Kont R) : V g k K [true, true] 7 S3 = s7 g k (fun z8 => K .ret (S4 z8)) := by kernel_rfl
def c8 (g : Cs R) (k : Nat) (a0 : L5) (q : Bool → Option R) : Option R :=
 c6 g k a0 (s7 g k (fun z8 => q z8)) (fun z7 => q z7)
theorem c8_ev (a0 : L5) (K : Kont R) : V g k K [true] 3 (S1 a0) = c8 g k a0 (fun z9 => K .ret (S4 z9)) :=
 (Eq.trans (by kernel_rfl) (c6_ev g k a0 (seqK (V g k K [true, true] 7) K))).trans (congrArg (fun f_ => c6 g k a0 f_ (fun z7 => K .ret (S4 z7))) (seqN (f := (V g k K [true, true] 7)) (K := K) (s7_ev g k K)))
def c9 (g : Cs R) (k : Nat) (a0 : L5) (q : Bool → Option R) : Option R :=
 s1 g k a0 (c8 g k a0 (fun z9 => q z9))
theorem c9_ev (a0 : L5) (K : Kont R) : V g k K [] 1 (S1 a0) = c9 g k a0 (fun z10 => K .ret (S4 z10)) :=
 (Eq.trans (by kernel_rfl) (s1_ev g k a0 (V g k K [true] 3) K)).trans (congrArg (fun f_ => s1 g k a0 f_) (c8_ev g k a0 K))
def b (g : Cs R) (k : Nat) (a0 : L5) (K : Bool → Option R) : Option R :=
 c9 g k a0 (fun z10 => K z10)
theorem evs (a0 : L5) (KF : Ret → Option R) : evFunc E (G g) k H [] false Tryz.f54 [.val false [.row .ro q5 a0]] KF = b g k a0 (fun r1 => KF ⟨[.val false [.s (.bool r1)]], []⟩) :=
 Eq.trans (by kernel_rfl) ((c9_ev g k a0 (fin E.P false Tryz.f54 [] KF)).trans (by kernel_rfl))
end impl_notesOk
namespace impl_notesOk
def g (k : Nat) : Cs R := ⟨(), impl_NoteOk.c k, impl_before.c k⟩
def c (k : Nat) : T R := b (g k) k
end impl_notesOk
/-! ### impl_markOk: function 94 -/
namespace impl_markOk
abbrev T (R : Type) : Type := Int → Int → Int → (Bool → Option R) → Option R
def con (f : T R) : Con R := ⟨[], fun args K => match args with
 | [.val true [.s (.int .i64 A), .s (.int .i64 B), .s (.int .i64 C)]] => f A B C (fun r1 => K ⟨[.val false [.s (.bool r1)]], []⟩)
 | _ => none⟩
structure Cs (R : Type) where
  none_ : Unit := ()
  f27 : impl_isNode.T R
  f53 : impl_in.T R
def G (g : Cs R) : Cons R := [(27, impl_isNode.con g.f27), (53, impl_in.con g.f53)]
def H : List (Nat × Meet) := []
variable (g : Cs R) (k : Nat)
def b (g : Cs R) (k : Nat) (A B C : Int) (K : Bool → Option R) : Option R :=
 g.f27 A (fun r1 => cond r1 (g.f53 B 1 99 (fun r2 => cond r2 (g.f53 C 1 999 (fun r3 => K r3)) (K false))) (K false))
theorem evs (A B C : Int) (KF : Ret → Option R) : evFunc E (G g) k H [] false Tryz.f94 [.val true [ri A, ri B, ri C]] KF = b g k A B C (fun r1 => KF ⟨[.val false [.s (.bool r1)]], []⟩) :=
 by kernel_rfl
end impl_markOk
namespace impl_markOk
def g (k : Nat) : Cs R := ⟨(), impl_isNode.c k, impl_in.c k⟩
def c (k : Nat) : T R := b (g k) k
end impl_markOk
/-! ### impl_marksOk: function 55 -/
namespace impl_marksOk
abbrev T (R : Type) : Type := (L3) → (Bool → Option R) → Option R
def con (f : T R) : Con R := ⟨[], fun args K => match args with
 | [.val false [pa0]] => withRow q3 pa0 fun a0 => f a0 (fun r1 => K ⟨[.val false [.s (.bool r1)]], []⟩)
 | _ => none⟩
structure Cs (R : Type) where
  none_ : Unit := ()
  f94 : impl_markOk.T R
  f93 : impl_before.T R
def G (g : Cs R) : Cons R := [(94, impl_markOk.con g.f94), (93, impl_before.con g.f93)]
def H : List (Nat × Meet) := [(2, ⟨[(0, [(0, q3)])], []⟩), (12, ⟨[(0, [(0, q3)]), (5, [(0, q3)]), (6, []), (7, [])], []⟩), (15, ⟨[(2, [])], []⟩), (26, ⟨[(0, [(0, q3)]), (5, [(0, q3)]), (6, []), (7, [])], []⟩), (421, ⟨[], []⟩), (423, ⟨[(0, [(0, q3)]), (5, [(0, q3)]), (6, []), (7, [])], []⟩), (13517, ⟨[(2, [])], []⟩)]
abbrev S1 (x1 : L3) : St := mkSt [(0, .c (.sl 0))] [(0, .row .ro q3 x1)]
abbrev S2 (x1 x2 : Int) (x3 : L3) : St := mkSt [(0, .c (.sl 0)), (5, .c (.sl 0)), (6, .c (si x1)), (7, .c (si x2))] [(0, .row .ro q3 x3)]
abbrev S3 : St := mkSt [] []
abbrev S4 (x1 : Bool) : St := mkSt [(2, .c (.s (.bool x1)))] []
noncomputable abbrev V (g : Cs R) (k : Nat) (K : Kont R) (b : List Bool) (p : Nat) (st : St) : Option R := ev E (G g) k H (nodeAt (bodyOf Tryz.f55) b) p st K
noncomputable abbrev U (g : Cs R) (k : Nat) (n : Nat) (b : List Bool) : Nat → St → (St → Option R) → Kont R → Option R := evPre E (G g) k H n (nodeAt (bodyOf Tryz.f55) b)
noncomputable abbrev W (g : Cs R) (k : Nat) (b : List Bool) (p : Nat) : St → Kont R → Option R := ev E (G g) k H (nodeAt (bodyOf Tryz.f55) b) p
variable (g : Cs R) (k : Nat)
def s1 (g : Cs R) (k : Nat) (a0 : L3) (j : Option R) : Option R :=
 j
theorem s1_ev (a0 : L3) (X : St → Option R) (K : Kont R) : U g k 1 [] 1 (S1 a0) X K = s1 g k a0 (X (S1 a0)) := by kernel_rfl
def s2 (g : Cs R) (k : Nat) (a0 : L3) (j : Int → Int → Option R) : Option R :=
 j (a0.length : Int) 0
theorem s2_ev (a0 : L3) (X : St → Option R) (K : Kont R) : U g k 1 [true, false] 6 (S1 a0) X K = s2 g k a0 (fun z0 z1 => X (S2 z0 z1 a0)) := by kernel_rfl
def s3 (g : Cs R) (k : Nat) (z0 z2 : Int) (a0 : L3) (j : Int → Option R) (x0 : Option R) (q : Bool → Option R) : Option R :=
 cond (decide (z2 < z0)) (cond (decide (0 ≤ z2) && decide (z2 < (a0.length : Int))) (g.f94 ((a0.getD z2.toNat n3).1) ((a0.getD z2.toNat n3).2.1) ((a0.getD z2.toNat n3).2.2) (fun r1 => cond (!r1) (q false) (cond (decide ((0 : Int) < z2)) (cond (decide (0 ≤ (IntKind.wrap .i64 (z2 - 1))) && decide ((IntKind.wrap .i64 (z2 - 1)) < (a0.length : Int))) (let y2 := (a0.getD ((IntKind.wrap .i64 (z2 - 1)).toNat) n3).1; cond (decide (0 ≤ (IntKind.wrap .i64 (z2 - 1))) && decide ((IntKind.wrap .i64 (z2 - 1)) < (a0.length : Int))) (let y3 := (a0.getD ((IntKind.wrap .i64 (z2 - 1)).toNat) n3).2.1; let y4 := (a0.getD z2.toNat n3).1; let y5 := (a0.getD z2.toNat n3).2.1; g.f93 y2 y3 y4 y5 (fun r6 => cond (!r6) (q false) (j (IntKind.wrap .i64 (z2 + 1))))) none) none) (j (IntKind.wrap .i64 (z2 + 1)))))) none) (x0)
theorem s3_ev (z0 z2 : Int) (a0 : L3) (K : Kont R) : V g k K [true, false, true, false, false] 52 (S2 z0 z2 a0) = s3 g k z0 z2 a0 (fun z3 => K .normal (S2 z0 z3 a0)) (K (.exit 0) S3) (fun z4 => K .ret (S4 z4)) := by kernel_rfl
def l4r (g : Cs R) (k : Nat) (z0 : Int) (a0 : L3) (x0 : Option R) (q : Bool → Option R) : Nat → Int → Option R
 | 0, _ => none
 | n + 1, z2 => s3 g k z0 z2 a0 (fun z3 => l4r g k z0 a0 x0 q n z3) (x0) (fun z4 => q z4)
def l4 (g : Cs R) (k : Nat) (z0 z1 : Int) (a0 : L3) (x0 : Option R) (q : Bool → Option R) : Option R := l4r g k z0 a0 x0 q k z1
theorem l4r_ev (z0 : Int) (a0 : L3) (K : Kont R) : ∀ (n : Nat) (z2 : Int), evLoop (W g k [true, false, true, false, false] 52) (atMeet H 26) K n (S2 z0 z2 a0) = l4r g k z0 a0 (K (.exit 0) S3) (fun z5 => K .ret (S4 z5)) n z2 := by
 intro n
 induction n with
 | zero => intros; rfl
 | succ n ih =>
  intro z2
  exact Eq.trans (by kernel_rfl) ((s3_ev g k z0 z2 a0 (loopK (W g k [true, false, true, false, false] 52) (atMeet H 26) K n)).trans (Eq.trans (by kernel_rfl) (congrArg (fun f_ => s3 g k z0 z2 a0 f_ (K (.exit 0) S3) (fun z4 => K .ret (S4 z4))) (funext fun (z3 : Int) => (ih z3)))))
theorem l4_ev (z0 z1 : Int) (a0 : L3) (K : Kont R) : V g k K [true, false, true, false] 26 (S2 z0 z1 a0) = l4 g k z0 z1 a0 (K (.exit 0) S3) (fun z5 => K .ret (S4 z5)) :=
 Eq.trans (by kernel_rfl) (l4r_ev g k z0 a0 K k z1)
def b5 (g : Cs R) (k : Nat) (z0 z1 : Int) (a0 : L3) (j : Option R) (q : Bool → Option R) : Option R :=
 l4 g k z0 z1 a0 (j) (fun z5 => q z5)
theorem b5_ev (z0 z1 : Int) (a0 : L3) (K : Kont R) : V g k K [true, false, true] 13 (S2 z0 z1 a0) = b5 g k z0 z1 a0 (K .normal S3) (fun z6 => K .ret (S4 z6)) :=
 Eq.trans (by kernel_rfl) ((l4_ev g k z0 z1 a0 (blockK 0 (fun st => K .normal (atMeet H 13 st)) K)).trans (by kernel_rfl))
def c6 (g : Cs R) (k : Nat) (a0 : L3) (j : Option R) (q : Bool → Option R) : Option R :=
 s2 g k a0 (fun z0 z1 => b5 g k z0 z1 a0 (j) (fun z6 => q z6))
theorem c6_ev (a0 : L3) (K : Kont R) : V g k K [true, false] 6 (S1 a0) = c6 g k a0 (K .normal S3) (fun z7 => K .ret (S4 z7)) :=
 (Eq.trans (by kernel_rfl) (s2_ev g k a0 (V g k K [true, false, true] 13) K)).trans (congrArg (fun f_ => s2 g k a0 f_) (funext fun (z0 : Int) => (funext fun (z1 : Int) => (b5_ev g k z0 z1 a0 K))))
def s7 (g : Cs R) (k : Nat)  (q : Bool → Option R) : Option R :=
 q true
theorem s7_ev  (K : Kont R) : V g k K [true, true] 7 S3 = s7 g k (fun z8 => K .ret (S4 z8)) := by kernel_rfl
def c8 (g : Cs R) (k : Nat) (a0 : L3) (q : Bool → Option R) : Option R :=
 c6 g k a0 (s7 g k (fun z8 => q z8)) (fun z7 => q z7)
theorem c8_ev (a0 : L3) (K : Kont R) : V g k K [true] 3 (S1 a0) = c8 g k a0 (fun z9 => K .ret (S4 z9)) :=
 (Eq.trans (by kernel_rfl) (c6_ev g k a0 (seqK (V g k K [true, true] 7) K))).trans (congrArg (fun f_ => c6 g k a0 f_ (fun z7 => K .ret (S4 z7))) (seqN (f := (V g k K [true, true] 7)) (K := K) (s7_ev g k K)))
def c9 (g : Cs R) (k : Nat) (a0 : L3) (q : Bool → Option R) : Option R :=
 s1 g k a0 (c8 g k a0 (fun z9 => q z9))
theorem c9_ev (a0 : L3) (K : Kont R) : V g k K [] 1 (S1 a0) = c9 g k a0 (fun z10 => K .ret (S4 z10)) :=
 (Eq.trans (by kernel_rfl) (s1_ev g k a0 (V g k K [true] 3) K)).trans (congrArg (fun f_ => s1 g k a0 f_) (c8_ev g k a0 K))
def b (g : Cs R) (k : Nat) (a0 : L3) (K : Bool → Option R) : Option R :=
 c9 g k a0 (fun z10 => K z10)
theorem evs (a0 : L3) (KF : Ret → Option R) : evFunc E (G g) k H [] false Tryz.f55 [.val false [.row .ro q3 a0]] KF = b g k a0 (fun r1 => KF ⟨[.val false [.s (.bool r1)]], []⟩) :=
 Eq.trans (by kernel_rfl) ((c9_ev g k a0 (fin E.P false Tryz.f55 [] KF)).trans (by kernel_rfl))
end impl_marksOk
namespace impl_marksOk
def g (k : Nat) : Cs R := ⟨(), impl_markOk.c k, impl_before.c k⟩
def c (k : Nat) : T R := b (g k) k
end impl_marksOk
/-! ### impl_onWay: function 56 -/
namespace impl_onWay
abbrev T (R : Type) : Type := Int → Int → Int → Int → Int → ByteArray → (Bool → Option R) → Option R
def con (f : T R) : Con R := ⟨[], fun args K => match args with
 | [.val false [.s (.int .i64 a0)], .val true [.s (.int .i64 A), .s (.int .i64 B), .s (.int .i64 C), .s (.int .i64 D), .s (.string F)]] => f a0 A B C D F (fun r1 => K ⟨[.val false [.s (.bool r1)]], []⟩)
 | _ => none⟩
structure Cs (R : Type) where
  none_ : Unit := ()
  f53 : impl_in.T R
def G (g : Cs R) : Cons R := [(53, impl_in.con g.f53)]
def H : List (Nat × Meet) := []
variable (g : Cs R) (k : Nat)
def b (g : Cs R) (k : Nat) (a0 B C A D : Int) (F : ByteArray) (K : Bool → Option R) : Option R :=
 cond (!decide (a0 = A)) (g.f53 a0 B A (fun r1 => cond r1 (K true) (g.f53 a0 A B (fun r2 => K r2)))) (K false)
theorem evs (a0 A B C D : Int) (F : ByteArray) (KF : Ret → Option R) : evFunc E (G g) k H [] false Tryz.f56 [.val false [ri a0], .val true [ri A, ri B, ri C, ri D, .s (.string F)]] KF = b g k a0 A B C D F (fun r1 => KF ⟨[.val false [.s (.bool r1)]], []⟩) :=
 by kernel_rfl
end impl_onWay
namespace impl_onWay
def g (k : Nat) : Cs R := ⟨(), impl_in.c k⟩
def c (k : Nat) : T R := b (g k) k
end impl_onWay
/-! ### impl_markAt: function 57 -/
namespace impl_markAt
abbrev T (R : Type) : Type := (L3) → Int → Int → (Int → Option R) → Option R
def con (f : T R) : Con R := ⟨[], fun args K => match args with
 | [.val false [pa0], .val false [.s (.int .i64 a1)], .val false [.s (.int .i64 a2)]] => withRow q3 pa0 fun a0 => f a0 a1 a2 (fun r1 => K ⟨[.val false [ri r1]], []⟩)
 | _ => none⟩
structure Cs (R : Type) where
  none_ : Unit := ()
def G (g : Cs R) : Cons R := []
def H : List (Nat × Meet) := [(2, ⟨[(0, [(0, q3)]), (1, []), (2, [])], []⟩), (12, ⟨[(1, []), (2, []), (9, [(0, q3)]), (10, []), (11, [])], []⟩), (15, ⟨[(6, [])], []⟩), (26, ⟨[(1, []), (2, []), (9, [(0, q3)]), (10, []), (11, [])], []⟩), (421, ⟨[], []⟩), (423, ⟨[(1, []), (2, []), (9, [(0, q3)]), (10, []), (11, [])], []⟩), (13517, ⟨[(6, [])], []⟩)]
abbrev S1 (x1 x2 : Int) (x3 : L3) : St := mkSt [(0, .c (.sl 0)), (1, .c (si x1)), (2, .c (si x2))] [(0, .row .ro q3 x3)]
abbrev S2 (x1 x2 x3 x4 : Int) (x5 : L3) : St := mkSt [(1, .c (si x1)), (2, .c (si x2)), (9, .c (.sl 0)), (10, .c (si x3)), (11, .c (si x4))] [(0, .row .ro q3 x5)]
abbrev S3 : St := mkSt [] []
abbrev S4 (x1 : Int) : St := mkSt [(6, .c (si x1))] []
noncomputable abbrev V (g : Cs R) (k : Nat) (K : Kont R) (b : List Bool) (p : Nat) (st : St) : Option R := ev E (G g) k H (nodeAt (bodyOf Tryz.f57) b) p st K
noncomputable abbrev U (g : Cs R) (k : Nat) (n : Nat) (b : List Bool) : Nat → St → (St → Option R) → Kont R → Option R := evPre E (G g) k H n (nodeAt (bodyOf Tryz.f57) b)
noncomputable abbrev W (g : Cs R) (k : Nat) (b : List Bool) (p : Nat) : St → Kont R → Option R := ev E (G g) k H (nodeAt (bodyOf Tryz.f57) b) p
variable (g : Cs R) (k : Nat)
def s1 (g : Cs R) (k : Nat) (a1 a2 : Int) (a0 : L3) (j : Option R) : Option R :=
 j
theorem s1_ev (a1 a2 : Int) (a0 : L3) (X : St → Option R) (K : Kont R) : U g k 1 [] 1 (S1 a1 a2 a0) X K = s1 g k a1 a2 a0 (X (S1 a1 a2 a0)) := by kernel_rfl
def s2 (g : Cs R) (k : Nat) (a1 a2 : Int) (a0 : L3) (j : Int → Int → Option R) : Option R :=
 j (a0.length : Int) 0
theorem s2_ev (a1 a2 : Int) (a0 : L3) (X : St → Option R) (K : Kont R) : U g k 1 [true, false] 6 (S1 a1 a2 a0) X K = s2 g k a1 a2 a0 (fun z0 z1 => X (S2 a1 a2 z0 z1 a0)) := by kernel_rfl
def s3 (g : Cs R) (k : Nat) (a1 a2 z0 z2 : Int) (a0 : L3) (j : Int → Option R) (x0 : Option R) (q : Option R) : Option R :=
 cond (decide (z2 < z0)) (cond (decide (0 ≤ z2) && decide (z2 < (a0.length : Int))) (let y1 := (a0.getD z2.toNat n3).1; cond (decide (y1 = a1)) (let y2 := (a0.getD z2.toNat n3).2.1; cond (decide (y2 = a2)) (q) (j (IntKind.wrap .i64 (z2 + 1)))) (j (IntKind.wrap .i64 (z2 + 1)))) none) (x0)
theorem s3_ev (a1 a2 z0 z2 : Int) (a0 : L3) (K : Kont R) : V g k K [true, false, true, false, false] 52 (S2 a1 a2 z0 z2 a0) = s3 g k a1 a2 z0 z2 a0 (fun z3 => K .normal (S2 a1 a2 z0 z3 a0)) (K (.exit 0) S3) (K .ret (S4 z2)) := by kernel_rfl
def l4r (g : Cs R) (k : Nat) (a1 a2 z0 : Int) (a0 : L3) (x0 : Option R) (q : Int → Option R) : Nat → Int → Option R
 | 0, _ => none
 | n + 1, z2 => s3 g k a1 a2 z0 z2 a0 (fun z3 => l4r g k a1 a2 z0 a0 x0 q n z3) (x0) (q z2)
def l4 (g : Cs R) (k : Nat) (a1 a2 z0 z1 : Int) (a0 : L3) (x0 : Option R) (q : Int → Option R) : Option R := l4r g k a1 a2 z0 a0 x0 q k z1
theorem l4r_ev (a1 a2 z0 : Int) (a0 : L3) (K : Kont R) : ∀ (n : Nat) (z2 : Int), evLoop (W g k [true, false, true, false, false] 52) (atMeet H 26) K n (S2 a1 a2 z0 z2 a0) = l4r g k a1 a2 z0 a0 (K (.exit 0) S3) (fun z4 => K .ret (S4 z4)) n z2 := by
 intro n
 induction n with
 | zero => intros; rfl
 | succ n ih =>
  intro z2
  exact Eq.trans (by kernel_rfl) ((s3_ev g k a1 a2 z0 z2 a0 (loopK (W g k [true, false, true, false, false] 52) (atMeet H 26) K n)).trans (Eq.trans (by kernel_rfl) (congrArg (fun f_ => s3 g k a1 a2 z0 z2 a0 f_ (K (.exit 0) S3) (K .ret (S4 z2))) (funext fun (z3 : Int) => (ih z3)))))
theorem l4_ev (a1 a2 z0 z1 : Int) (a0 : L3) (K : Kont R) : V g k K [true, false, true, false] 26 (S2 a1 a2 z0 z1 a0) = l4 g k a1 a2 z0 z1 a0 (K (.exit 0) S3) (fun z4 => K .ret (S4 z4)) :=
 Eq.trans (by kernel_rfl) (l4r_ev g k a1 a2 z0 a0 K k z1)
def b5 (g : Cs R) (k : Nat) (a1 a2 z0 z1 : Int) (a0 : L3) (j : Option R) (q : Int → Option R) : Option R :=
 l4 g k a1 a2 z0 z1 a0 (j) (fun z4 => q z4)
theorem b5_ev (a1 a2 z0 z1 : Int) (a0 : L3) (K : Kont R) : V g k K [true, false, true] 13 (S2 a1 a2 z0 z1 a0) = b5 g k a1 a2 z0 z1 a0 (K .normal S3) (fun z5 => K .ret (S4 z5)) :=
 Eq.trans (by kernel_rfl) ((l4_ev g k a1 a2 z0 z1 a0 (blockK 0 (fun st => K .normal (atMeet H 13 st)) K)).trans (by kernel_rfl))
def c6 (g : Cs R) (k : Nat) (a1 a2 : Int) (a0 : L3) (j : Option R) (q : Int → Option R) : Option R :=
 s2 g k a1 a2 a0 (fun z0 z1 => b5 g k a1 a2 z0 z1 a0 (j) (fun z5 => q z5))
theorem c6_ev (a1 a2 : Int) (a0 : L3) (K : Kont R) : V g k K [true, false] 6 (S1 a1 a2 a0) = c6 g k a1 a2 a0 (K .normal S3) (fun z6 => K .ret (S4 z6)) :=
 (Eq.trans (by kernel_rfl) (s2_ev g k a1 a2 a0 (V g k K [true, false, true] 13) K)).trans (congrArg (fun f_ => s2 g k a1 a2 a0 f_) (funext fun (z0 : Int) => (funext fun (z1 : Int) => (b5_ev g k a1 a2 z0 z1 a0 K))))
def s7 (g : Cs R) (k : Nat)  (q : Int → Option R) : Option R :=
 q (-1)
theorem s7_ev  (K : Kont R) : V g k K [true, true] 7 S3 = s7 g k (fun z7 => K .ret (S4 z7)) := by kernel_rfl
def c8 (g : Cs R) (k : Nat) (a1 a2 : Int) (a0 : L3) (q : Int → Option R) : Option R :=
 c6 g k a1 a2 a0 (s7 g k (fun z7 => q z7)) (fun z6 => q z6)
theorem c8_ev (a1 a2 : Int) (a0 : L3) (K : Kont R) : V g k K [true] 3 (S1 a1 a2 a0) = c8 g k a1 a2 a0 (fun z8 => K .ret (S4 z8)) :=
 (Eq.trans (by kernel_rfl) (c6_ev g k a1 a2 a0 (seqK (V g k K [true, true] 7) K))).trans (congrArg (fun f_ => c6 g k a1 a2 a0 f_ (fun z6 => K .ret (S4 z6))) (seqN (f := (V g k K [true, true] 7)) (K := K) (s7_ev g k K)))
def c9 (g : Cs R) (k : Nat) (a1 a2 : Int) (a0 : L3) (q : Int → Option R) : Option R :=
 s1 g k a1 a2 a0 (c8 g k a1 a2 a0 (fun z8 => q z8))
theorem c9_ev (a1 a2 : Int) (a0 : L3) (K : Kont R) : V g k K [] 1 (S1 a1 a2 a0) = c9 g k a1 a2 a0 (fun z9 => K .ret (S4 z9)) :=
 (Eq.trans (by kernel_rfl) (s1_ev g k a1 a2 a0 (V g k K [true] 3) K)).trans (congrArg (fun f_ => s1 g k a1 a2 a0 f_) (c8_ev g k a1 a2 a0 K))
def b (g : Cs R) (k : Nat) (a0 : L3) (a1 a2 : Int) (K : Int → Option R) : Option R :=
 c9 g k a1 a2 a0 (fun z9 => K z9)
theorem evs (a0 : L3) (a1 a2 : Int) (KF : Ret → Option R) : evFunc E (G g) k H [] false Tryz.f57 [.val false [.row .ro q3 a0], .val false [ri a1], .val false [ri a2]] KF = b g k a0 a1 a2 (fun r1 => KF ⟨[.val false [ri r1]], []⟩) :=
 Eq.trans (by kernel_rfl) ((c9_ev g k a1 a2 a0 (fin E.P false Tryz.f57 [] KF)).trans (by kernel_rfl))
end impl_markAt
namespace impl_markAt
def g (k : Nat) : Cs R := ⟨()⟩
def c (k : Nat) : T R := b (g k) k
end impl_markAt
/-! ### impl_KeepOk: function 30 -/
namespace impl_KeepOk
abbrev T (R : Type) : Type := Int → Int → Int → (L5) → (L3) → (L5) → (Bool → Option R) → Option R
def con (f : T R) : Con R := ⟨[], fun args K => match args with
 | [.val true [.s (.int .i64 A), .s (.int .i64 B), .s (.int .i64 C), D, F, J]] => withRow q5 D fun M => withRow q3 F fun N => withRow q5 J fun O => f A B C M N O (fun r1 => K ⟨[.val false [.s (.bool r1)]], []⟩)
 | _ => none⟩
structure Cs (R : Type) where
  none_ : Unit := ()
  f27 : impl_isNode.T R
  f53 : impl_in.T R
  f54 : impl_notesOk.T R
  f55 : impl_marksOk.T R
  f56 : impl_onWay.T R
  f57 : impl_markAt.T R
def G (g : Cs R) : Cons R := [(27, impl_isNode.con g.f27), (53, impl_in.con g.f53), (54, impl_notesOk.con g.f54), (55, impl_marksOk.con g.f55), (56, impl_onWay.con g.f56), (57, impl_markAt.con g.f57)]
def H : List (Nat × Meet) := [(29, ⟨[(1, [(3, q5), (4, q3), (5, q5)])], []⟩), (53, ⟨[(2, [])], []⟩), (60, ⟨[(1, [(3, q5), (4, q3), (5, q5)]), (60, [(0, q5)]), (61, []), (62, [])], []⟩), (117, ⟨[(2, [])], []⟩), (122, ⟨[(1, [(3, q5), (4, q3), (5, q5)]), (60, [(0, q5)]), (61, []), (62, [])], []⟩), (124, ⟨[(1, [(3, q5), (4, q3), (5, q5)]), (104, [(0, q3)]), (105, []), (106, [])], []⟩), (250, ⟨[(1, [(3, q5), (4, q3), (5, q5)]), (104, [(0, q3)]), (105, []), (106, [])], []⟩), (252, ⟨[(1, [(3, q5), (4, q3), (5, q5)]), (131, [(0, q5)]), (132, []), (133, [])], []⟩), (255, ⟨[(2, [])], []⟩), (506, ⟨[(1, [(3, q5), (4, q3), (5, q5)]), (131, [(0, q5)]), (132, []), (133, [])], []⟩), (1957, ⟨[(1, [(3, q5), (4, q3), (5, q5)])], []⟩), (1959, ⟨[(1, [(3, q5), (4, q3), (5, q5)]), (60, [(0, q5)]), (61, []), (62, [])], []⟩), (4005, ⟨[(1, [(3, q5), (4, q3), (5, q5)])], []⟩), (4007, ⟨[(1, [(3, q5), (4, q3), (5, q5)]), (104, [(0, q3)]), (105, []), (106, [])], []⟩), (8101, ⟨[], []⟩), (8103, ⟨[(1, [(3, q5), (4, q3), (5, q5)]), (131, [(0, q5)]), (132, []), (133, [])], []⟩), (62669, ⟨[(2, [])], []⟩), (128205, ⟨[(2, [])], []⟩), (259277, ⟨[(2, [])], []⟩)]
abbrev S1 (x1 x2 x3 : Int) (x4 : L5) (x5 : L3) (x6 : L5) : St := mkSt [(0, .agg [si x1, si x2, si x3, .sl 3, .sl 4, .sl 5])] [(3, .row .ro q5 x4), (4, .row .ro q3 x5), (5, .row .ro q5 x6)]
abbrev S2 (x1 x2 x3 : Int) (x4 : L5) (x5 : L3) (x6 : L5) : St := mkSt [(1, .c (.ptr 9001 0 0))] [(9001, .box [si x1, si x2, si x3, .sl 3, .sl 4, .sl 5]), (3, .row .ro q5 x4), (4, .row .ro q3 x5), (5, .row .ro q5 x6)]
abbrev S3 (x1 : Bool) : St := mkSt [(2, .c (.s (.bool x1)))] []
abbrev S4 (x1 x2 x3 x4 x5 : Int) (x6 : L5) (x7 : L3) (x8 : L5) : St := mkSt [(1, .c (.ptr 9001 0 0)), (60, .c (.sl 3)), (61, .c (si x1)), (62, .c (si x2))] [(9001, .box [si x3, si x4, si x5, .sl 3, .sl 4, .sl 5]), (3, .row .ro q5 x6), (4, .row .ro q3 x7), (5, .row .ro q5 x8)]
abbrev S5 (x1 x2 x3 x4 x5 : Int) (x6 : L3) (x7 x8 : L5) : St := mkSt [(1, .c (.ptr 9001 0 0)), (104, .c (.sl 4)), (105, .c (si x1)), (106, .c (si x2))] [(9001, .box [si x3, si x4, si x5, .sl 3, .sl 4, .sl 5]), (4, .row .ro q3 x6), (3, .row .ro q5 x7), (5, .row .ro q5 x8)]
abbrev S6 (x1 x2 x3 x4 x5 : Int) (x6 x7 : L5) (x8 : L3) : St := mkSt [(1, .c (.ptr 9001 0 0)), (131, .c (.sl 5)), (132, .c (si x1)), (133, .c (si x2))] [(9001, .box [si x3, si x4, si x5, .sl 3, .sl 4, .sl 5]), (5, .row .ro q5 x6), (3, .row .ro q5 x7), (4, .row .ro q3 x8)]
abbrev S7 : St := mkSt [] []
noncomputable abbrev V (g : Cs R) (k : Nat) (K : Kont R) (b : List Bool) (p : Nat) (st : St) : Option R := ev E (G g) k H (nodeAt (bodyOf Tryz.f30) b) p st K
noncomputable abbrev U (g : Cs R) (k : Nat) (n : Nat) (b : List Bool) : Nat → St → (St → Option R) → Kont R → Option R := evPre E (G g) k H n (nodeAt (bodyOf Tryz.f30) b)
noncomputable abbrev W (g : Cs R) (k : Nat) (b : List Bool) (p : Nat) : St → Kont R → Option R := ev E (G g) k H (nodeAt (bodyOf Tryz.f30) b) p
variable (g : Cs R) (k : Nat)
def s1 (g : Cs R) (k : Nat) (D F J : Int) (A : L5) (B : L3) (C : L5) (j : Option R) (q : Bool → Option R) : Option R :=
 g.f27 D (fun r1 => cond (!r1) (q false) (g.f53 F 0 999 (fun r2 => cond (!r2) (q false) (g.f53 J 1 100 (fun r3 => cond (!r3) (q false) (cond (decide ((6 : Int) < (A.length : Int))) (q false) (cond (decide ((12 : Int) < (B.length : Int))) (q false) (cond (decide ((6 : Int) < (C.length : Int))) (q false) (g.f54 A (fun r4 => cond (!r4) (q false) (g.f55 B (fun r5 => cond (!r5) (q false) (g.f54 C (fun r6 => cond (!r6) (q false) (j)))))))))))))))
theorem s1_ev (A B C : Int) (D : L5) (F : L3) (J : L5) (X : St → Option R) (K : Kont R) : U g k 3 [] 1 (S1 A B C D F J) X K = s1 g k A B C D F J (X (S2 A B C D F J)) (fun z0 => K .ret (S3 z0)) := by kernel_rfl
def s2 (g : Cs R) (k : Nat) (B C D : Int) (A : L5) (F : L3) (J : L5) (j : Int → Int → Option R) : Option R :=
 j (A.length : Int) 0
theorem s2_ev (A B C : Int) (D : L5) (F : L3) (J : L5) (X : St → Option R) (K : Kont R) : U g k 1 [true, true, true, false] 30 (S2 A B C D F J) X K = s2 g k A B C D F J (fun z1 z2 => X (S4 z1 z2 A B C D F J)) := by kernel_rfl
def s3 (g : Cs R) (k : Nat) (z1 z3 B C F : Int) (A : L5) (D : L3) (J : L5) (j : Int → Option R) (x0 : Option R) (q : Bool → Option R) : Option R :=
 cond (decide (z3 < z1)) (cond (decide (0 ≤ z3) && decide (z3 < (A.length : Int))) (let y1 := (A.getD z3.toNat n5).1; cond (decide (y1 = B)) (let y2 := (A.getD z3.toNat n5).2.1; cond (decide (F ≤ y2)) (q false) (let y3 := (A.getD z3.toNat n5).2.2.2.1; cond (decide (y3 ≤ C)) (q false) (g.f56 B ((A.getD z3.toNat n5).1) ((A.getD z3.toNat n5).2.1) ((A.getD z3.toNat n5).2.2.1) ((A.getD z3.toNat n5).2.2.2.1) ((A.getD z3.toNat n5).2.2.2.2) (fun r4 => cond (!r4) (q false) (let y5 := (A.getD z3.toNat n5).1; let y6 := (A.getD z3.toNat n5).2.1; g.f57 D y5 y6 (fun r7 => cond (decide ((0 : Int) ≤ r7)) (q false) (j (IntKind.wrap .i64 (z3 + 1))))))))) (let y8 := (A.getD z3.toNat n5).2.2.2.1; cond (decide (y8 ≤ C)) (q false) (g.f56 B ((A.getD z3.toNat n5).1) ((A.getD z3.toNat n5).2.1) ((A.getD z3.toNat n5).2.2.1) ((A.getD z3.toNat n5).2.2.2.1) ((A.getD z3.toNat n5).2.2.2.2) (fun r9 => cond (!r9) (q false) (let y10 := (A.getD z3.toNat n5).1; let y11 := (A.getD z3.toNat n5).2.1; g.f57 D y10 y11 (fun r12 => cond (decide ((0 : Int) ≤ r12)) (q false) (j (IntKind.wrap .i64 (z3 + 1))))))))) none) (x0)
theorem s3_ev (z1 z3 A B C : Int) (D : L5) (F : L3) (J : L5) (K : Kont R) : V g k K [true, true, true, false, true, false, false] 244 (S4 z1 z3 A B C D F J) = s3 g k z1 z3 A B C D F J (fun z4 => K .normal (S4 z1 z4 A B C D F J)) (K (.exit 0) (S2 A B C D F J)) (fun z5 => K .ret (S3 z5)) := by kernel_rfl
def l4r (g : Cs R) (k : Nat) (z1 A B C : Int) (D : L5) (F : L3) (J : L5) (x0 : Option R) (q : Bool → Option R) : Nat → Int → Option R
 | 0, _ => none
 | n + 1, z3 => s3 g k z1 z3 A B C D F J (fun z4 => l4r g k z1 A B C D F J x0 q n z4) (x0) (fun z5 => q z5)
def l4 (g : Cs R) (k : Nat) (z1 z2 A B C : Int) (D : L5) (F : L3) (J : L5) (x0 : Option R) (q : Bool → Option R) : Option R := l4r g k z1 A B C D F J x0 q k z2
theorem l4r_ev (z1 A B C : Int) (D : L5) (F : L3) (J : L5) (K : Kont R) : ∀ (n : Nat) (z3 : Int), evLoop (W g k [true, true, true, false, true, false, false] 244) (atMeet H 122) K n (S4 z1 z3 A B C D F J) = l4r g k z1 A B C D F J (K (.exit 0) (S2 A B C D F J)) (fun z6 => K .ret (S3 z6)) n z3 := by
 intro n
 induction n with
 | zero => intros; rfl
 | succ n ih =>
  intro z3
  exact Eq.trans (by kernel_rfl) ((s3_ev g k z1 z3 A B C D F J (loopK (W g k [true, true, true, false, true, false, false] 244) (atMeet H 122) K n)).trans (Eq.trans (by kernel_rfl) (congrArg (fun f_ => s3 g k z1 z3 A B C D F J f_ (K (.exit 0) (S2 A B C D F J)) (fun z5 => K .ret (S3 z5))) (funext fun (z4 : Int) => (ih z4)))))
theorem l4_ev (z1 z2 A B C : Int) (D : L5) (F : L3) (J : L5) (K : Kont R) : V g k K [true, true, true, false, true, false] 122 (S4 z1 z2 A B C D F J) = l4 g k z1 z2 A B C D F J (K (.exit 0) (S2 A B C D F J)) (fun z6 => K .ret (S3 z6)) :=
 Eq.trans (by kernel_rfl) (l4r_ev g k z1 A B C D F J K k z2)
def b5 (g : Cs R) (k : Nat) (z1 z2 A B C : Int) (D : L5) (F : L3) (J : L5) (j : Option R) (q : Bool → Option R) : Option R :=
 l4 g k z1 z2 A B C D F J (j) (fun z6 => q z6)
theorem b5_ev (z1 z2 A B C : Int) (D : L5) (F : L3) (J : L5) (K : Kont R) : V g k K [true, true, true, false, true] 61 (S4 z1 z2 A B C D F J) = b5 g k z1 z2 A B C D F J (K .normal (S2 A B C D F J)) (fun z7 => K .ret (S3 z7)) :=
 Eq.trans (by kernel_rfl) ((l4_ev g k z1 z2 A B C D F J (blockK 0 (fun st => K .normal (atMeet H 61 st)) K)).trans (by kernel_rfl))
def c6 (g : Cs R) (k : Nat) (A B C : Int) (D : L5) (F : L3) (J : L5) (j : Option R) (q : Bool → Option R) : Option R :=
 s2 g k A B C D F J (fun z1 z2 => b5 g k z1 z2 A B C D F J (j) (fun z7 => q z7))
theorem c6_ev (A B C : Int) (D : L5) (F : L3) (J : L5) (K : Kont R) : V g k K [true, true, true, false] 30 (S2 A B C D F J) = c6 g k A B C D F J (K .normal (S2 A B C D F J)) (fun z8 => K .ret (S3 z8)) :=
 (Eq.trans (by kernel_rfl) (s2_ev g k A B C D F J (V g k K [true, true, true, false, true] 61) K)).trans (congrArg (fun f_ => s2 g k A B C D F J f_) (funext fun (z1 : Int) => (funext fun (z2 : Int) => (b5_ev g k z1 z2 A B C D F J K))))
def s7 (g : Cs R) (k : Nat) (B C D : Int) (F : L5) (A : L3) (J : L5) (j : Int → Int → Option R) : Option R :=
 j (A.length : Int) 0
theorem s7_ev (A B C : Int) (D : L5) (F : L3) (J : L5) (X : St → Option R) (K : Kont R) : U g k 1 [true, true, true, true, false] 62 (S2 A B C D F J) X K = s7 g k A B C D F J (fun z9 z10 => X (S5 z9 z10 A B C F D J)) := by kernel_rfl
def s8 (g : Cs R) (k : Nat) (z9 z11 C B D : Int) (A : L3) (F J : L5) (j : Int → Option R) (x2 : Option R) (q : Bool → Option R) : Option R :=
 cond (decide (z11 < z9)) (cond (decide (0 ≤ z11) && decide (z11 < (A.length : Int))) (let y1 := (A.getD z11.toNat n3).1; cond (decide (y1 = C)) (let y2 := (A.getD z11.toNat n3).2.1; cond (decide (D ≤ y2)) (q false) (let y3 := (A.getD z11.toNat n3).2.2; cond (decide (y3 ≤ B)) (q false) (j (IntKind.wrap .i64 (z11 + 1))))) (let y4 := (A.getD z11.toNat n3).2.2; cond (decide (y4 ≤ B)) (q false) (j (IntKind.wrap .i64 (z11 + 1))))) none) (x2)
theorem s8_ev (z9 z11 A B C : Int) (D : L3) (F J : L5) (K : Kont R) : V g k K [true, true, true, true, false, true, false, false] 500 (S5 z9 z11 A B C D F J) = s8 g k z9 z11 A B C D F J (fun z12 => K .normal (S5 z9 z12 A B C D F J)) (K (.exit 2) (S2 A B C F D J)) (fun z13 => K .ret (S3 z13)) := by kernel_rfl
def l9r (g : Cs R) (k : Nat) (z9 A B C : Int) (D : L3) (F J : L5) (x2 : Option R) (q : Bool → Option R) : Nat → Int → Option R
 | 0, _ => none
 | n + 1, z11 => s8 g k z9 z11 A B C D F J (fun z12 => l9r g k z9 A B C D F J x2 q n z12) (x2) (fun z13 => q z13)
def l9 (g : Cs R) (k : Nat) (z9 z10 A B C : Int) (D : L3) (F J : L5) (x2 : Option R) (q : Bool → Option R) : Option R := l9r g k z9 A B C D F J x2 q k z10
theorem l9r_ev (z9 A B C : Int) (D : L3) (F J : L5) (K : Kont R) : ∀ (n : Nat) (z11 : Int), evLoop (W g k [true, true, true, true, false, true, false, false] 500) (atMeet H 250) K n (S5 z9 z11 A B C D F J) = l9r g k z9 A B C D F J (K (.exit 2) (S2 A B C F D J)) (fun z14 => K .ret (S3 z14)) n z11 := by
 intro n
 induction n with
 | zero => intros; rfl
 | succ n ih =>
  intro z11
  exact Eq.trans (by kernel_rfl) ((s8_ev g k z9 z11 A B C D F J (loopK (W g k [true, true, true, true, false, true, false, false] 500) (atMeet H 250) K n)).trans (Eq.trans (by kernel_rfl) (congrArg (fun f_ => s8 g k z9 z11 A B C D F J f_ (K (.exit 2) (S2 A B C F D J)) (fun z13 => K .ret (S3 z13))) (funext fun (z12 : Int) => (ih z12)))))
theorem l9_ev (z9 z10 A B C : Int) (D : L3) (F J : L5) (K : Kont R) : V g k K [true, true, true, true, false, true, false] 250 (S5 z9 z10 A B C D F J) = l9 g k z9 z10 A B C D F J (K (.exit 2) (S2 A B C F D J)) (fun z14 => K .ret (S3 z14)) :=
 Eq.trans (by kernel_rfl) (l9r_ev g k z9 A B C D F J K k z10)
def b10 (g : Cs R) (k : Nat) (z9 z10 A B C : Int) (D : L3) (F J : L5) (j : Option R) (q : Bool → Option R) : Option R :=
 l9 g k z9 z10 A B C D F J (j) (fun z14 => q z14)
theorem b10_ev (z9 z10 A B C : Int) (D : L3) (F J : L5) (K : Kont R) : V g k K [true, true, true, true, false, true] 125 (S5 z9 z10 A B C D F J) = b10 g k z9 z10 A B C D F J (K .normal (S2 A B C F D J)) (fun z15 => K .ret (S3 z15)) :=
 Eq.trans (by kernel_rfl) ((l9_ev g k z9 z10 A B C D F J (blockK 2 (fun st => K .normal (atMeet H 125 st)) K)).trans (by kernel_rfl))
def c11 (g : Cs R) (k : Nat) (A B C : Int) (D : L5) (F : L3) (J : L5) (j : Option R) (q : Bool → Option R) : Option R :=
 s7 g k A B C D F J (fun z9 z10 => b10 g k z9 z10 A B C F D J (j) (fun z15 => q z15))
theorem c11_ev (A B C : Int) (D : L5) (F : L3) (J : L5) (K : Kont R) : V g k K [true, true, true, true, false] 62 (S2 A B C D F J) = c11 g k A B C D F J (K .normal (S2 A B C D F J)) (fun z16 => K .ret (S3 z16)) :=
 (Eq.trans (by kernel_rfl) (s7_ev g k A B C D F J (V g k K [true, true, true, true, false, true] 125) K)).trans (congrArg (fun f_ => s7 g k A B C D F J f_) (funext fun (z9 : Int) => (funext fun (z10 : Int) => (b10_ev g k z9 z10 A B C F D J K))))
def s12 (g : Cs R) (k : Nat) (B C D : Int) (F : L5) (J : L3) (A : L5) (j : Int → Int → Option R) : Option R :=
 j (A.length : Int) 0
theorem s12_ev (A B C : Int) (D : L5) (F : L3) (J : L5) (X : St → Option R) (K : Kont R) : U g k 1 [true, true, true, true, true, false] 126 (S2 A B C D F J) X K = s12 g k A B C D F J (fun z17 z18 => X (S6 z17 z18 A B C J D F)) := by kernel_rfl
def s13 (g : Cs R) (k : Nat) (z17 z19 B C F : Int) (A J : L5) (D : L3) (j : Int → Option R) (x4 : Option R) (q : Bool → Option R) : Option R :=
 cond (decide (z19 < z17)) (cond (decide (0 ≤ z19) && decide (z19 < (A.length : Int))) (let y1 := (A.getD z19.toNat n5).1; cond (decide (y1 = B)) (let y2 := (A.getD z19.toNat n5).2.1; cond (decide (F ≤ y2)) (q false) (let y3 := (A.getD z19.toNat n5).2.2.1; cond (!decide (y3 = B)) (q false) (let y4 := (A.getD z19.toNat n5).2.2.2.1; cond (decide (C < y4)) (let y5 := (A.getD z19.toNat n5).1; let y6 := (A.getD z19.toNat n5).2.1; g.f57 D y5 y6 (fun r7 => cond (decide (r7 < 0)) (q false) (j (IntKind.wrap .i64 (z19 + 1))))) (j (IntKind.wrap .i64 (z19 + 1)))))) (let y8 := (A.getD z19.toNat n5).2.2.1; cond (!decide (y8 = B)) (q false) (let y9 := (A.getD z19.toNat n5).2.2.2.1; cond (decide (C < y9)) (let y10 := (A.getD z19.toNat n5).1; let y11 := (A.getD z19.toNat n5).2.1; g.f57 D y10 y11 (fun r12 => cond (decide (r12 < 0)) (q false) (j (IntKind.wrap .i64 (z19 + 1))))) (j (IntKind.wrap .i64 (z19 + 1)))))) none) (x4)
theorem s13_ev (z17 z19 A B C : Int) (D F : L5) (J : L3) (K : Kont R) : V g k K [true, true, true, true, true, false, true, false, false] 1012 (S6 z17 z19 A B C D F J) = s13 g k z17 z19 A B C D F J (fun z20 => K .normal (S6 z17 z20 A B C D F J)) (K (.exit 4) S7) (fun z21 => K .ret (S3 z21)) := by kernel_rfl
def l14r (g : Cs R) (k : Nat) (z17 A B C : Int) (D F : L5) (J : L3) (x4 : Option R) (q : Bool → Option R) : Nat → Int → Option R
 | 0, _ => none
 | n + 1, z19 => s13 g k z17 z19 A B C D F J (fun z20 => l14r g k z17 A B C D F J x4 q n z20) (x4) (fun z21 => q z21)
def l14 (g : Cs R) (k : Nat) (z17 z18 A B C : Int) (D F : L5) (J : L3) (x4 : Option R) (q : Bool → Option R) : Option R := l14r g k z17 A B C D F J x4 q k z18
theorem l14r_ev (z17 A B C : Int) (D F : L5) (J : L3) (K : Kont R) : ∀ (n : Nat) (z19 : Int), evLoop (W g k [true, true, true, true, true, false, true, false, false] 1012) (atMeet H 506) K n (S6 z17 z19 A B C D F J) = l14r g k z17 A B C D F J (K (.exit 4) S7) (fun z22 => K .ret (S3 z22)) n z19 := by
 intro n
 induction n with
 | zero => intros; rfl
 | succ n ih =>
  intro z19
  exact Eq.trans (by kernel_rfl) ((s13_ev g k z17 z19 A B C D F J (loopK (W g k [true, true, true, true, true, false, true, false, false] 1012) (atMeet H 506) K n)).trans (Eq.trans (by kernel_rfl) (congrArg (fun f_ => s13 g k z17 z19 A B C D F J f_ (K (.exit 4) S7) (fun z21 => K .ret (S3 z21))) (funext fun (z20 : Int) => (ih z20)))))
theorem l14_ev (z17 z18 A B C : Int) (D F : L5) (J : L3) (K : Kont R) : V g k K [true, true, true, true, true, false, true, false] 506 (S6 z17 z18 A B C D F J) = l14 g k z17 z18 A B C D F J (K (.exit 4) S7) (fun z22 => K .ret (S3 z22)) :=
 Eq.trans (by kernel_rfl) (l14r_ev g k z17 A B C D F J K k z18)
def b15 (g : Cs R) (k : Nat) (z17 z18 A B C : Int) (D F : L5) (J : L3) (j : Option R) (q : Bool → Option R) : Option R :=
 l14 g k z17 z18 A B C D F J (j) (fun z22 => q z22)
theorem b15_ev (z17 z18 A B C : Int) (D F : L5) (J : L3) (K : Kont R) : V g k K [true, true, true, true, true, false, true] 253 (S6 z17 z18 A B C D F J) = b15 g k z17 z18 A B C D F J (K .normal S7) (fun z23 => K .ret (S3 z23)) :=
 Eq.trans (by kernel_rfl) ((l14_ev g k z17 z18 A B C D F J (blockK 4 (fun st => K .normal (atMeet H 253 st)) K)).trans (by kernel_rfl))
def c16 (g : Cs R) (k : Nat) (A B C : Int) (D : L5) (F : L3) (J : L5) (j : Option R) (q : Bool → Option R) : Option R :=
 s12 g k A B C D F J (fun z17 z18 => b15 g k z17 z18 A B C J D F (j) (fun z23 => q z23))
theorem c16_ev (A B C : Int) (D : L5) (F : L3) (J : L5) (K : Kont R) : V g k K [true, true, true, true, true, false] 126 (S2 A B C D F J) = c16 g k A B C D F J (K .normal S7) (fun z24 => K .ret (S3 z24)) :=
 (Eq.trans (by kernel_rfl) (s12_ev g k A B C D F J (V g k K [true, true, true, true, true, false, true] 253) K)).trans (congrArg (fun f_ => s12 g k A B C D F J f_) (funext fun (z17 : Int) => (funext fun (z18 : Int) => (b15_ev g k z17 z18 A B C J D F K))))
def s17 (g : Cs R) (k : Nat)  (q : Bool → Option R) : Option R :=
 q true
theorem s17_ev  (K : Kont R) : V g k K [true, true, true, true, true, true] 127 S7 = s17 g k (fun z25 => K .ret (S3 z25)) := by kernel_rfl
def c18 (g : Cs R) (k : Nat) (A B C : Int) (D : L5) (F : L3) (J : L5) (q : Bool → Option R) : Option R :=
 c16 g k A B C D F J (s17 g k (fun z25 => q z25)) (fun z24 => q z24)
theorem c18_ev (A B C : Int) (D : L5) (F : L3) (J : L5) (K : Kont R) : V g k K [true, true, true, true, true] 63 (S2 A B C D F J) = c18 g k A B C D F J (fun z26 => K .ret (S3 z26)) :=
 (Eq.trans (by kernel_rfl) (c16_ev g k A B C D F J (seqK (V g k K [true, true, true, true, true, true] 127) K))).trans (congrArg (fun f_ => c16 g k A B C D F J f_ (fun z24 => K .ret (S3 z24))) (seqN (f := (V g k K [true, true, true, true, true, true] 127)) (K := K) (s17_ev g k K)))
def c19 (g : Cs R) (k : Nat) (A B C : Int) (D : L5) (F : L3) (J : L5) (q : Bool → Option R) : Option R :=
 c11 g k A B C D F J (c18 g k A B C D F J (fun z26 => q z26)) (fun z16 => q z16)
theorem c19_ev (A B C : Int) (D : L5) (F : L3) (J : L5) (K : Kont R) : V g k K [true, true, true, true] 31 (S2 A B C D F J) = c19 g k A B C D F J (fun z27 => K .ret (S3 z27)) :=
 (Eq.trans (by kernel_rfl) (c11_ev g k A B C D F J (seqK (V g k K [true, true, true, true, true] 63) K))).trans (congrArg (fun f_ => c11 g k A B C D F J f_ (fun z16 => K .ret (S3 z16))) (seqN (f := (V g k K [true, true, true, true, true] 63)) (K := K) (c18_ev g k A B C D F J K)))
def c20 (g : Cs R) (k : Nat) (A B C : Int) (D : L5) (F : L3) (J : L5) (q : Bool → Option R) : Option R :=
 c6 g k A B C D F J (c19 g k A B C D F J (fun z27 => q z27)) (fun z8 => q z8)
theorem c20_ev (A B C : Int) (D : L5) (F : L3) (J : L5) (K : Kont R) : V g k K [true, true, true] 15 (S2 A B C D F J) = c20 g k A B C D F J (fun z28 => K .ret (S3 z28)) :=
 (Eq.trans (by kernel_rfl) (c6_ev g k A B C D F J (seqK (V g k K [true, true, true, true] 31) K))).trans (congrArg (fun f_ => c6 g k A B C D F J f_ (fun z8 => K .ret (S3 z8))) (seqN (f := (V g k K [true, true, true, true] 31)) (K := K) (c19_ev g k A B C D F J K)))
def c21 (g : Cs R) (k : Nat) (A B C : Int) (D : L5) (F : L3) (J : L5) (q : Bool → Option R) : Option R :=
 s1 g k A B C D F J (c20 g k A B C D F J (fun z28 => q z28)) (fun z0 => q z0)
theorem c21_ev (A B C : Int) (D : L5) (F : L3) (J : L5) (K : Kont R) : V g k K [] 1 (S1 A B C D F J) = c21 g k A B C D F J (fun z29 => K .ret (S3 z29)) :=
 (Eq.trans (by kernel_rfl) (s1_ev g k A B C D F J (V g k K [true, true, true] 15) K)).trans (congrArg (fun f_ => s1 g k A B C D F J f_ (fun z0 => K .ret (S3 z0))) (c20_ev g k A B C D F J K))
def b (g : Cs R) (k : Nat) (A B C : Int) (D : L5) (F : L3) (J : L5) (K : Bool → Option R) : Option R :=
 c21 g k A B C D F J (fun z29 => K z29)
theorem evs (A B C : Int) (D : L5) (F : L3) (J : L5) (KF : Ret → Option R) : evFunc E (G g) k H [] false Tryz.f30 [.val true [ri A, ri B, ri C, .row .ro q5 D, .row .ro q3 F, .row .ro q5 J]] KF = b g k A B C D F J (fun r1 => KF ⟨[.val false [.s (.bool r1)]], []⟩) :=
 Eq.trans (by kernel_rfl) ((c21_ev g k A B C D F J (fin E.P false Tryz.f30 [] KF)).trans (by kernel_rfl))
end impl_KeepOk
namespace impl_KeepOk
def g (k : Nat) : Cs R := ⟨(), impl_isNode.c k, impl_in.c k, impl_notesOk.c k, impl_marksOk.c k, impl_onWay.c k, impl_markAt.c k⟩
def c (k : Nat) : T R := b (g k) k
end impl_KeepOk
/-! ### strings_Cut: function 58, of Go's library -/
namespace strings_Cut
abbrev T (R : Type) : Type := ByteArray → ByteArray → (ByteArray → ByteArray → Bool → Option R) → Option R
def con (f : T R) : Con R := ⟨[], fun args K => match args with
 | [.val false [.s (.string a0)], .val false [.s (.string a1)]] => f a0 a1 (fun r1 r2 r3 => K ⟨[.val false [.s (.string r1)], .val false [.s (.string r2)], .val false [.s (.bool r3)]], []⟩)
 | _ => none⟩
def c (k : Nat) : T R := fun a0 a1 K => cond (decide (a0.size < 4294967281)) (K (ByteArray.mk (Go.Lib.cut a0.data.toList a1.data.toList).1.toArray) (ByteArray.mk (Go.Lib.cut a0.data.toList a1.data.toList).2.1.toArray) (Go.Lib.cut a0.data.toList a1.data.toList).2.2) none
end strings_Cut
end Go.Ev.F
