/- The Go functions as plain functions, and that the evaluator comes to them. No condition. Written by a program of this session. -/
import Derived.Test.YtidmkpeokahjoaaDoorProg
import Derived.Test.YtidmkpeokahjoaaDoorEv
import Derived.KernelRfl
import Derived.Lib.ItoaNum
namespace Go.Ev.F
open Go.Proofs
set_option linter.unusedVariables false
set_option maxRecDepth 100000
noncomputable def E : Env := ⟨Tryd.prog, []⟩
/-! ### laws_szShelf: function 14 -/
abbrev laws_szShelf.T (R : Type) : Type := ByteArray → Int → Int → (Int → Option R) → Option R
def laws_szShelf.con {R : Type} (f : laws_szShelf.T R) : Con R := ⟨[], fun args K => match args with
 | [.val true [.s (.string a0_0), .s (.int .i64 a0_1)], .val false [.s (.int .i64 a1)]] => f a0_0 a0_1 a1 (fun r1 => K ⟨[.val false [.s (.int .i64 r1)]], []⟩)
 | _ => none⟩
structure laws_szShelf.Cs (R : Type) where
  none_ : Unit := ()
def laws_szShelf.G {R : Type} (g : laws_szShelf.Cs R) : Cons R := []
def laws_szShelf.H : List (Nat × Meet) := []
def laws_szShelf.b {R : Type} (g : laws_szShelf.Cs R) (k : Nat) (a0_0 : ByteArray) (a0_1 : Int) (a1 : Int) (K : Int → Option R) : Option R :=
 let y1 := (decide ((IntKind.wrap .i64 (a1 - (a0_0.size : Int))) < 0)); cond y1 (K (-1)) (K (IntKind.wrap .i64 (a1 - (a0_0.size : Int))))
theorem laws_szShelf.evs {R : Type} (g : laws_szShelf.Cs R) (k : Nat) (a0_0 : ByteArray) (a0_1 : Int) (a1 : Int) (KF : Ret → Option R) : evFunc E (laws_szShelf.G g) k laws_szShelf.H [] false Tryd.f14 [.val true [.s (.string a0_0), .s (.int .i64 a0_1)], .val false [.s (.int .i64 a1)]] KF = laws_szShelf.b g k a0_0 a0_1 a1 (fun r1 => KF ⟨[.val false [.s (.int .i64 r1)]], []⟩) :=
 by kernel_rfl
def laws_szShelf.g {R : Type} (k : Nat) : laws_szShelf.Cs R := ⟨()⟩
def laws_szShelf.c {R : Type} (k : Nat) : laws_szShelf.T R := laws_szShelf.b (laws_szShelf.g k) k
/-! ### spec_l6In: function 56 -/
abbrev spec_l6In.T (R : Type) : Type := Int → Int → Int → (Bool → Option R) → Option R
def spec_l6In.con {R : Type} (f : spec_l6In.T R) : Con R := ⟨[], fun args K => match args with
 | [.val false [.s (.int .i64 a0)], .val false [.s (.int .i64 a1)], .val false [.s (.int .i64 a2)]] => f a0 a1 a2 (fun r1 => K ⟨[.val false [.s (.bool r1)]], []⟩)
 | _ => none⟩
structure spec_l6In.Cs (R : Type) where
  none_ : Unit := ()
def spec_l6In.G {R : Type} (g : spec_l6In.Cs R) : Cons R := []
def spec_l6In.H : List (Nat × Meet) := []
def spec_l6In.b {R : Type} (g : spec_l6In.Cs R) (k : Nat) (a0 : Int) (a1 : Int) (a2 : Int) (K : Bool → Option R) : Option R :=
 cond (decide (a1 ≤ a0)) (K (decide (a0 ≤ a2))) (K false)
theorem spec_l6In.evs {R : Type} (g : spec_l6In.Cs R) (k : Nat) (a0 : Int) (a1 : Int) (a2 : Int) (KF : Ret → Option R) : evFunc E (spec_l6In.G g) k spec_l6In.H [] false Tryd.f56 [.val false [.s (.int .i64 a0)], .val false [.s (.int .i64 a1)], .val false [.s (.int .i64 a2)]] KF = spec_l6In.b g k a0 a1 a2 (fun r1 => KF ⟨[.val false [.s (.bool r1)]], []⟩) :=
 by kernel_rfl
def spec_l6In.g {R : Type} (k : Nat) : spec_l6In.Cs R := ⟨()⟩
def spec_l6In.c {R : Type} (k : Nat) : spec_l6In.T R := spec_l6In.b (spec_l6In.g k) k
/-! ### spec_l6Dec: function 68 -/
abbrev spec_l6Dec.T (R : Type) : Type := Int → (ByteArray → Option R) → Option R
def spec_l6Dec.con {R : Type} (f : spec_l6Dec.T R) : Con R := ⟨[], fun args K => match args with
 | [.val false [.s (.int .i64 a0)]] => f a0 (fun r1 => K ⟨[.val false [.s (.string r1)]], []⟩)
 | _ => none⟩
structure spec_l6Dec.Cs (R : Type) where
  none_ : Unit := ()
  f68 : spec_l6Dec.T R
def spec_l6Dec.G {R : Type} (g : spec_l6Dec.Cs R) : Cons R := [(68, spec_l6Dec.con g.f68)]
def spec_l6Dec.H : List (Nat × Meet) := []
def spec_l6Dec.b {R : Type} (g : spec_l6Dec.Cs R) (k : Nat) (a0 : Int) (K : ByteArray → Option R) : Option R :=
 cond (decide (a0 < (-9223372036854775807))) (K (ByteArray.mk #[45, 57, 50, 50, 51, 51, 55, 50, 48, 51, 54, 56, 53, 52, 55, 55, 53, 56, 48, 56])) (cond (decide (a0 < 0)) (g.f68 (IntKind.wrap .i64 (0 - a0)) (fun r1 => cond (decide ((ByteArray.mk #[45]).size + r1.size ≤ 9223372036854775807)) (K ((ByteArray.mk #[45]) ++ r1)) none)) (cond (decide (a0 < 10)) (let y2 := (IntKind.wrap .u8 ((IntKind.wrap .i64 ((48 : Int) + a0)))); K (ofBytes ([y2] : List Int))) (cond (!decide ((10 : Int) = 0)) (g.f68 (IntKind.wrap .i64 (Int.tdiv a0 10)) (fun r3 => cond (!decide ((10 : Int) = 0)) (let y4 := (IntKind.wrap .i64 ((48 : Int) + (Int.tmod a0 10))); cond (decide (r3.size + (ofBytes ([(IntKind.wrap .u8 (y4))] : List Int)).size ≤ 9223372036854775807)) (let y5 := (r3 ++ (ofBytes ([(IntKind.wrap .u8 (y4))] : List Int))); K y5) none) none)) none)))
theorem spec_l6Dec.evs {R : Type} (g : spec_l6Dec.Cs R) (k : Nat) (a0 : Int) (KF : Ret → Option R) : evFunc E (spec_l6Dec.G g) k spec_l6Dec.H [] false Tryd.f68 [.val false [.s (.int .i64 a0)]] KF = spec_l6Dec.b g k a0 (fun r1 => KF ⟨[.val false [.s (.string r1)]], []⟩) :=
 by kernel_rfl
def spec_l6Dec.c {R : Type} : Nat → spec_l6Dec.T R
 | 0 => fun _ _ => none
 | k + 1 => spec_l6Dec.b ⟨(), spec_l6Dec.c k⟩ k
def spec_l6Dec.g {R : Type} (k : Nat) : spec_l6Dec.Cs R := ⟨(), spec_l6Dec.c k⟩
/-! ### spec_l3Dec: function 91 -/
abbrev spec_l3Dec.T (R : Type) : Type := ByteArray → (Int → Option R) → Option R
def spec_l3Dec.con {R : Type} (f : spec_l3Dec.T R) : Con R := ⟨[], fun args K => match args with
 | [.val false [.s (.string a0)]] => f a0 (fun r1 => K ⟨[.val false [.s (.int .i64 r1)]], []⟩)
 | _ => none⟩
structure spec_l3Dec.Cs (R : Type) where
  none_ : Unit := ()
  f68 : spec_l6Dec.T R
def spec_l3Dec.G {R : Type} (g : spec_l3Dec.Cs R) : Cons R := [(68, spec_l6Dec.con g.f68)]
def spec_l3Dec.H : List (Nat × Meet) := [(14, ⟨[(0, []), (3, [])], []⟩), (53, ⟨[(2, [])], []⟩), (60, ⟨[(0, []), (3, []), (4, [])], []⟩), (122, ⟨[(0, []), (3, []), (4, [])], []⟩), (127, ⟨[(2, [])], []⟩), (501, ⟨[(2, [])], []⟩), (979, ⟨[(0, []), (3, []), (4, [])], []⟩), (1955, ⟨[(0, []), (3, [])], []⟩), (31301, ⟨[(2, [])], []⟩)]
def spec_l3Dec.s1 {R : Type} (g : spec_l3Dec.Cs R) (k : Nat) (a0 : ByteArray) (j : Int → Option R) (q : Int → Option R) : Option R :=
 cond (decide ((a0.size : Int) < 1)) (q (-1)) (cond (decide ((4 : Int) < (a0.size : Int))) (q (-1)) (j 0))
theorem spec_l3Dec.s1_ev {R : Type} (g : spec_l3Dec.Cs R) (k : Nat) (a0 : ByteArray) (X : St → Option R) (K : Kont R) : evPre E (spec_l3Dec.G g) k spec_l3Dec.H 3 (nodeAt (bodyOf Tryd.f91) []) 1 (mkSt [(0, .c (.s (.string a0)))] []) X K = spec_l3Dec.s1 g k a0 (fun v3_0_1 => X (mkSt [(0, .c (.s (.string a0))), (3, .c (.s (.int .i64 v3_0_1)))] [])) (fun v2_0_2 => K .ret (mkSt [(2, .c (.s (.int .i64 v2_0_2)))] [])) := by kernel_rfl
def spec_l3Dec.s2 {R : Type} (g : spec_l3Dec.Cs R) (k : Nat) (a0 : ByteArray) (v3_0_1 : Int) (j : Int → Option R) : Option R :=
 j 0
theorem spec_l3Dec.s2_ev {R : Type} (g : spec_l3Dec.Cs R) (k : Nat) (a0 : ByteArray) (v3_0_1 : Int) (X : St → Option R) (K : Kont R) : evPre E (spec_l3Dec.G g) k spec_l3Dec.H 1 (nodeAt (bodyOf Tryd.f91) [true, true, true, false]) 30 (mkSt [(0, .c (.s (.string a0))), (3, .c (.s (.int .i64 v3_0_1)))] []) X K = spec_l3Dec.s2 g k a0 v3_0_1 (fun v4_0_3 => X (mkSt [(0, .c (.s (.string a0))), (3, .c (.s (.int .i64 v3_0_1))), (4, .c (.s (.int .i64 v4_0_3)))] [])) := by kernel_rfl
def spec_l3Dec.s3 {R : Type} (g : spec_l3Dec.Cs R) (k : Nat) (a0 : ByteArray) (v3_0_8 : Int) (v4_0_8 : Int) (j : Int → Int → Option R) (x0 : Option R) (q : Int → Option R) : Option R :=
 cond (decide (v4_0_8 < (a0.size : Int))) (cond (decide (0 ≤ v4_0_8) && decide (v4_0_8 < (a0.size : Int))) (cond (decide ((byteAt a0 v4_0_8.toNat) < 48)) (q (-1)) (cond (decide (0 ≤ v4_0_8) && decide (v4_0_8 < (a0.size : Int))) (cond (decide ((57 : Int) < (byteAt a0 v4_0_8.toNat))) (q (-1)) (cond (decide (0 ≤ v4_0_8) && decide (v4_0_8 < (a0.size : Int))) (let y1 := (IntKind.wrap .u8 ((byteAt a0 v4_0_8.toNat) - 48)); let y2 := (IntKind.wrap .i64 ((IntKind.wrap .i64 (v3_0_8 * 10)) + (IntKind.wrap .i64 (y1)))); j y2 (IntKind.wrap .i64 (v4_0_8 + 1))) none)) none)) none) (x0)
theorem spec_l3Dec.s3_ev {R : Type} (g : spec_l3Dec.Cs R) (k : Nat) (a0 : ByteArray) (v3_0_8 : Int) (v4_0_8 : Int) (K : Kont R) : ev E (spec_l3Dec.G g) k spec_l3Dec.H (nodeAt (bodyOf Tryd.f91) [true, true, true, false, true, false, false]) 244 (mkSt [(0, .c (.s (.string a0))), (3, .c (.s (.int .i64 v3_0_8))), (4, .c (.s (.int .i64 v4_0_8)))] []) K = spec_l3Dec.s3 g k a0 v3_0_8 v4_0_8 (fun v3_0_9 v4_0_9 => K .normal (mkSt [(0, .c (.s (.string a0))), (3, .c (.s (.int .i64 v3_0_9))), (4, .c (.s (.int .i64 v4_0_9)))] [])) (K (.exit 0) (mkSt [(0, .c (.s (.string a0))), (3, .c (.s (.int .i64 v3_0_8)))] [])) (fun v2_0_11 => K .ret (mkSt [(2, .c (.s (.int .i64 v2_0_11)))] [])) := by kernel_rfl
def spec_l3Dec.l4r {R : Type} (g : spec_l3Dec.Cs R) (k : Nat) (a0 : ByteArray) (x0 : Int → Option R) (q : Int → Option R) : Nat → Int → Int → Option R
 | 0, _, _ => none
 | n + 1, v3_0_8, v4_0_8 => spec_l3Dec.s3 g k a0 v3_0_8 v4_0_8 (fun v3_0_9 v4_0_9 => spec_l3Dec.l4r g k a0 x0 q n v3_0_9 v4_0_9) (x0 v3_0_8) (fun v2_0_11 => q v2_0_11)
def spec_l3Dec.l4 {R : Type} (g : spec_l3Dec.Cs R) (k : Nat) (a0 : ByteArray) (v3_0_1 : Int) (v4_0_3 : Int) (x0 : Int → Option R) (q : Int → Option R) : Option R := spec_l3Dec.l4r g k a0 x0 q k v3_0_1 v4_0_3
theorem spec_l3Dec.l4r_ev {R : Type} (g : spec_l3Dec.Cs R) (k : Nat) (a0 : ByteArray) (K : Kont R) : ∀ (n : Nat) (v3_0_8 : Int) (v4_0_8 : Int), evLoop (ev E (spec_l3Dec.G g) k spec_l3Dec.H (nodeAt (bodyOf Tryd.f91) [true, true, true, false, true, false, false]) 244) (atMeet spec_l3Dec.H 122) K n (mkSt [(0, .c (.s (.string a0))), (3, .c (.s (.int .i64 v3_0_8))), (4, .c (.s (.int .i64 v4_0_8)))] []) = spec_l3Dec.l4r g k a0 (fun v3_0_12 => K (.exit 0) (mkSt [(0, .c (.s (.string a0))), (3, .c (.s (.int .i64 v3_0_12)))] [])) (fun v2_0_13 => K .ret (mkSt [(2, .c (.s (.int .i64 v2_0_13)))] [])) n v3_0_8 v4_0_8 := by
 intro n
 induction n with
 | zero => intros; rfl
 | succ n ih =>
  intro v3_0_8 v4_0_8
  exact (show _ = (ev E (spec_l3Dec.G g) k spec_l3Dec.H (nodeAt (bodyOf Tryd.f91) [true, true, true, false, true, false, false]) 244) (mkSt [(0, .c (.s (.string a0))), (3, .c (.s (.int .i64 v3_0_8))), (4, .c (.s (.int .i64 v4_0_8)))] []) (loopK (ev E (spec_l3Dec.G g) k spec_l3Dec.H (nodeAt (bodyOf Tryd.f91) [true, true, true, false, true, false, false]) 244) (atMeet spec_l3Dec.H 122) K n) from by kernel_rfl).trans ((spec_l3Dec.s3_ev g k a0 v3_0_8 v4_0_8 (loopK (ev E (spec_l3Dec.G g) k spec_l3Dec.H (nodeAt (bodyOf Tryd.f91) [true, true, true, false, true, false, false]) 244) (atMeet spec_l3Dec.H 122) K n)).trans ((show _ = spec_l3Dec.s3 g k a0 v3_0_8 v4_0_8 (fun v3_0_9 v4_0_9 => evLoop (ev E (spec_l3Dec.G g) k spec_l3Dec.H (nodeAt (bodyOf Tryd.f91) [true, true, true, false, true, false, false]) 244) (atMeet spec_l3Dec.H 122) K n (mkSt [(0, .c (.s (.string a0))), (3, .c (.s (.int .i64 v3_0_9))), (4, .c (.s (.int .i64 v4_0_9)))] [])) (K (.exit 0) (mkSt [(0, .c (.s (.string a0))), (3, .c (.s (.int .i64 v3_0_8)))] [])) (fun v2_0_11 => K .ret (mkSt [(2, .c (.s (.int .i64 v2_0_11)))] [])) from by kernel_rfl).trans (congrArg (fun f_ => spec_l3Dec.s3 g k a0 v3_0_8 v4_0_8 f_ (K (.exit 0) (mkSt [(0, .c (.s (.string a0))), (3, .c (.s (.int .i64 v3_0_8)))] [])) (fun v2_0_11 => K .ret (mkSt [(2, .c (.s (.int .i64 v2_0_11)))] []))) (funext fun (v3_0_9 : Int) => (funext fun (v4_0_9 : Int) => (ih v3_0_9 v4_0_9))))))
theorem spec_l3Dec.l4_ev {R : Type} (g : spec_l3Dec.Cs R) (k : Nat) (a0 : ByteArray) (v3_0_1 : Int) (v4_0_3 : Int) (K : Kont R) : ev E (spec_l3Dec.G g) k spec_l3Dec.H (nodeAt (bodyOf Tryd.f91) [true, true, true, false, true, false]) 122 (mkSt [(0, .c (.s (.string a0))), (3, .c (.s (.int .i64 v3_0_1))), (4, .c (.s (.int .i64 v4_0_3)))] []) K = spec_l3Dec.l4 g k a0 v3_0_1 v4_0_3 (fun v3_0_12 => K (.exit 0) (mkSt [(0, .c (.s (.string a0))), (3, .c (.s (.int .i64 v3_0_12)))] [])) (fun v2_0_13 => K .ret (mkSt [(2, .c (.s (.int .i64 v2_0_13)))] [])) :=
 (show _ = evLoop (ev E (spec_l3Dec.G g) k spec_l3Dec.H (nodeAt (bodyOf Tryd.f91) [true, true, true, false, true, false, false]) 244) (atMeet spec_l3Dec.H 122) K k (mkSt [(0, .c (.s (.string a0))), (3, .c (.s (.int .i64 v3_0_1))), (4, .c (.s (.int .i64 v4_0_3)))] []) from by kernel_rfl).trans (spec_l3Dec.l4r_ev g k a0 K k v3_0_1 v4_0_3)
def spec_l3Dec.b5 {R : Type} (g : spec_l3Dec.Cs R) (k : Nat) (a0 : ByteArray) (v3_0_1 : Int) (v4_0_3 : Int) (j : Int → Option R) (q : Int → Option R) : Option R :=
 spec_l3Dec.l4 g k a0 v3_0_1 v4_0_3 (fun v3_0_12 => j v3_0_12) (fun v2_0_13 => q v2_0_13)
theorem spec_l3Dec.b5_ev {R : Type} (g : spec_l3Dec.Cs R) (k : Nat) (a0 : ByteArray) (v3_0_1 : Int) (v4_0_3 : Int) (K : Kont R) : ev E (spec_l3Dec.G g) k spec_l3Dec.H (nodeAt (bodyOf Tryd.f91) [true, true, true, false, true]) 61 (mkSt [(0, .c (.s (.string a0))), (3, .c (.s (.int .i64 v3_0_1))), (4, .c (.s (.int .i64 v4_0_3)))] []) K = spec_l3Dec.b5 g k a0 v3_0_1 v4_0_3 (fun v3_0_14 => K .normal (mkSt [(0, .c (.s (.string a0))), (3, .c (.s (.int .i64 v3_0_14)))] [])) (fun v2_0_15 => K .ret (mkSt [(2, .c (.s (.int .i64 v2_0_15)))] [])) :=
 (show _ = ev E (spec_l3Dec.G g) k spec_l3Dec.H (nodeAt (bodyOf Tryd.f91) [true, true, true, false, true, false]) 122 (mkSt [(0, .c (.s (.string a0))), (3, .c (.s (.int .i64 v3_0_1))), (4, .c (.s (.int .i64 v4_0_3)))] []) (blockK 0 (fun st => K .normal (atMeet spec_l3Dec.H 61 st)) K) from by kernel_rfl).trans ((spec_l3Dec.l4_ev g k a0 v3_0_1 v4_0_3 (blockK 0 (fun st => K .normal (atMeet spec_l3Dec.H 61 st)) K)).trans (by kernel_rfl))
def spec_l3Dec.c6 {R : Type} (g : spec_l3Dec.Cs R) (k : Nat) (a0 : ByteArray) (v3_0_1 : Int) (j : Int → Option R) (q : Int → Option R) : Option R :=
 spec_l3Dec.s2 g k a0 v3_0_1 (fun v4_0_3 => spec_l3Dec.b5 g k a0 v3_0_1 v4_0_3 (fun v3_0_14 => j v3_0_14) (fun v2_0_15 => q v2_0_15))
theorem spec_l3Dec.c6_ev {R : Type} (g : spec_l3Dec.Cs R) (k : Nat) (a0 : ByteArray) (v3_0_1 : Int) (K : Kont R) : ev E (spec_l3Dec.G g) k spec_l3Dec.H (nodeAt (bodyOf Tryd.f91) [true, true, true, false]) 30 (mkSt [(0, .c (.s (.string a0))), (3, .c (.s (.int .i64 v3_0_1)))] []) K = spec_l3Dec.c6 g k a0 v3_0_1 (fun v3_0_16 => K .normal (mkSt [(0, .c (.s (.string a0))), (3, .c (.s (.int .i64 v3_0_16)))] [])) (fun v2_0_17 => K .ret (mkSt [(2, .c (.s (.int .i64 v2_0_17)))] [])) :=
 ((show ev E (spec_l3Dec.G g) k spec_l3Dec.H (nodeAt (bodyOf Tryd.f91) [true, true, true, false]) 30 (mkSt [(0, .c (.s (.string a0))), (3, .c (.s (.int .i64 v3_0_1)))] []) K = evPre E (spec_l3Dec.G g) k spec_l3Dec.H 1 (nodeAt (bodyOf Tryd.f91) [true, true, true, false]) 30 (mkSt [(0, .c (.s (.string a0))), (3, .c (.s (.int .i64 v3_0_1)))] []) (fun st => ev E (spec_l3Dec.G g) k spec_l3Dec.H (nodeAt (bodyOf Tryd.f91) [true, true, true, false, true]) 61 st K) K from by kernel_rfl).trans (spec_l3Dec.s2_ev g k a0 v3_0_1 (fun st => ev E (spec_l3Dec.G g) k spec_l3Dec.H (nodeAt (bodyOf Tryd.f91) [true, true, true, false, true]) 61 st K) K)).trans (congrArg (fun f_ => spec_l3Dec.s2 g k a0 v3_0_1 f_) (funext fun (v4_0_3 : Int) => (spec_l3Dec.b5_ev g k a0 v3_0_1 v4_0_3 K)))
def spec_l3Dec.s7 {R : Type} (g : spec_l3Dec.Cs R) (k : Nat) (a0 : ByteArray) (v3_0_16 : Int) (q : Int → Option R) : Option R :=
 g.f68 v3_0_16 (fun r1 => cond (!decide (r1 = a0)) (q (-1)) (q v3_0_16))
theorem spec_l3Dec.s7_ev {R : Type} (g : spec_l3Dec.Cs R) (k : Nat) (a0 : ByteArray) (v3_0_16 : Int) (K : Kont R) : ev E (spec_l3Dec.G g) k spec_l3Dec.H (nodeAt (bodyOf Tryd.f91) [true, true, true, true]) 31 (mkSt [(0, .c (.s (.string a0))), (3, .c (.s (.int .i64 v3_0_16)))] []) K = spec_l3Dec.s7 g k a0 v3_0_16 (fun v2_0_18 => K .ret (mkSt [(2, .c (.s (.int .i64 v2_0_18)))] [])) := by kernel_rfl
def spec_l3Dec.c8 {R : Type} (g : spec_l3Dec.Cs R) (k : Nat) (a0 : ByteArray) (v3_0_1 : Int) (q : Int → Option R) : Option R :=
 spec_l3Dec.c6 g k a0 v3_0_1 (fun v3_0_16 => spec_l3Dec.s7 g k a0 v3_0_16 (fun v2_0_18 => q v2_0_18)) (fun v2_0_17 => q v2_0_17)
theorem spec_l3Dec.c8_ev {R : Type} (g : spec_l3Dec.Cs R) (k : Nat) (a0 : ByteArray) (v3_0_1 : Int) (K : Kont R) : ev E (spec_l3Dec.G g) k spec_l3Dec.H (nodeAt (bodyOf Tryd.f91) [true, true, true]) 15 (mkSt [(0, .c (.s (.string a0))), (3, .c (.s (.int .i64 v3_0_1)))] []) K = spec_l3Dec.c8 g k a0 v3_0_1 (fun v2_0_19 => K .ret (mkSt [(2, .c (.s (.int .i64 v2_0_19)))] [])) :=
 ((show ev E (spec_l3Dec.G g) k spec_l3Dec.H (nodeAt (bodyOf Tryd.f91) [true, true, true]) 15 (mkSt [(0, .c (.s (.string a0))), (3, .c (.s (.int .i64 v3_0_1)))] []) K = ev E (spec_l3Dec.G g) k spec_l3Dec.H (nodeAt (bodyOf Tryd.f91) [true, true, true, false]) 30 (mkSt [(0, .c (.s (.string a0))), (3, .c (.s (.int .i64 v3_0_1)))] []) (seqK (fun st => ev E (spec_l3Dec.G g) k spec_l3Dec.H (nodeAt (bodyOf Tryd.f91) [true, true, true, true]) 31 st K) K) from by kernel_rfl).trans (spec_l3Dec.c6_ev g k a0 v3_0_1 (seqK (fun st => ev E (spec_l3Dec.G g) k spec_l3Dec.H (nodeAt (bodyOf Tryd.f91) [true, true, true, true]) 31 st K) K))).trans (congrArg (fun f_ => spec_l3Dec.c6 g k a0 v3_0_1 f_ (fun v2_0_17 => K .ret (mkSt [(2, .c (.s (.int .i64 v2_0_17)))] []))) (funext fun (v3_0_16 : Int) => (spec_l3Dec.s7_ev g k a0 v3_0_16 K)))
def spec_l3Dec.c9 {R : Type} (g : spec_l3Dec.Cs R) (k : Nat) (a0 : ByteArray) (q : Int → Option R) : Option R :=
 spec_l3Dec.s1 g k a0 (fun v3_0_1 => spec_l3Dec.c8 g k a0 v3_0_1 (fun v2_0_19 => q v2_0_19)) (fun v2_0_2 => q v2_0_2)
theorem spec_l3Dec.c9_ev {R : Type} (g : spec_l3Dec.Cs R) (k : Nat) (a0 : ByteArray) (K : Kont R) : ev E (spec_l3Dec.G g) k spec_l3Dec.H (nodeAt (bodyOf Tryd.f91) []) 1 (mkSt [(0, .c (.s (.string a0)))] []) K = spec_l3Dec.c9 g k a0 (fun v2_0_20 => K .ret (mkSt [(2, .c (.s (.int .i64 v2_0_20)))] [])) :=
 ((show ev E (spec_l3Dec.G g) k spec_l3Dec.H (nodeAt (bodyOf Tryd.f91) []) 1 (mkSt [(0, .c (.s (.string a0)))] []) K = evPre E (spec_l3Dec.G g) k spec_l3Dec.H 3 (nodeAt (bodyOf Tryd.f91) []) 1 (mkSt [(0, .c (.s (.string a0)))] []) (fun st => ev E (spec_l3Dec.G g) k spec_l3Dec.H (nodeAt (bodyOf Tryd.f91) [true, true, true]) 15 st K) K from by kernel_rfl).trans (spec_l3Dec.s1_ev g k a0 (fun st => ev E (spec_l3Dec.G g) k spec_l3Dec.H (nodeAt (bodyOf Tryd.f91) [true, true, true]) 15 st K) K)).trans (congrArg (fun f_ => spec_l3Dec.s1 g k a0 f_ (fun v2_0_2 => K .ret (mkSt [(2, .c (.s (.int .i64 v2_0_2)))] []))) (funext fun (v3_0_1 : Int) => (spec_l3Dec.c8_ev g k a0 v3_0_1 K)))
def spec_l3Dec.b {R : Type} (g : spec_l3Dec.Cs R) (k : Nat) (a0 : ByteArray) (K : Int → Option R) : Option R :=
 spec_l3Dec.c9 g k a0 (fun v2_0_20 => K v2_0_20)
theorem spec_l3Dec.evs {R : Type} (g : spec_l3Dec.Cs R) (k : Nat) (a0 : ByteArray) (KF : Ret → Option R) : evFunc E (spec_l3Dec.G g) k spec_l3Dec.H [] false Tryd.f91 [.val false [.s (.string a0)]] KF = spec_l3Dec.b g k a0 (fun r1 => KF ⟨[.val false [.s (.int .i64 r1)]], []⟩) :=
 (show _ = ev E (spec_l3Dec.G g) k spec_l3Dec.H (nodeAt (bodyOf Tryd.f91) []) 1 (mkSt [(0, .c (.s (.string a0)))] []) (fin E.P false Tryd.f91 [] KF) from by kernel_rfl).trans ((spec_l3Dec.c9_ev g k a0 (fin E.P false Tryd.f91 [] KF)).trans (by kernel_rfl))
def spec_l3Dec.g {R : Type} (k : Nat) : spec_l3Dec.Cs R := ⟨(), spec_l6Dec.c k⟩
def spec_l3Dec.c {R : Type} (k : Nat) : spec_l3Dec.T R := spec_l3Dec.b (spec_l3Dec.g k) k
/-! ### spec_l11One: function 87 -/
abbrev spec_l11One.T (R : Type) : Type := ByteArray → (ByteArray → Int → Option R) → Option R
def spec_l11One.con {R : Type} (f : spec_l11One.T R) : Con R := ⟨[], fun args K => match args with
 | [.val false [.s (.string a0)]] => f a0 (fun r1 r2 => K ⟨[.val false [.s (.string r1)], .val false [.s (.int .i64 r2)]], []⟩)
 | _ => none⟩
structure spec_l11One.Cs (R : Type) where
  none_ : Unit := ()
  f91 : spec_l3Dec.T R
def spec_l11One.G {R : Type} (g : spec_l11One.Cs R) : Cons R := [(91, spec_l3Dec.con g.f91)]
def spec_l11One.H : List (Nat × Meet) := [(2, ⟨[(0, [])], []⟩), (12, ⟨[(0, []), (4, [])], []⟩), (15, ⟨[(2, []), (3, [])], []⟩), (26, ⟨[(0, []), (4, [])], []⟩), (211, ⟨[(0, []), (4, [])], []⟩), (419, ⟨[], []⟩), (6735, ⟨[(2, []), (3, [])], []⟩), (26933, ⟨[(2, []), (3, [])], []⟩)]
def spec_l11One.s1 {R : Type} (g : spec_l11One.Cs R) (k : Nat) (a0 : ByteArray) (j : Option R) : Option R :=
 j
theorem spec_l11One.s1_ev {R : Type} (g : spec_l11One.Cs R) (k : Nat) (a0 : ByteArray) (X : St → Option R) (K : Kont R) : evPre E (spec_l11One.G g) k spec_l11One.H 1 (nodeAt (bodyOf Tryd.f87) []) 1 (mkSt [(0, .c (.s (.string a0)))] []) X K = spec_l11One.s1 g k a0 (X (mkSt [(0, .c (.s (.string a0)))] [])) := by kernel_rfl
def spec_l11One.s2 {R : Type} (g : spec_l11One.Cs R) (k : Nat) (a0 : ByteArray) (j : Int → Option R) : Option R :=
 j 0
theorem spec_l11One.s2_ev {R : Type} (g : spec_l11One.Cs R) (k : Nat) (a0 : ByteArray) (X : St → Option R) (K : Kont R) : evPre E (spec_l11One.G g) k spec_l11One.H 1 (nodeAt (bodyOf Tryd.f87) [true, false]) 6 (mkSt [(0, .c (.s (.string a0)))] []) X K = spec_l11One.s2 g k a0 (fun v4_0_2 => X (mkSt [(0, .c (.s (.string a0))), (4, .c (.s (.int .i64 v4_0_2)))] [])) := by kernel_rfl
def spec_l11One.s3 {R : Type} (g : spec_l11One.Cs R) (k : Nat) (a0 : ByteArray) (v4_0_7 : Int) (j : Int → Option R) (x0 : Option R) (q : ByteArray → Int → Option R) : Option R :=
 cond (decide (v4_0_7 < (a0.size : Int))) (cond (decide (v4_0_7 < 3)) (cond (decide (0 ≤ v4_0_7) && decide (v4_0_7 < (a0.size : Int))) (cond (!decide ((byteAt a0 v4_0_7.toNat) = 58)) (j (IntKind.wrap .i64 (v4_0_7 + 1))) (cond (decide (0 ≤ v4_0_7) && decide (v4_0_7 ≤ (a0.size : Int))) (g.f91 (a0.extract 0 v4_0_7.toNat) (fun r1 => cond (decide (r1 < 1)) (q (ByteArray.mk #[]) 0) (cond (decide ((60 : Int) < r1)) (q (ByteArray.mk #[]) 0) (let y2 := (IntKind.wrap .i64 ((IntKind.wrap .i64 (v4_0_7 + 2)) + r1)); cond (decide ((a0.size : Int) < y2)) (q (ByteArray.mk #[]) 0) (let y3 := (IntKind.wrap .i64 ((IntKind.wrap .i64 (v4_0_7 + 1)) + r1)); cond (decide (0 ≤ y3) && decide (y3 < (a0.size : Int))) (cond (!decide ((byteAt a0 y3.toNat) = 59)) (q (ByteArray.mk #[]) 0) (let y4 := (IntKind.wrap .i64 ((IntKind.wrap .i64 (v4_0_7 + 1)) + r1)); cond (decide (0 ≤ y4) && decide (y4 ≤ (a0.size : Int)) && decide (0 ≤ (IntKind.wrap .i64 (v4_0_7 + 1))) && decide ((IntKind.wrap .i64 (v4_0_7 + 1)) ≤ y4)) (let y5 := (a0.extract ((IntKind.wrap .i64 (v4_0_7 + 1)).toNat) y4.toNat); let y6 := (IntKind.wrap .i64 ((IntKind.wrap .i64 (v4_0_7 + 2)) + r1)); q y5 y6) none)) none))))) none)) none) (x0)) (x0)
theorem spec_l11One.s3_ev {R : Type} (g : spec_l11One.Cs R) (k : Nat) (a0 : ByteArray) (v4_0_7 : Int) (K : Kont R) : ev E (spec_l11One.G g) k spec_l11One.H (nodeAt (bodyOf Tryd.f87) [true, false, true, false, false]) 52 (mkSt [(0, .c (.s (.string a0))), (4, .c (.s (.int .i64 v4_0_7)))] []) K = spec_l11One.s3 g k a0 v4_0_7 (fun v4_0_8 => K .normal (mkSt [(0, .c (.s (.string a0))), (4, .c (.s (.int .i64 v4_0_8)))] [])) (K (.exit 0) (mkSt [] [])) (fun v2_0_10 v3_0_10 => K .ret (mkSt [(2, .c (.s (.string v2_0_10))), (3, .c (.s (.int .i64 v3_0_10)))] [])) := by kernel_rfl
def spec_l11One.l4r {R : Type} (g : spec_l11One.Cs R) (k : Nat) (a0 : ByteArray) (x0 : Option R) (q : ByteArray → Int → Option R) : Nat → Int → Option R
 | 0, _ => none
 | n + 1, v4_0_7 => spec_l11One.s3 g k a0 v4_0_7 (fun v4_0_8 => spec_l11One.l4r g k a0 x0 q n v4_0_8) (x0) (fun v2_0_10 v3_0_10 => q v2_0_10 v3_0_10)
def spec_l11One.l4 {R : Type} (g : spec_l11One.Cs R) (k : Nat) (a0 : ByteArray) (v4_0_2 : Int) (x0 : Option R) (q : ByteArray → Int → Option R) : Option R := spec_l11One.l4r g k a0 x0 q k v4_0_2
theorem spec_l11One.l4r_ev {R : Type} (g : spec_l11One.Cs R) (k : Nat) (a0 : ByteArray) (K : Kont R) : ∀ (n : Nat) (v4_0_7 : Int), evLoop (ev E (spec_l11One.G g) k spec_l11One.H (nodeAt (bodyOf Tryd.f87) [true, false, true, false, false]) 52) (atMeet spec_l11One.H 26) K n (mkSt [(0, .c (.s (.string a0))), (4, .c (.s (.int .i64 v4_0_7)))] []) = spec_l11One.l4r g k a0 (K (.exit 0) (mkSt [] [])) (fun v2_0_12 v3_0_12 => K .ret (mkSt [(2, .c (.s (.string v2_0_12))), (3, .c (.s (.int .i64 v3_0_12)))] [])) n v4_0_7 := by
 intro n
 induction n with
 | zero => intros; rfl
 | succ n ih =>
  intro v4_0_7
  exact (show _ = (ev E (spec_l11One.G g) k spec_l11One.H (nodeAt (bodyOf Tryd.f87) [true, false, true, false, false]) 52) (mkSt [(0, .c (.s (.string a0))), (4, .c (.s (.int .i64 v4_0_7)))] []) (loopK (ev E (spec_l11One.G g) k spec_l11One.H (nodeAt (bodyOf Tryd.f87) [true, false, true, false, false]) 52) (atMeet spec_l11One.H 26) K n) from by kernel_rfl).trans ((spec_l11One.s3_ev g k a0 v4_0_7 (loopK (ev E (spec_l11One.G g) k spec_l11One.H (nodeAt (bodyOf Tryd.f87) [true, false, true, false, false]) 52) (atMeet spec_l11One.H 26) K n)).trans ((show _ = spec_l11One.s3 g k a0 v4_0_7 (fun v4_0_8 => evLoop (ev E (spec_l11One.G g) k spec_l11One.H (nodeAt (bodyOf Tryd.f87) [true, false, true, false, false]) 52) (atMeet spec_l11One.H 26) K n (mkSt [(0, .c (.s (.string a0))), (4, .c (.s (.int .i64 v4_0_8)))] [])) (K (.exit 0) (mkSt [] [])) (fun v2_0_10 v3_0_10 => K .ret (mkSt [(2, .c (.s (.string v2_0_10))), (3, .c (.s (.int .i64 v3_0_10)))] [])) from by kernel_rfl).trans (congrArg (fun f_ => spec_l11One.s3 g k a0 v4_0_7 f_ (K (.exit 0) (mkSt [] [])) (fun v2_0_10 v3_0_10 => K .ret (mkSt [(2, .c (.s (.string v2_0_10))), (3, .c (.s (.int .i64 v3_0_10)))] []))) (funext fun (v4_0_8 : Int) => (ih v4_0_8)))))
theorem spec_l11One.l4_ev {R : Type} (g : spec_l11One.Cs R) (k : Nat) (a0 : ByteArray) (v4_0_2 : Int) (K : Kont R) : ev E (spec_l11One.G g) k spec_l11One.H (nodeAt (bodyOf Tryd.f87) [true, false, true, false]) 26 (mkSt [(0, .c (.s (.string a0))), (4, .c (.s (.int .i64 v4_0_2)))] []) K = spec_l11One.l4 g k a0 v4_0_2 (K (.exit 0) (mkSt [] [])) (fun v2_0_12 v3_0_12 => K .ret (mkSt [(2, .c (.s (.string v2_0_12))), (3, .c (.s (.int .i64 v3_0_12)))] [])) :=
 (show _ = evLoop (ev E (spec_l11One.G g) k spec_l11One.H (nodeAt (bodyOf Tryd.f87) [true, false, true, false, false]) 52) (atMeet spec_l11One.H 26) K k (mkSt [(0, .c (.s (.string a0))), (4, .c (.s (.int .i64 v4_0_2)))] []) from by kernel_rfl).trans (spec_l11One.l4r_ev g k a0 K k v4_0_2)
def spec_l11One.b5 {R : Type} (g : spec_l11One.Cs R) (k : Nat) (a0 : ByteArray) (v4_0_2 : Int) (j : Option R) (q : ByteArray → Int → Option R) : Option R :=
 spec_l11One.l4 g k a0 v4_0_2 (j) (fun v2_0_12 v3_0_12 => q v2_0_12 v3_0_12)
theorem spec_l11One.b5_ev {R : Type} (g : spec_l11One.Cs R) (k : Nat) (a0 : ByteArray) (v4_0_2 : Int) (K : Kont R) : ev E (spec_l11One.G g) k spec_l11One.H (nodeAt (bodyOf Tryd.f87) [true, false, true]) 13 (mkSt [(0, .c (.s (.string a0))), (4, .c (.s (.int .i64 v4_0_2)))] []) K = spec_l11One.b5 g k a0 v4_0_2 (K .normal (mkSt [] [])) (fun v2_0_14 v3_0_14 => K .ret (mkSt [(2, .c (.s (.string v2_0_14))), (3, .c (.s (.int .i64 v3_0_14)))] [])) :=
 (show _ = ev E (spec_l11One.G g) k spec_l11One.H (nodeAt (bodyOf Tryd.f87) [true, false, true, false]) 26 (mkSt [(0, .c (.s (.string a0))), (4, .c (.s (.int .i64 v4_0_2)))] []) (blockK 0 (fun st => K .normal (atMeet spec_l11One.H 13 st)) K) from by kernel_rfl).trans ((spec_l11One.l4_ev g k a0 v4_0_2 (blockK 0 (fun st => K .normal (atMeet spec_l11One.H 13 st)) K)).trans (by kernel_rfl))
def spec_l11One.c6 {R : Type} (g : spec_l11One.Cs R) (k : Nat) (a0 : ByteArray) (j : Option R) (q : ByteArray → Int → Option R) : Option R :=
 spec_l11One.s2 g k a0 (fun v4_0_2 => spec_l11One.b5 g k a0 v4_0_2 (j) (fun v2_0_14 v3_0_14 => q v2_0_14 v3_0_14))
theorem spec_l11One.c6_ev {R : Type} (g : spec_l11One.Cs R) (k : Nat) (a0 : ByteArray) (K : Kont R) : ev E (spec_l11One.G g) k spec_l11One.H (nodeAt (bodyOf Tryd.f87) [true, false]) 6 (mkSt [(0, .c (.s (.string a0)))] []) K = spec_l11One.c6 g k a0 (K .normal (mkSt [] [])) (fun v2_0_16 v3_0_16 => K .ret (mkSt [(2, .c (.s (.string v2_0_16))), (3, .c (.s (.int .i64 v3_0_16)))] [])) :=
 ((show ev E (spec_l11One.G g) k spec_l11One.H (nodeAt (bodyOf Tryd.f87) [true, false]) 6 (mkSt [(0, .c (.s (.string a0)))] []) K = evPre E (spec_l11One.G g) k spec_l11One.H 1 (nodeAt (bodyOf Tryd.f87) [true, false]) 6 (mkSt [(0, .c (.s (.string a0)))] []) (fun st => ev E (spec_l11One.G g) k spec_l11One.H (nodeAt (bodyOf Tryd.f87) [true, false, true]) 13 st K) K from by kernel_rfl).trans (spec_l11One.s2_ev g k a0 (fun st => ev E (spec_l11One.G g) k spec_l11One.H (nodeAt (bodyOf Tryd.f87) [true, false, true]) 13 st K) K)).trans (congrArg (fun f_ => spec_l11One.s2 g k a0 f_) (funext fun (v4_0_2 : Int) => (spec_l11One.b5_ev g k a0 v4_0_2 K)))
def spec_l11One.s7 {R : Type} (g : spec_l11One.Cs R) (k : Nat)  (q : ByteArray → Int → Option R) : Option R :=
 q (ByteArray.mk #[]) 0
theorem spec_l11One.s7_ev {R : Type} (g : spec_l11One.Cs R) (k : Nat)  (K : Kont R) : ev E (spec_l11One.G g) k spec_l11One.H (nodeAt (bodyOf Tryd.f87) [true, true]) 7 (mkSt [] []) K = spec_l11One.s7 g k (fun v2_0_17 v3_0_17 => K .ret (mkSt [(2, .c (.s (.string v2_0_17))), (3, .c (.s (.int .i64 v3_0_17)))] [])) := by kernel_rfl
def spec_l11One.c8 {R : Type} (g : spec_l11One.Cs R) (k : Nat) (a0 : ByteArray) (q : ByteArray → Int → Option R) : Option R :=
 spec_l11One.c6 g k a0 (spec_l11One.s7 g k (fun v2_0_17 v3_0_17 => q v2_0_17 v3_0_17)) (fun v2_0_16 v3_0_16 => q v2_0_16 v3_0_16)
theorem spec_l11One.c8_ev {R : Type} (g : spec_l11One.Cs R) (k : Nat) (a0 : ByteArray) (K : Kont R) : ev E (spec_l11One.G g) k spec_l11One.H (nodeAt (bodyOf Tryd.f87) [true]) 3 (mkSt [(0, .c (.s (.string a0)))] []) K = spec_l11One.c8 g k a0 (fun v2_0_18 v3_0_18 => K .ret (mkSt [(2, .c (.s (.string v2_0_18))), (3, .c (.s (.int .i64 v3_0_18)))] [])) :=
 ((show ev E (spec_l11One.G g) k spec_l11One.H (nodeAt (bodyOf Tryd.f87) [true]) 3 (mkSt [(0, .c (.s (.string a0)))] []) K = ev E (spec_l11One.G g) k spec_l11One.H (nodeAt (bodyOf Tryd.f87) [true, false]) 6 (mkSt [(0, .c (.s (.string a0)))] []) (seqK (fun st => ev E (spec_l11One.G g) k spec_l11One.H (nodeAt (bodyOf Tryd.f87) [true, true]) 7 st K) K) from by kernel_rfl).trans (spec_l11One.c6_ev g k a0 (seqK (fun st => ev E (spec_l11One.G g) k spec_l11One.H (nodeAt (bodyOf Tryd.f87) [true, true]) 7 st K) K))).trans (congrArg (fun f_ => spec_l11One.c6 g k a0 f_ (fun v2_0_16 v3_0_16 => K .ret (mkSt [(2, .c (.s (.string v2_0_16))), (3, .c (.s (.int .i64 v3_0_16)))] []))) (spec_l11One.s7_ev g k K))
def spec_l11One.c9 {R : Type} (g : spec_l11One.Cs R) (k : Nat) (a0 : ByteArray) (q : ByteArray → Int → Option R) : Option R :=
 spec_l11One.s1 g k a0 (spec_l11One.c8 g k a0 (fun v2_0_18 v3_0_18 => q v2_0_18 v3_0_18))
theorem spec_l11One.c9_ev {R : Type} (g : spec_l11One.Cs R) (k : Nat) (a0 : ByteArray) (K : Kont R) : ev E (spec_l11One.G g) k spec_l11One.H (nodeAt (bodyOf Tryd.f87) []) 1 (mkSt [(0, .c (.s (.string a0)))] []) K = spec_l11One.c9 g k a0 (fun v2_0_19 v3_0_19 => K .ret (mkSt [(2, .c (.s (.string v2_0_19))), (3, .c (.s (.int .i64 v3_0_19)))] [])) :=
 ((show ev E (spec_l11One.G g) k spec_l11One.H (nodeAt (bodyOf Tryd.f87) []) 1 (mkSt [(0, .c (.s (.string a0)))] []) K = evPre E (spec_l11One.G g) k spec_l11One.H 1 (nodeAt (bodyOf Tryd.f87) []) 1 (mkSt [(0, .c (.s (.string a0)))] []) (fun st => ev E (spec_l11One.G g) k spec_l11One.H (nodeAt (bodyOf Tryd.f87) [true]) 3 st K) K from by kernel_rfl).trans (spec_l11One.s1_ev g k a0 (fun st => ev E (spec_l11One.G g) k spec_l11One.H (nodeAt (bodyOf Tryd.f87) [true]) 3 st K) K)).trans (congrArg (fun f_ => spec_l11One.s1 g k a0 f_) (spec_l11One.c8_ev g k a0 K))
def spec_l11One.b {R : Type} (g : spec_l11One.Cs R) (k : Nat) (a0 : ByteArray) (K : ByteArray → Int → Option R) : Option R :=
 spec_l11One.c9 g k a0 (fun v2_0_19 v3_0_19 => K v2_0_19 v3_0_19)
theorem spec_l11One.evs {R : Type} (g : spec_l11One.Cs R) (k : Nat) (a0 : ByteArray) (KF : Ret → Option R) : evFunc E (spec_l11One.G g) k spec_l11One.H [] false Tryd.f87 [.val false [.s (.string a0)]] KF = spec_l11One.b g k a0 (fun r1 r2 => KF ⟨[.val false [.s (.string r1)], .val false [.s (.int .i64 r2)]], []⟩) :=
 (show _ = ev E (spec_l11One.G g) k spec_l11One.H (nodeAt (bodyOf Tryd.f87) []) 1 (mkSt [(0, .c (.s (.string a0)))] []) (fin E.P false Tryd.f87 [] KF) from by kernel_rfl).trans ((spec_l11One.c9_ev g k a0 (fin E.P false Tryd.f87 [] KF)).trans (by kernel_rfl))
def spec_l11One.g {R : Type} (k : Nat) : spec_l11One.Cs R := ⟨(), spec_l3Dec.c k⟩
def spec_l11One.c {R : Type} (k : Nat) : spec_l11One.T R := spec_l11One.b (spec_l11One.g k) k
/-! ### spec_ShelfRead: function 57 -/
abbrev spec_ShelfRead.T (R : Type) : Type := ByteArray → (List ByteArray → Int → Option R) → Option R
def spec_ShelfRead.con {R : Type} (f : spec_ShelfRead.T R) : Con R := ⟨[], fun args K => match args with
 | [.val false [.s (.string a0)]] => f a0 (fun r1 r2 => K ⟨[.val false [.row .own [.str] r1], .val false [.s (.int .i64 r2)]], []⟩)
 | _ => none⟩
structure spec_ShelfRead.Cs (R : Type) where
  none_ : Unit := ()
  f87 : spec_l11One.T R
def spec_ShelfRead.G {R : Type} (g : spec_ShelfRead.Cs R) : Cons R := [(87, spec_l11One.con g.f87)]
def spec_ShelfRead.H : List (Nat × Meet) := [(14, ⟨[(0, []), (4, [(0, [.str])]), (5, [])], []⟩), (60, ⟨[(0, []), (4, [(0, [.str])]), (5, [])], []⟩), (63, ⟨[(2, [(0, [.str])]), (3, [])], []⟩), (241, ⟨[(0, []), (4, [(0, [.str])]), (5, [])], []⟩), (963, ⟨[(4, [(0, [.str])]), (5, [])], []⟩), (15445, ⟨[(2, [(0, [.str])]), (3, [])], []⟩)]
def spec_ShelfRead.s1 {R : Type} (g : spec_ShelfRead.Cs R) (k : Nat) (a0 : ByteArray) (j : Int → List ByteArray → Option R) : Option R :=
 j 0 ([] : List ByteArray)
theorem spec_ShelfRead.s1_ev {R : Type} (g : spec_ShelfRead.Cs R) (k : Nat) (a0 : ByteArray) (X : St → Option R) (K : Kont R) : evPre E (spec_ShelfRead.G g) k spec_ShelfRead.H 3 (nodeAt (bodyOf Tryd.f57) []) 1 (mkSt [(0, .c (.s (.string a0)))] []) X K = spec_ShelfRead.s1 g k a0 (fun v5_0_1 w9004_1 => X (mkSt [(0, .c (.s (.string a0))), (4, .c (.sl 9004)), (5, .c (.s (.int .i64 v5_0_1)))] [(9004, .row .own [.str] w9004_1)])) := by kernel_rfl
def spec_ShelfRead.s2 {R : Type} (g : spec_ShelfRead.Cs R) (k : Nat) (a0 : ByteArray) (v5_0_6 : Int) (w9004_6 : List ByteArray) (j : Int → List ByteArray → Option R) (x0 : Option R) (q : Option R) : Option R :=
 cond (decide (v5_0_6 < (a0.size : Int))) (cond (decide (0 ≤ v5_0_6) && decide (v5_0_6 ≤ (a0.size : Int))) (g.f87 (a0.extract v5_0_6.toNat a0.size) (fun r1 r2 => cond (decide (r2 = 0)) (q) (cond (Nat.ble (w9004_6.length + ([r1] : List ByteArray).length) lim) (j (IntKind.wrap .i64 (v5_0_6 + r2)) (w9004_6 ++ ([r1] : List ByteArray))) none))) none) (x0)
theorem spec_ShelfRead.s2_ev {R : Type} (g : spec_ShelfRead.Cs R) (k : Nat) (a0 : ByteArray) (v5_0_6 : Int) (w9004_6 : List ByteArray) (K : Kont R) : ev E (spec_ShelfRead.G g) k spec_ShelfRead.H (nodeAt (bodyOf Tryd.f57) [true, true, true, false, false, false]) 120 (mkSt [(0, .c (.s (.string a0))), (4, .c (.sl 9004)), (5, .c (.s (.int .i64 v5_0_6)))] [(9004, .row .own [.str] w9004_6)]) K = spec_ShelfRead.s2 g k a0 v5_0_6 w9004_6 (fun v5_0_7 w9004_7 => K .normal (mkSt [(0, .c (.s (.string a0))), (4, .c (.sl 9004)), (5, .c (.s (.int .i64 v5_0_7)))] [(9004, .row .own [.str] w9004_7)])) (K (.exit 0) (mkSt [(4, .c (.sl 9004)), (5, .c (.s (.int .i64 v5_0_6)))] [(9004, .row .own [.str] w9004_6)])) (K .ret (mkSt [(2, .c (.sl 9002)), (3, .c (.s (.int .i64 v5_0_6)))] [(9002, .row .own [.str] w9004_6)])) := by kernel_rfl
def spec_ShelfRead.l3r {R : Type} (g : spec_ShelfRead.Cs R) (k : Nat) (a0 : ByteArray) (x0 : Int → List ByteArray → Option R) (q : Int → List ByteArray → Option R) : Nat → Int → List ByteArray → Option R
 | 0, _, _ => none
 | n + 1, v5_0_6, w9004_6 => spec_ShelfRead.s2 g k a0 v5_0_6 w9004_6 (fun v5_0_7 w9004_7 => spec_ShelfRead.l3r g k a0 x0 q n v5_0_7 w9004_7) (x0 v5_0_6 w9004_6) (q v5_0_6 w9004_6)
def spec_ShelfRead.l3 {R : Type} (g : spec_ShelfRead.Cs R) (k : Nat) (a0 : ByteArray) (v5_0_1 : Int) (w9004_1 : List ByteArray) (x0 : Int → List ByteArray → Option R) (q : Int → List ByteArray → Option R) : Option R := spec_ShelfRead.l3r g k a0 x0 q k v5_0_1 w9004_1
theorem spec_ShelfRead.l3r_ev {R : Type} (g : spec_ShelfRead.Cs R) (k : Nat) (a0 : ByteArray) (K : Kont R) : ∀ (n : Nat) (v5_0_6 : Int) (w9004_6 : List ByteArray), evLoop (ev E (spec_ShelfRead.G g) k spec_ShelfRead.H (nodeAt (bodyOf Tryd.f57) [true, true, true, false, false, false]) 120) (atMeet spec_ShelfRead.H 60) K n (mkSt [(0, .c (.s (.string a0))), (4, .c (.sl 9004)), (5, .c (.s (.int .i64 v5_0_6)))] [(9004, .row .own [.str] w9004_6)]) = spec_ShelfRead.l3r g k a0 (fun v5_0_10 w9004_10 => K (.exit 0) (mkSt [(4, .c (.sl 9004)), (5, .c (.s (.int .i64 v5_0_10)))] [(9004, .row .own [.str] w9004_10)])) (fun v3_0_11 w9002_11 => K .ret (mkSt [(2, .c (.sl 9002)), (3, .c (.s (.int .i64 v3_0_11)))] [(9002, .row .own [.str] w9002_11)])) n v5_0_6 w9004_6 := by
 intro n
 induction n with
 | zero => intros; rfl
 | succ n ih =>
  intro v5_0_6 w9004_6
  exact (show _ = (ev E (spec_ShelfRead.G g) k spec_ShelfRead.H (nodeAt (bodyOf Tryd.f57) [true, true, true, false, false, false]) 120) (mkSt [(0, .c (.s (.string a0))), (4, .c (.sl 9004)), (5, .c (.s (.int .i64 v5_0_6)))] [(9004, .row .own [.str] w9004_6)]) (loopK (ev E (spec_ShelfRead.G g) k spec_ShelfRead.H (nodeAt (bodyOf Tryd.f57) [true, true, true, false, false, false]) 120) (atMeet spec_ShelfRead.H 60) K n) from by kernel_rfl).trans ((spec_ShelfRead.s2_ev g k a0 v5_0_6 w9004_6 (loopK (ev E (spec_ShelfRead.G g) k spec_ShelfRead.H (nodeAt (bodyOf Tryd.f57) [true, true, true, false, false, false]) 120) (atMeet spec_ShelfRead.H 60) K n)).trans ((show _ = spec_ShelfRead.s2 g k a0 v5_0_6 w9004_6 (fun v5_0_7 w9004_7 => evLoop (ev E (spec_ShelfRead.G g) k spec_ShelfRead.H (nodeAt (bodyOf Tryd.f57) [true, true, true, false, false, false]) 120) (atMeet spec_ShelfRead.H 60) K n (mkSt [(0, .c (.s (.string a0))), (4, .c (.sl 9004)), (5, .c (.s (.int .i64 v5_0_7)))] [(9004, .row .own [.str] w9004_7)])) (K (.exit 0) (mkSt [(4, .c (.sl 9004)), (5, .c (.s (.int .i64 v5_0_6)))] [(9004, .row .own [.str] w9004_6)])) (K .ret (mkSt [(2, .c (.sl 9002)), (3, .c (.s (.int .i64 v5_0_6)))] [(9002, .row .own [.str] w9004_6)])) from by kernel_rfl).trans (congrArg (fun f_ => spec_ShelfRead.s2 g k a0 v5_0_6 w9004_6 f_ (K (.exit 0) (mkSt [(4, .c (.sl 9004)), (5, .c (.s (.int .i64 v5_0_6)))] [(9004, .row .own [.str] w9004_6)])) (K .ret (mkSt [(2, .c (.sl 9002)), (3, .c (.s (.int .i64 v5_0_6)))] [(9002, .row .own [.str] w9004_6)]))) (funext fun (v5_0_7 : Int) => (funext fun (w9004_7 : List ByteArray) => (ih v5_0_7 w9004_7))))))
theorem spec_ShelfRead.l3_ev {R : Type} (g : spec_ShelfRead.Cs R) (k : Nat) (a0 : ByteArray) (v5_0_1 : Int) (w9004_1 : List ByteArray) (K : Kont R) : ev E (spec_ShelfRead.G g) k spec_ShelfRead.H (nodeAt (bodyOf Tryd.f57) [true, true, true, false, false]) 60 (mkSt [(0, .c (.s (.string a0))), (4, .c (.sl 9004)), (5, .c (.s (.int .i64 v5_0_1)))] [(9004, .row .own [.str] w9004_1)]) K = spec_ShelfRead.l3 g k a0 v5_0_1 w9004_1 (fun v5_0_10 w9004_10 => K (.exit 0) (mkSt [(4, .c (.sl 9004)), (5, .c (.s (.int .i64 v5_0_10)))] [(9004, .row .own [.str] w9004_10)])) (fun v3_0_11 w9002_11 => K .ret (mkSt [(2, .c (.sl 9002)), (3, .c (.s (.int .i64 v3_0_11)))] [(9002, .row .own [.str] w9002_11)])) :=
 (show _ = evLoop (ev E (spec_ShelfRead.G g) k spec_ShelfRead.H (nodeAt (bodyOf Tryd.f57) [true, true, true, false, false, false]) 120) (atMeet spec_ShelfRead.H 60) K k (mkSt [(0, .c (.s (.string a0))), (4, .c (.sl 9004)), (5, .c (.s (.int .i64 v5_0_1)))] [(9004, .row .own [.str] w9004_1)]) from by kernel_rfl).trans (spec_ShelfRead.l3r_ev g k a0 K k v5_0_1 w9004_1)
def spec_ShelfRead.b4 {R : Type} (g : spec_ShelfRead.Cs R) (k : Nat) (a0 : ByteArray) (v5_0_1 : Int) (w9004_1 : List ByteArray) (j : Int → List ByteArray → Option R) (q : Int → List ByteArray → Option R) : Option R :=
 spec_ShelfRead.l3 g k a0 v5_0_1 w9004_1 (fun v5_0_10 w9004_10 => j v5_0_10 w9004_10) (fun v3_0_11 w9002_11 => q v3_0_11 w9002_11)
theorem spec_ShelfRead.b4_ev {R : Type} (g : spec_ShelfRead.Cs R) (k : Nat) (a0 : ByteArray) (v5_0_1 : Int) (w9004_1 : List ByteArray) (K : Kont R) : ev E (spec_ShelfRead.G g) k spec_ShelfRead.H (nodeAt (bodyOf Tryd.f57) [true, true, true, false]) 30 (mkSt [(0, .c (.s (.string a0))), (4, .c (.sl 9004)), (5, .c (.s (.int .i64 v5_0_1)))] [(9004, .row .own [.str] w9004_1)]) K = spec_ShelfRead.b4 g k a0 v5_0_1 w9004_1 (fun v5_0_12 w9004_12 => K .normal (mkSt [(4, .c (.sl 9004)), (5, .c (.s (.int .i64 v5_0_12)))] [(9004, .row .own [.str] w9004_12)])) (fun v3_0_13 w9002_13 => K .ret (mkSt [(2, .c (.sl 9002)), (3, .c (.s (.int .i64 v3_0_13)))] [(9002, .row .own [.str] w9002_13)])) :=
 (show _ = ev E (spec_ShelfRead.G g) k spec_ShelfRead.H (nodeAt (bodyOf Tryd.f57) [true, true, true, false, false]) 60 (mkSt [(0, .c (.s (.string a0))), (4, .c (.sl 9004)), (5, .c (.s (.int .i64 v5_0_1)))] [(9004, .row .own [.str] w9004_1)]) (blockK 0 (fun st => K .normal (atMeet spec_ShelfRead.H 30 st)) K) from by kernel_rfl).trans ((spec_ShelfRead.l3_ev g k a0 v5_0_1 w9004_1 (blockK 0 (fun st => K .normal (atMeet spec_ShelfRead.H 30 st)) K)).trans (by kernel_rfl))
def spec_ShelfRead.s5 {R : Type} (g : spec_ShelfRead.Cs R) (k : Nat) (v5_0_12 : Int) (w9004_12 : List ByteArray) (q : Option R) : Option R :=
 q
theorem spec_ShelfRead.s5_ev {R : Type} (g : spec_ShelfRead.Cs R) (k : Nat) (v5_0_12 : Int) (w9004_12 : List ByteArray) (K : Kont R) : ev E (spec_ShelfRead.G g) k spec_ShelfRead.H (nodeAt (bodyOf Tryd.f57) [true, true, true, true]) 31 (mkSt [(4, .c (.sl 9004)), (5, .c (.s (.int .i64 v5_0_12)))] [(9004, .row .own [.str] w9004_12)]) K = spec_ShelfRead.s5 g k v5_0_12 w9004_12 (K .ret (mkSt [(2, .c (.sl 9002)), (3, .c (.s (.int .i64 v5_0_12)))] [(9002, .row .own [.str] w9004_12)])) := by kernel_rfl
def spec_ShelfRead.c6 {R : Type} (g : spec_ShelfRead.Cs R) (k : Nat) (a0 : ByteArray) (v5_0_1 : Int) (w9004_1 : List ByteArray) (q : Int → List ByteArray → Option R) : Option R :=
 spec_ShelfRead.b4 g k a0 v5_0_1 w9004_1 (fun v5_0_12 w9004_12 => spec_ShelfRead.s5 g k v5_0_12 w9004_12 (q v5_0_12 w9004_12)) (fun v3_0_13 w9002_13 => q v3_0_13 w9002_13)
theorem spec_ShelfRead.c6_ev {R : Type} (g : spec_ShelfRead.Cs R) (k : Nat) (a0 : ByteArray) (v5_0_1 : Int) (w9004_1 : List ByteArray) (K : Kont R) : ev E (spec_ShelfRead.G g) k spec_ShelfRead.H (nodeAt (bodyOf Tryd.f57) [true, true, true]) 15 (mkSt [(0, .c (.s (.string a0))), (4, .c (.sl 9004)), (5, .c (.s (.int .i64 v5_0_1)))] [(9004, .row .own [.str] w9004_1)]) K = spec_ShelfRead.c6 g k a0 v5_0_1 w9004_1 (fun v3_0_15 w9002_15 => K .ret (mkSt [(2, .c (.sl 9002)), (3, .c (.s (.int .i64 v3_0_15)))] [(9002, .row .own [.str] w9002_15)])) :=
 ((show ev E (spec_ShelfRead.G g) k spec_ShelfRead.H (nodeAt (bodyOf Tryd.f57) [true, true, true]) 15 (mkSt [(0, .c (.s (.string a0))), (4, .c (.sl 9004)), (5, .c (.s (.int .i64 v5_0_1)))] [(9004, .row .own [.str] w9004_1)]) K = ev E (spec_ShelfRead.G g) k spec_ShelfRead.H (nodeAt (bodyOf Tryd.f57) [true, true, true, false]) 30 (mkSt [(0, .c (.s (.string a0))), (4, .c (.sl 9004)), (5, .c (.s (.int .i64 v5_0_1)))] [(9004, .row .own [.str] w9004_1)]) (seqK (fun st => ev E (spec_ShelfRead.G g) k spec_ShelfRead.H (nodeAt (bodyOf Tryd.f57) [true, true, true, true]) 31 st K) K) from by kernel_rfl).trans (spec_ShelfRead.b4_ev g k a0 v5_0_1 w9004_1 (seqK (fun st => ev E (spec_ShelfRead.G g) k spec_ShelfRead.H (nodeAt (bodyOf Tryd.f57) [true, true, true, true]) 31 st K) K))).trans (congrArg (fun f_ => spec_ShelfRead.b4 g k a0 v5_0_1 w9004_1 f_ (fun v3_0_13 w9002_13 => K .ret (mkSt [(2, .c (.sl 9002)), (3, .c (.s (.int .i64 v3_0_13)))] [(9002, .row .own [.str] w9002_13)]))) (funext fun (v5_0_12 : Int) => (funext fun (w9004_12 : List ByteArray) => (spec_ShelfRead.s5_ev g k v5_0_12 w9004_12 K))))
def spec_ShelfRead.c7 {R : Type} (g : spec_ShelfRead.Cs R) (k : Nat) (a0 : ByteArray) (q : Int → List ByteArray → Option R) : Option R :=
 spec_ShelfRead.s1 g k a0 (fun v5_0_1 w9004_1 => spec_ShelfRead.c6 g k a0 v5_0_1 w9004_1 (fun v3_0_15 w9002_15 => q v3_0_15 w9002_15))
theorem spec_ShelfRead.c7_ev {R : Type} (g : spec_ShelfRead.Cs R) (k : Nat) (a0 : ByteArray) (K : Kont R) : ev E (spec_ShelfRead.G g) k spec_ShelfRead.H (nodeAt (bodyOf Tryd.f57) []) 1 (mkSt [(0, .c (.s (.string a0)))] []) K = spec_ShelfRead.c7 g k a0 (fun v3_0_16 w9002_16 => K .ret (mkSt [(2, .c (.sl 9002)), (3, .c (.s (.int .i64 v3_0_16)))] [(9002, .row .own [.str] w9002_16)])) :=
 ((show ev E (spec_ShelfRead.G g) k spec_ShelfRead.H (nodeAt (bodyOf Tryd.f57) []) 1 (mkSt [(0, .c (.s (.string a0)))] []) K = evPre E (spec_ShelfRead.G g) k spec_ShelfRead.H 3 (nodeAt (bodyOf Tryd.f57) []) 1 (mkSt [(0, .c (.s (.string a0)))] []) (fun st => ev E (spec_ShelfRead.G g) k spec_ShelfRead.H (nodeAt (bodyOf Tryd.f57) [true, true, true]) 15 st K) K from by kernel_rfl).trans (spec_ShelfRead.s1_ev g k a0 (fun st => ev E (spec_ShelfRead.G g) k spec_ShelfRead.H (nodeAt (bodyOf Tryd.f57) [true, true, true]) 15 st K) K)).trans (congrArg (fun f_ => spec_ShelfRead.s1 g k a0 f_) (funext fun (v5_0_1 : Int) => (funext fun (w9004_1 : List ByteArray) => (spec_ShelfRead.c6_ev g k a0 v5_0_1 w9004_1 K))))
def spec_ShelfRead.b {R : Type} (g : spec_ShelfRead.Cs R) (k : Nat) (a0 : ByteArray) (K : List ByteArray → Int → Option R) : Option R :=
 spec_ShelfRead.c7 g k a0 (fun v3_0_16 w9002_16 => K w9002_16 v3_0_16)
theorem spec_ShelfRead.evs {R : Type} (g : spec_ShelfRead.Cs R) (k : Nat) (a0 : ByteArray) (KF : Ret → Option R) : evFunc E (spec_ShelfRead.G g) k spec_ShelfRead.H [] false Tryd.f57 [.val false [.s (.string a0)]] KF = spec_ShelfRead.b g k a0 (fun r1 r2 => KF ⟨[.val false [.row .own [.str] r1], .val false [.s (.int .i64 r2)]], []⟩) :=
 (show _ = ev E (spec_ShelfRead.G g) k spec_ShelfRead.H (nodeAt (bodyOf Tryd.f57) []) 1 (mkSt [(0, .c (.s (.string a0)))] []) (fin E.P false Tryd.f57 [] KF) from by kernel_rfl).trans ((spec_ShelfRead.c7_ev g k a0 (fin E.P false Tryd.f57 [] KF)).trans (by kernel_rfl))
def spec_ShelfRead.g {R : Type} (k : Nat) : spec_ShelfRead.Cs R := ⟨(), spec_l11One.c k⟩
def spec_ShelfRead.c {R : Type} (k : Nat) : spec_ShelfRead.T R := spec_ShelfRead.b (spec_ShelfRead.g k) k
/-! ### spec_ShelfOk: function 25 -/
abbrev spec_ShelfOk.T (R : Type) : Type := ByteArray → Int → (Bool → Option R) → Option R
def spec_ShelfOk.con {R : Type} (f : spec_ShelfOk.T R) : Con R := ⟨[], fun args K => match args with
 | [.val true [.s (.string a0_0), .s (.int .i64 a0_1)]] => f a0_0 a0_1 (fun r1 => K ⟨[.val false [.s (.bool r1)]], []⟩)
 | _ => none⟩
structure spec_ShelfOk.Cs (R : Type) where
  none_ : Unit := ()
  f56 : spec_l6In.T R
  f57 : spec_ShelfRead.T R
def spec_ShelfOk.G {R : Type} (g : spec_ShelfOk.Cs R) : Cons R := [(56, spec_l6In.con g.f56), (57, spec_ShelfRead.con g.f57)]
def spec_ShelfOk.H : List (Nat × Meet) := []
def spec_ShelfOk.b {R : Type} (g : spec_ShelfOk.Cs R) (k : Nat) (a0_0 : ByteArray) (a0_1 : Int) (K : Bool → Option R) : Option R :=
 cond (decide ((2400 : Int) < (a0_0.size : Int))) (K false) (g.f56 a0_1 0 (a0_0.size : Int) (fun r1 => cond (!r1) (K false) (g.f57 a0_0 (fun r2 r3 => cond (decide (0 ≤ a0_1) && decide (a0_1 ≤ (a0_0.size : Int))) (g.f57 (a0_0.extract 0 a0_1.toNat) (fun r4 r5 => cond (decide (r3 = (a0_0.size : Int))) (K (decide (r5 = a0_1))) (K false))) none))))
theorem spec_ShelfOk.evs {R : Type} (g : spec_ShelfOk.Cs R) (k : Nat) (a0_0 : ByteArray) (a0_1 : Int) (KF : Ret → Option R) : evFunc E (spec_ShelfOk.G g) k spec_ShelfOk.H [] false Tryd.f25 [.val true [.s (.string a0_0), .s (.int .i64 a0_1)]] KF = spec_ShelfOk.b g k a0_0 a0_1 (fun r1 => KF ⟨[.val false [.s (.bool r1)]], []⟩) :=
 by kernel_rfl
def spec_ShelfOk.g {R : Type} (k : Nat) : spec_ShelfOk.Cs R := ⟨(), spec_l6In.c k, spec_ShelfRead.c k⟩
def spec_ShelfOk.c {R : Type} (k : Nat) : spec_ShelfOk.T R := spec_ShelfOk.b (spec_ShelfOk.g k) k
/-! ### spec_l11RecOk: function 50 -/
abbrev spec_l11RecOk.T (R : Type) : Type := ByteArray → (Bool → Option R) → Option R
def spec_l11RecOk.con {R : Type} (f : spec_l11RecOk.T R) : Con R := ⟨[], fun args K => match args with
 | [.val false [.s (.string a0)]] => f a0 (fun r1 => K ⟨[.val false [.s (.bool r1)]], []⟩)
 | _ => none⟩
structure spec_l11RecOk.Cs (R : Type) where
  none_ : Unit := ()
  f56 : spec_l6In.T R
def spec_l11RecOk.G {R : Type} (g : spec_l11RecOk.Cs R) : Cons R := [(56, spec_l6In.con g.f56)]
def spec_l11RecOk.H : List (Nat × Meet) := []
def spec_l11RecOk.b {R : Type} (g : spec_l11RecOk.Cs R) (k : Nat) (a0 : ByteArray) (K : Bool → Option R) : Option R :=
 g.f56 (a0.size : Int) 1 60 (fun r1 => K r1)
theorem spec_l11RecOk.evs {R : Type} (g : spec_l11RecOk.Cs R) (k : Nat) (a0 : ByteArray) (KF : Ret → Option R) : evFunc E (spec_l11RecOk.G g) k spec_l11RecOk.H [] false Tryd.f50 [.val false [.s (.string a0)]] KF = spec_l11RecOk.b g k a0 (fun r1 => KF ⟨[.val false [.s (.bool r1)]], []⟩) :=
 by kernel_rfl
def spec_l11RecOk.g {R : Type} (k : Nat) : spec_l11RecOk.Cs R := ⟨(), spec_l6In.c k⟩
def spec_l11RecOk.c {R : Type} (k : Nat) : spec_l11RecOk.T R := spec_l11RecOk.b (spec_l11RecOk.g k) k
/-! ### spec_l11Rec: function 51 -/
abbrev spec_l11Rec.T (R : Type) : Type := ByteArray → (ByteArray → Option R) → Option R
def spec_l11Rec.con {R : Type} (f : spec_l11Rec.T R) : Con R := ⟨[], fun args K => match args with
 | [.val false [.s (.string a0)]] => f a0 (fun r1 => K ⟨[.val false [.s (.string r1)]], []⟩)
 | _ => none⟩
structure spec_l11Rec.Cs (R : Type) where
  none_ : Unit := ()
  f68 : spec_l6Dec.T R
def spec_l11Rec.G {R : Type} (g : spec_l11Rec.Cs R) : Cons R := [(68, spec_l6Dec.con g.f68)]
def spec_l11Rec.H : List (Nat × Meet) := []
def spec_l11Rec.b {R : Type} (g : spec_l11Rec.Cs R) (k : Nat) (a0 : ByteArray) (K : ByteArray → Option R) : Option R :=
 g.f68 (a0.size : Int) (fun r1 => cond (decide (r1.size + (ByteArray.mk #[58]).size ≤ 9223372036854775807)) (cond (decide ((r1 ++ (ByteArray.mk #[58])).size + a0.size ≤ 9223372036854775807)) (cond (decide (((r1 ++ (ByteArray.mk #[58])) ++ a0).size + (ByteArray.mk #[59]).size ≤ 9223372036854775807)) (let y2 := (((r1 ++ (ByteArray.mk #[58])) ++ a0) ++ (ByteArray.mk #[59])); K y2) none) none) none)
theorem spec_l11Rec.evs {R : Type} (g : spec_l11Rec.Cs R) (k : Nat) (a0 : ByteArray) (KF : Ret → Option R) : evFunc E (spec_l11Rec.G g) k spec_l11Rec.H [] false Tryd.f51 [.val false [.s (.string a0)]] KF = spec_l11Rec.b g k a0 (fun r1 => KF ⟨[.val false [.s (.string r1)]], []⟩) :=
 by kernel_rfl
def spec_l11Rec.g {R : Type} (k : Nat) : spec_l11Rec.Cs R := ⟨(), spec_l6Dec.c k⟩
def spec_l11Rec.c {R : Type} (k : Nat) : spec_l11Rec.T R := spec_l11Rec.b (spec_l11Rec.g k) k
/-! ### spec_ShelfAdd: function 15 -/
abbrev spec_ShelfAdd.T (R : Type) : Type := ByteArray → Int → ByteArray → (ByteArray → Int → Bool → Option R) → Option R
def spec_ShelfAdd.con {R : Type} (f : spec_ShelfAdd.T R) : Con R := ⟨[], fun args K => match args with
 | [.val true [.s (.string a0_0), .s (.int .i64 a0_1)], .val false [.s (.string a1)]] => f a0_0 a0_1 a1 (fun r1 r2 r3 => K ⟨[.val true [.s (.string r1), .s (.int .i64 r2)], .val false [.s (.bool r3)]], []⟩)
 | _ => none⟩
structure spec_ShelfAdd.Cs (R : Type) where
  none_ : Unit := ()
  f25 : spec_ShelfOk.T R
  f50 : spec_l11RecOk.T R
  f51 : spec_l11Rec.T R
def spec_ShelfAdd.G {R : Type} (g : spec_ShelfAdd.Cs R) : Cons R := [(25, spec_ShelfOk.con g.f25), (50, spec_l11RecOk.con g.f50), (51, spec_l11Rec.con g.f51)]
def spec_ShelfAdd.H : List (Nat × Meet) := []
def spec_ShelfAdd.b {R : Type} (g : spec_ShelfAdd.Cs R) (k : Nat) (a0_0 : ByteArray) (a0_1 : Int) (a1 : ByteArray) (K : ByteArray → Int → Bool → Option R) : Option R :=
 g.f25 a0_0 a0_1 (fun r1 => cond (!r1) (K (ByteArray.mk #[]) 0 false) (g.f50 a1 (fun r2 => cond (!r2) (K a0_0 a0_1 false) (g.f51 a1 (fun r3 => let y4 := (IntKind.wrap .i64 ((a0_0.size : Int) + (r3.size : Int))); cond (decide ((2400 : Int) < y4)) (K a0_0 a0_1 false) (g.f51 a1 (fun r5 => cond (decide (a0_0.size + r5.size ≤ 9223372036854775807)) (K (a0_0 ++ r5) a0_1 true) none)))))))
theorem spec_ShelfAdd.evs {R : Type} (g : spec_ShelfAdd.Cs R) (k : Nat) (a0_0 : ByteArray) (a0_1 : Int) (a1 : ByteArray) (KF : Ret → Option R) : evFunc E (spec_ShelfAdd.G g) k spec_ShelfAdd.H [] false Tryd.f15 [.val true [.s (.string a0_0), .s (.int .i64 a0_1)], .val false [.s (.string a1)]] KF = spec_ShelfAdd.b g k a0_0 a0_1 a1 (fun r1 r2 r3 => KF ⟨[.val true [.s (.string r1), .s (.int .i64 r2)], .val false [.s (.bool r3)]], []⟩) :=
 by kernel_rfl
def spec_ShelfAdd.g {R : Type} (k : Nat) : spec_ShelfAdd.Cs R := ⟨(), spec_ShelfOk.c k, spec_l11RecOk.c k, spec_l11Rec.c k⟩
def spec_ShelfAdd.c {R : Type} (k : Nat) : spec_ShelfAdd.T R := spec_ShelfAdd.b (spec_ShelfAdd.g k) k
/-! ### laws_toShelf: function 16 -/
abbrev laws_toShelf.T (R : Type) : Type := ByteArray → Int → (ByteArray → Int → Option R) → Option R
def laws_toShelf.con {R : Type} (f : laws_toShelf.T R) : Con R := ⟨[], fun args K => match args with
 | [.val true [.s (.string a0_0), .s (.int .i64 a0_1)]] => f a0_0 a0_1 (fun r1 r2 => K ⟨[.val true [.s (.string r1), .s (.int .i64 r2)]], []⟩)
 | _ => none⟩
structure laws_toShelf.Cs (R : Type) where
  none_ : Unit := ()
def laws_toShelf.G {R : Type} (g : laws_toShelf.Cs R) : Cons R := []
def laws_toShelf.H : List (Nat × Meet) := []
def laws_toShelf.b {R : Type} (g : laws_toShelf.Cs R) (k : Nat) (a0_0 : ByteArray) (a0_1 : Int) (K : ByteArray → Int → Option R) : Option R :=
 K a0_0 a0_1
theorem laws_toShelf.evs {R : Type} (g : laws_toShelf.Cs R) (k : Nat) (a0_0 : ByteArray) (a0_1 : Int) (KF : Ret → Option R) : evFunc E (laws_toShelf.G g) k laws_toShelf.H [] false Tryd.f16 [.val true [.s (.string a0_0), .s (.int .i64 a0_1)]] KF = laws_toShelf.b g k a0_0 a0_1 (fun r1 r2 => KF ⟨[.val true [.s (.string r1), .s (.int .i64 r2)]], []⟩) :=
 by kernel_rfl
def laws_toShelf.g {R : Type} (k : Nat) : laws_toShelf.Cs R := ⟨()⟩
def laws_toShelf.c {R : Type} (k : Nat) : laws_toShelf.T R := laws_toShelf.b (laws_toShelf.g k) k
/-! ### impl_in: function 60 -/
abbrev impl_in.T (R : Type) : Type := Int → Int → Int → (Bool → Option R) → Option R
def impl_in.con {R : Type} (f : impl_in.T R) : Con R := ⟨[], fun args K => match args with
 | [.val false [.s (.int .i64 a0)], .val false [.s (.int .i64 a1)], .val false [.s (.int .i64 a2)]] => f a0 a1 a2 (fun r1 => K ⟨[.val false [.s (.bool r1)]], []⟩)
 | _ => none⟩
structure impl_in.Cs (R : Type) where
  none_ : Unit := ()
def impl_in.G {R : Type} (g : impl_in.Cs R) : Cons R := []
def impl_in.H : List (Nat × Meet) := []
def impl_in.b {R : Type} (g : impl_in.Cs R) (k : Nat) (a0 : Int) (a1 : Int) (a2 : Int) (K : Bool → Option R) : Option R :=
 cond (decide (a1 ≤ a0)) (K (decide (a0 ≤ a2))) (K false)
theorem impl_in.evs {R : Type} (g : impl_in.Cs R) (k : Nat) (a0 : Int) (a1 : Int) (a2 : Int) (KF : Ret → Option R) : evFunc E (impl_in.G g) k impl_in.H [] false Tryd.f60 [.val false [.s (.int .i64 a0)], .val false [.s (.int .i64 a1)], .val false [.s (.int .i64 a2)]] KF = impl_in.b g k a0 a1 a2 (fun r1 => KF ⟨[.val false [.s (.bool r1)]], []⟩) :=
 by kernel_rfl
def impl_in.g {R : Type} (k : Nat) : impl_in.Cs R := ⟨()⟩
def impl_in.c {R : Type} (k : Nat) : impl_in.T R := impl_in.b (impl_in.g k) k
/-! ### impl_natural: function 59 -/
abbrev impl_natural.T (R : Type) : Type := ByteArray → (Int → Bool → Option R) → Option R
def impl_natural.con {R : Type} (f : impl_natural.T R) : Con R := ⟨[], fun args K => match args with
 | [.val false [.s (.string a0)]] => f a0 (fun r1 r2 => K ⟨[.val false [.s (.int .i64 r1)], .val false [.s (.bool r2)]], []⟩)
 | _ => none⟩
structure impl_natural.Cs (R : Type) where
  none_ : Unit := ()
  f60 : impl_in.T R
def impl_natural.G {R : Type} (g : impl_natural.Cs R) : Cons R := [(60, impl_in.con g.f60)]
def impl_natural.H : List (Nat × Meet) := [(13, ⟨[(0, [])], []⟩), (14, ⟨[(0, []), (4, [])], []⟩), (53, ⟨[(2, []), (3, [])], []⟩), (60, ⟨[(0, []), (4, []), (5, [])], []⟩), (63, ⟨[(2, []), (3, [])], []⟩), (122, ⟨[(0, []), (4, []), (5, [])], []⟩), (979, ⟨[(0, []), (4, []), (5, [])], []⟩), (1955, ⟨[(4, [])], []⟩), (31301, ⟨[(2, []), (3, [])], []⟩)]
def impl_natural.s1 {R : Type} (g : impl_natural.Cs R) (k : Nat) (a0 : ByteArray) (j : Option R) (q : Int → Bool → Option R) : Option R :=
 g.f60 (a0.size : Int) 1 5 (fun r1 => cond (!r1) (q 0 false) (cond (decide (0 ≤ (0 : Int)) && decide ((0 : Int) < (a0.size : Int))) (cond (decide ((byteAt a0 0) = 48)) (cond (decide ((1 : Int) < (a0.size : Int))) (q 0 false) (j)) (j)) none))
theorem impl_natural.s1_ev {R : Type} (g : impl_natural.Cs R) (k : Nat) (a0 : ByteArray) (X : St → Option R) (K : Kont R) : evPre E (impl_natural.G g) k impl_natural.H 2 (nodeAt (bodyOf Tryd.f59) []) 1 (mkSt [(0, .c (.s (.string a0)))] []) X K = impl_natural.s1 g k a0 (X (mkSt [(0, .c (.s (.string a0)))] [])) (fun v2_0_2 v3_0_2 => K .ret (mkSt [(2, .c (.s (.int .i64 v2_0_2))), (3, .c (.s (.bool v3_0_2)))] [])) := by kernel_rfl
def impl_natural.s2 {R : Type} (g : impl_natural.Cs R) (k : Nat) (a0 : ByteArray) (j : Int → Option R) : Option R :=
 j 0
theorem impl_natural.s2_ev {R : Type} (g : impl_natural.Cs R) (k : Nat) (a0 : ByteArray) (X : St → Option R) (K : Kont R) : evPre E (impl_natural.G g) k impl_natural.H 1 (nodeAt (bodyOf Tryd.f59) [true, true]) 7 (mkSt [(0, .c (.s (.string a0)))] []) X K = impl_natural.s2 g k a0 (fun v4_0_3 => X (mkSt [(0, .c (.s (.string a0))), (4, .c (.s (.int .i64 v4_0_3)))] [])) := by kernel_rfl
def impl_natural.s3 {R : Type} (g : impl_natural.Cs R) (k : Nat) (a0 : ByteArray) (v4_0_3 : Int) (j : Int → Option R) : Option R :=
 j 0
theorem impl_natural.s3_ev {R : Type} (g : impl_natural.Cs R) (k : Nat) (a0 : ByteArray) (v4_0_3 : Int) (X : St → Option R) (K : Kont R) : evPre E (impl_natural.G g) k impl_natural.H 1 (nodeAt (bodyOf Tryd.f59) [true, true, true, false]) 30 (mkSt [(0, .c (.s (.string a0))), (4, .c (.s (.int .i64 v4_0_3)))] []) X K = impl_natural.s3 g k a0 v4_0_3 (fun v5_0_4 => X (mkSt [(0, .c (.s (.string a0))), (4, .c (.s (.int .i64 v4_0_3))), (5, .c (.s (.int .i64 v5_0_4)))] [])) := by kernel_rfl
def impl_natural.s4 {R : Type} (g : impl_natural.Cs R) (k : Nat) (a0 : ByteArray) (v4_0_9 : Int) (v5_0_9 : Int) (j : Int → Int → Option R) (x0 : Option R) (q : Int → Bool → Option R) : Option R :=
 cond (decide (v5_0_9 < (a0.size : Int))) (cond (decide (0 ≤ v5_0_9) && decide (v5_0_9 < (a0.size : Int))) (g.f60 (IntKind.wrap .i64 ((byteAt a0 v5_0_9.toNat))) 48 57 (fun r1 => cond (!r1) (q 0 false) (cond (decide (0 ≤ v5_0_9) && decide (v5_0_9 < (a0.size : Int))) (let y2 := (IntKind.wrap .u8 ((byteAt a0 v5_0_9.toNat) - 48)); let y3 := (IntKind.wrap .i64 ((IntKind.wrap .i64 ((10 : Int) * v4_0_9)) + (IntKind.wrap .i64 (y2)))); j y3 (IntKind.wrap .i64 (v5_0_9 + 1))) none))) none) (x0)
theorem impl_natural.s4_ev {R : Type} (g : impl_natural.Cs R) (k : Nat) (a0 : ByteArray) (v4_0_9 : Int) (v5_0_9 : Int) (K : Kont R) : ev E (impl_natural.G g) k impl_natural.H (nodeAt (bodyOf Tryd.f59) [true, true, true, false, true, false, false]) 244 (mkSt [(0, .c (.s (.string a0))), (4, .c (.s (.int .i64 v4_0_9))), (5, .c (.s (.int .i64 v5_0_9)))] []) K = impl_natural.s4 g k a0 v4_0_9 v5_0_9 (fun v4_0_10 v5_0_10 => K .normal (mkSt [(0, .c (.s (.string a0))), (4, .c (.s (.int .i64 v4_0_10))), (5, .c (.s (.int .i64 v5_0_10)))] [])) (K (.exit 0) (mkSt [(4, .c (.s (.int .i64 v4_0_9)))] [])) (fun v2_0_12 v3_0_12 => K .ret (mkSt [(2, .c (.s (.int .i64 v2_0_12))), (3, .c (.s (.bool v3_0_12)))] [])) := by kernel_rfl
def impl_natural.l5r {R : Type} (g : impl_natural.Cs R) (k : Nat) (a0 : ByteArray) (x0 : Int → Option R) (q : Int → Bool → Option R) : Nat → Int → Int → Option R
 | 0, _, _ => none
 | n + 1, v4_0_9, v5_0_9 => impl_natural.s4 g k a0 v4_0_9 v5_0_9 (fun v4_0_10 v5_0_10 => impl_natural.l5r g k a0 x0 q n v4_0_10 v5_0_10) (x0 v4_0_9) (fun v2_0_12 v3_0_12 => q v2_0_12 v3_0_12)
def impl_natural.l5 {R : Type} (g : impl_natural.Cs R) (k : Nat) (a0 : ByteArray) (v4_0_3 : Int) (v5_0_4 : Int) (x0 : Int → Option R) (q : Int → Bool → Option R) : Option R := impl_natural.l5r g k a0 x0 q k v4_0_3 v5_0_4
theorem impl_natural.l5r_ev {R : Type} (g : impl_natural.Cs R) (k : Nat) (a0 : ByteArray) (K : Kont R) : ∀ (n : Nat) (v4_0_9 : Int) (v5_0_9 : Int), evLoop (ev E (impl_natural.G g) k impl_natural.H (nodeAt (bodyOf Tryd.f59) [true, true, true, false, true, false, false]) 244) (atMeet impl_natural.H 122) K n (mkSt [(0, .c (.s (.string a0))), (4, .c (.s (.int .i64 v4_0_9))), (5, .c (.s (.int .i64 v5_0_9)))] []) = impl_natural.l5r g k a0 (fun v4_0_13 => K (.exit 0) (mkSt [(4, .c (.s (.int .i64 v4_0_13)))] [])) (fun v2_0_14 v3_0_14 => K .ret (mkSt [(2, .c (.s (.int .i64 v2_0_14))), (3, .c (.s (.bool v3_0_14)))] [])) n v4_0_9 v5_0_9 := by
 intro n
 induction n with
 | zero => intros; rfl
 | succ n ih =>
  intro v4_0_9 v5_0_9
  exact (show _ = (ev E (impl_natural.G g) k impl_natural.H (nodeAt (bodyOf Tryd.f59) [true, true, true, false, true, false, false]) 244) (mkSt [(0, .c (.s (.string a0))), (4, .c (.s (.int .i64 v4_0_9))), (5, .c (.s (.int .i64 v5_0_9)))] []) (loopK (ev E (impl_natural.G g) k impl_natural.H (nodeAt (bodyOf Tryd.f59) [true, true, true, false, true, false, false]) 244) (atMeet impl_natural.H 122) K n) from by kernel_rfl).trans ((impl_natural.s4_ev g k a0 v4_0_9 v5_0_9 (loopK (ev E (impl_natural.G g) k impl_natural.H (nodeAt (bodyOf Tryd.f59) [true, true, true, false, true, false, false]) 244) (atMeet impl_natural.H 122) K n)).trans ((show _ = impl_natural.s4 g k a0 v4_0_9 v5_0_9 (fun v4_0_10 v5_0_10 => evLoop (ev E (impl_natural.G g) k impl_natural.H (nodeAt (bodyOf Tryd.f59) [true, true, true, false, true, false, false]) 244) (atMeet impl_natural.H 122) K n (mkSt [(0, .c (.s (.string a0))), (4, .c (.s (.int .i64 v4_0_10))), (5, .c (.s (.int .i64 v5_0_10)))] [])) (K (.exit 0) (mkSt [(4, .c (.s (.int .i64 v4_0_9)))] [])) (fun v2_0_12 v3_0_12 => K .ret (mkSt [(2, .c (.s (.int .i64 v2_0_12))), (3, .c (.s (.bool v3_0_12)))] [])) from by kernel_rfl).trans (congrArg (fun f_ => impl_natural.s4 g k a0 v4_0_9 v5_0_9 f_ (K (.exit 0) (mkSt [(4, .c (.s (.int .i64 v4_0_9)))] [])) (fun v2_0_12 v3_0_12 => K .ret (mkSt [(2, .c (.s (.int .i64 v2_0_12))), (3, .c (.s (.bool v3_0_12)))] []))) (funext fun (v4_0_10 : Int) => (funext fun (v5_0_10 : Int) => (ih v4_0_10 v5_0_10))))))
theorem impl_natural.l5_ev {R : Type} (g : impl_natural.Cs R) (k : Nat) (a0 : ByteArray) (v4_0_3 : Int) (v5_0_4 : Int) (K : Kont R) : ev E (impl_natural.G g) k impl_natural.H (nodeAt (bodyOf Tryd.f59) [true, true, true, false, true, false]) 122 (mkSt [(0, .c (.s (.string a0))), (4, .c (.s (.int .i64 v4_0_3))), (5, .c (.s (.int .i64 v5_0_4)))] []) K = impl_natural.l5 g k a0 v4_0_3 v5_0_4 (fun v4_0_13 => K (.exit 0) (mkSt [(4, .c (.s (.int .i64 v4_0_13)))] [])) (fun v2_0_14 v3_0_14 => K .ret (mkSt [(2, .c (.s (.int .i64 v2_0_14))), (3, .c (.s (.bool v3_0_14)))] [])) :=
 (show _ = evLoop (ev E (impl_natural.G g) k impl_natural.H (nodeAt (bodyOf Tryd.f59) [true, true, true, false, true, false, false]) 244) (atMeet impl_natural.H 122) K k (mkSt [(0, .c (.s (.string a0))), (4, .c (.s (.int .i64 v4_0_3))), (5, .c (.s (.int .i64 v5_0_4)))] []) from by kernel_rfl).trans (impl_natural.l5r_ev g k a0 K k v4_0_3 v5_0_4)
def impl_natural.b6 {R : Type} (g : impl_natural.Cs R) (k : Nat) (a0 : ByteArray) (v4_0_3 : Int) (v5_0_4 : Int) (j : Int → Option R) (q : Int → Bool → Option R) : Option R :=
 impl_natural.l5 g k a0 v4_0_3 v5_0_4 (fun v4_0_13 => j v4_0_13) (fun v2_0_14 v3_0_14 => q v2_0_14 v3_0_14)
theorem impl_natural.b6_ev {R : Type} (g : impl_natural.Cs R) (k : Nat) (a0 : ByteArray) (v4_0_3 : Int) (v5_0_4 : Int) (K : Kont R) : ev E (impl_natural.G g) k impl_natural.H (nodeAt (bodyOf Tryd.f59) [true, true, true, false, true]) 61 (mkSt [(0, .c (.s (.string a0))), (4, .c (.s (.int .i64 v4_0_3))), (5, .c (.s (.int .i64 v5_0_4)))] []) K = impl_natural.b6 g k a0 v4_0_3 v5_0_4 (fun v4_0_15 => K .normal (mkSt [(4, .c (.s (.int .i64 v4_0_15)))] [])) (fun v2_0_16 v3_0_16 => K .ret (mkSt [(2, .c (.s (.int .i64 v2_0_16))), (3, .c (.s (.bool v3_0_16)))] [])) :=
 (show _ = ev E (impl_natural.G g) k impl_natural.H (nodeAt (bodyOf Tryd.f59) [true, true, true, false, true, false]) 122 (mkSt [(0, .c (.s (.string a0))), (4, .c (.s (.int .i64 v4_0_3))), (5, .c (.s (.int .i64 v5_0_4)))] []) (blockK 0 (fun st => K .normal (atMeet impl_natural.H 61 st)) K) from by kernel_rfl).trans ((impl_natural.l5_ev g k a0 v4_0_3 v5_0_4 (blockK 0 (fun st => K .normal (atMeet impl_natural.H 61 st)) K)).trans (by kernel_rfl))
def impl_natural.c7 {R : Type} (g : impl_natural.Cs R) (k : Nat) (a0 : ByteArray) (v4_0_3 : Int) (j : Int → Option R) (q : Int → Bool → Option R) : Option R :=
 impl_natural.s3 g k a0 v4_0_3 (fun v5_0_4 => impl_natural.b6 g k a0 v4_0_3 v5_0_4 (fun v4_0_15 => j v4_0_15) (fun v2_0_16 v3_0_16 => q v2_0_16 v3_0_16))
theorem impl_natural.c7_ev {R : Type} (g : impl_natural.Cs R) (k : Nat) (a0 : ByteArray) (v4_0_3 : Int) (K : Kont R) : ev E (impl_natural.G g) k impl_natural.H (nodeAt (bodyOf Tryd.f59) [true, true, true, false]) 30 (mkSt [(0, .c (.s (.string a0))), (4, .c (.s (.int .i64 v4_0_3)))] []) K = impl_natural.c7 g k a0 v4_0_3 (fun v4_0_17 => K .normal (mkSt [(4, .c (.s (.int .i64 v4_0_17)))] [])) (fun v2_0_18 v3_0_18 => K .ret (mkSt [(2, .c (.s (.int .i64 v2_0_18))), (3, .c (.s (.bool v3_0_18)))] [])) :=
 ((show ev E (impl_natural.G g) k impl_natural.H (nodeAt (bodyOf Tryd.f59) [true, true, true, false]) 30 (mkSt [(0, .c (.s (.string a0))), (4, .c (.s (.int .i64 v4_0_3)))] []) K = evPre E (impl_natural.G g) k impl_natural.H 1 (nodeAt (bodyOf Tryd.f59) [true, true, true, false]) 30 (mkSt [(0, .c (.s (.string a0))), (4, .c (.s (.int .i64 v4_0_3)))] []) (fun st => ev E (impl_natural.G g) k impl_natural.H (nodeAt (bodyOf Tryd.f59) [true, true, true, false, true]) 61 st K) K from by kernel_rfl).trans (impl_natural.s3_ev g k a0 v4_0_3 (fun st => ev E (impl_natural.G g) k impl_natural.H (nodeAt (bodyOf Tryd.f59) [true, true, true, false, true]) 61 st K) K)).trans (congrArg (fun f_ => impl_natural.s3 g k a0 v4_0_3 f_) (funext fun (v5_0_4 : Int) => (impl_natural.b6_ev g k a0 v4_0_3 v5_0_4 K)))
def impl_natural.s8 {R : Type} (g : impl_natural.Cs R) (k : Nat) (v4_0_17 : Int) (q : Bool → Option R) : Option R :=
 q true
theorem impl_natural.s8_ev {R : Type} (g : impl_natural.Cs R) (k : Nat) (v4_0_17 : Int) (K : Kont R) : ev E (impl_natural.G g) k impl_natural.H (nodeAt (bodyOf Tryd.f59) [true, true, true, true]) 31 (mkSt [(4, .c (.s (.int .i64 v4_0_17)))] []) K = impl_natural.s8 g k v4_0_17 (fun v3_0_19 => K .ret (mkSt [(2, .c (.s (.int .i64 v4_0_17))), (3, .c (.s (.bool v3_0_19)))] [])) := by kernel_rfl
def impl_natural.c9 {R : Type} (g : impl_natural.Cs R) (k : Nat) (a0 : ByteArray) (v4_0_3 : Int) (q : Int → Bool → Option R) : Option R :=
 impl_natural.c7 g k a0 v4_0_3 (fun v4_0_17 => impl_natural.s8 g k v4_0_17 (fun v3_0_19 => q v4_0_17 v3_0_19)) (fun v2_0_18 v3_0_18 => q v2_0_18 v3_0_18)
theorem impl_natural.c9_ev {R : Type} (g : impl_natural.Cs R) (k : Nat) (a0 : ByteArray) (v4_0_3 : Int) (K : Kont R) : ev E (impl_natural.G g) k impl_natural.H (nodeAt (bodyOf Tryd.f59) [true, true, true]) 15 (mkSt [(0, .c (.s (.string a0))), (4, .c (.s (.int .i64 v4_0_3)))] []) K = impl_natural.c9 g k a0 v4_0_3 (fun v2_0_20 v3_0_20 => K .ret (mkSt [(2, .c (.s (.int .i64 v2_0_20))), (3, .c (.s (.bool v3_0_20)))] [])) :=
 ((show ev E (impl_natural.G g) k impl_natural.H (nodeAt (bodyOf Tryd.f59) [true, true, true]) 15 (mkSt [(0, .c (.s (.string a0))), (4, .c (.s (.int .i64 v4_0_3)))] []) K = ev E (impl_natural.G g) k impl_natural.H (nodeAt (bodyOf Tryd.f59) [true, true, true, false]) 30 (mkSt [(0, .c (.s (.string a0))), (4, .c (.s (.int .i64 v4_0_3)))] []) (seqK (fun st => ev E (impl_natural.G g) k impl_natural.H (nodeAt (bodyOf Tryd.f59) [true, true, true, true]) 31 st K) K) from by kernel_rfl).trans (impl_natural.c7_ev g k a0 v4_0_3 (seqK (fun st => ev E (impl_natural.G g) k impl_natural.H (nodeAt (bodyOf Tryd.f59) [true, true, true, true]) 31 st K) K))).trans (congrArg (fun f_ => impl_natural.c7 g k a0 v4_0_3 f_ (fun v2_0_18 v3_0_18 => K .ret (mkSt [(2, .c (.s (.int .i64 v2_0_18))), (3, .c (.s (.bool v3_0_18)))] []))) (funext fun (v4_0_17 : Int) => (impl_natural.s8_ev g k v4_0_17 K)))
def impl_natural.c10 {R : Type} (g : impl_natural.Cs R) (k : Nat) (a0 : ByteArray) (q : Int → Bool → Option R) : Option R :=
 impl_natural.s2 g k a0 (fun v4_0_3 => impl_natural.c9 g k a0 v4_0_3 (fun v2_0_20 v3_0_20 => q v2_0_20 v3_0_20))
theorem impl_natural.c10_ev {R : Type} (g : impl_natural.Cs R) (k : Nat) (a0 : ByteArray) (K : Kont R) : ev E (impl_natural.G g) k impl_natural.H (nodeAt (bodyOf Tryd.f59) [true, true]) 7 (mkSt [(0, .c (.s (.string a0)))] []) K = impl_natural.c10 g k a0 (fun v2_0_21 v3_0_21 => K .ret (mkSt [(2, .c (.s (.int .i64 v2_0_21))), (3, .c (.s (.bool v3_0_21)))] [])) :=
 ((show ev E (impl_natural.G g) k impl_natural.H (nodeAt (bodyOf Tryd.f59) [true, true]) 7 (mkSt [(0, .c (.s (.string a0)))] []) K = evPre E (impl_natural.G g) k impl_natural.H 1 (nodeAt (bodyOf Tryd.f59) [true, true]) 7 (mkSt [(0, .c (.s (.string a0)))] []) (fun st => ev E (impl_natural.G g) k impl_natural.H (nodeAt (bodyOf Tryd.f59) [true, true, true]) 15 st K) K from by kernel_rfl).trans (impl_natural.s2_ev g k a0 (fun st => ev E (impl_natural.G g) k impl_natural.H (nodeAt (bodyOf Tryd.f59) [true, true, true]) 15 st K) K)).trans (congrArg (fun f_ => impl_natural.s2 g k a0 f_) (funext fun (v4_0_3 : Int) => (impl_natural.c9_ev g k a0 v4_0_3 K)))
def impl_natural.c11 {R : Type} (g : impl_natural.Cs R) (k : Nat) (a0 : ByteArray) (q : Int → Bool → Option R) : Option R :=
 impl_natural.s1 g k a0 (impl_natural.c10 g k a0 (fun v2_0_21 v3_0_21 => q v2_0_21 v3_0_21)) (fun v2_0_2 v3_0_2 => q v2_0_2 v3_0_2)
theorem impl_natural.c11_ev {R : Type} (g : impl_natural.Cs R) (k : Nat) (a0 : ByteArray) (K : Kont R) : ev E (impl_natural.G g) k impl_natural.H (nodeAt (bodyOf Tryd.f59) []) 1 (mkSt [(0, .c (.s (.string a0)))] []) K = impl_natural.c11 g k a0 (fun v2_0_22 v3_0_22 => K .ret (mkSt [(2, .c (.s (.int .i64 v2_0_22))), (3, .c (.s (.bool v3_0_22)))] [])) :=
 ((show ev E (impl_natural.G g) k impl_natural.H (nodeAt (bodyOf Tryd.f59) []) 1 (mkSt [(0, .c (.s (.string a0)))] []) K = evPre E (impl_natural.G g) k impl_natural.H 2 (nodeAt (bodyOf Tryd.f59) []) 1 (mkSt [(0, .c (.s (.string a0)))] []) (fun st => ev E (impl_natural.G g) k impl_natural.H (nodeAt (bodyOf Tryd.f59) [true, true]) 7 st K) K from by kernel_rfl).trans (impl_natural.s1_ev g k a0 (fun st => ev E (impl_natural.G g) k impl_natural.H (nodeAt (bodyOf Tryd.f59) [true, true]) 7 st K) K)).trans (congrArg (fun f_ => impl_natural.s1 g k a0 f_ (fun v2_0_2 v3_0_2 => K .ret (mkSt [(2, .c (.s (.int .i64 v2_0_2))), (3, .c (.s (.bool v3_0_2)))] []))) (impl_natural.c10_ev g k a0 K))
def impl_natural.b {R : Type} (g : impl_natural.Cs R) (k : Nat) (a0 : ByteArray) (K : Int → Bool → Option R) : Option R :=
 impl_natural.c11 g k a0 (fun v2_0_22 v3_0_22 => K v2_0_22 v3_0_22)
theorem impl_natural.evs {R : Type} (g : impl_natural.Cs R) (k : Nat) (a0 : ByteArray) (KF : Ret → Option R) : evFunc E (impl_natural.G g) k impl_natural.H [] false Tryd.f59 [.val false [.s (.string a0)]] KF = impl_natural.b g k a0 (fun r1 r2 => KF ⟨[.val false [.s (.int .i64 r1)], .val false [.s (.bool r2)]], []⟩) :=
 (show _ = ev E (impl_natural.G g) k impl_natural.H (nodeAt (bodyOf Tryd.f59) []) 1 (mkSt [(0, .c (.s (.string a0)))] []) (fin E.P false Tryd.f59 [] KF) from by kernel_rfl).trans ((impl_natural.c11_ev g k a0 (fin E.P false Tryd.f59 [] KF)).trans (by kernel_rfl))
def impl_natural.g {R : Type} (k : Nat) : impl_natural.Cs R := ⟨(), impl_in.c k⟩
def impl_natural.c {R : Type} (k : Nat) : impl_natural.T R := impl_natural.b (impl_natural.g k) k
/-! ### impl_copied_string: function 61 -/
abbrev impl_copied_string.T (R : Type) : Type := List ByteArray → (List ByteArray → Option R) → Option R
def impl_copied_string.con {R : Type} (f : impl_copied_string.T R) : Con R := ⟨[], fun args K => match args with
 | [.val false [pa0]] => withRow [.str] pa0 fun a0 => f a0 (fun r1 => K ⟨[.val false [.row .own [.str] r1]], []⟩)
 | _ => none⟩
structure impl_copied_string.Cs (R : Type) where
  none_ : Unit := ()
def impl_copied_string.G {R : Type} (g : impl_copied_string.Cs R) : Cons R := []
def impl_copied_string.H : List (Nat × Meet) := []
def impl_copied_string.b {R : Type} (g : impl_copied_string.Cs R) (k : Nat) (a0 : List ByteArray) (K : List ByteArray → Option R) : Option R :=
 cond (decide ((a0.length : Int) = 0)) (K []) (cond (decide (0 ≤ (a0.length : Int)) && decide ((a0.length : Int) = (a0.length : Int)) && Nat.ble ((a0.length : Int).toNat) lim) (let y1 := (List.replicate ((a0.length : Int).toNat) ByteArray.empty); K (a0.take y1.length ++ y1.drop a0.length)) none)
theorem impl_copied_string.evs {R : Type} (g : impl_copied_string.Cs R) (k : Nat) (a0 : List ByteArray) (KF : Ret → Option R) : evFunc E (impl_copied_string.G g) k impl_copied_string.H [] false Tryd.f61 [.val false [.row .ro [.str] a0]] KF = impl_copied_string.b g k a0 (fun r1 => KF ⟨[.val false [.row .own [.str] r1]], []⟩) :=
 by kernel_rfl
def impl_copied_string.g {R : Type} (k : Nat) : impl_copied_string.Cs R := ⟨()⟩
def impl_copied_string.c {R : Type} (k : Nat) : impl_copied_string.T R := impl_copied_string.b (impl_copied_string.g k) k
/-! ### impl_ShelfRead: function 27 -/
abbrev impl_ShelfRead.T (R : Type) : Type := ByteArray → (List ByteArray → Int → Option R) → Option R
def impl_ShelfRead.con {R : Type} (f : impl_ShelfRead.T R) : Con R := ⟨[], fun args K => match args with
 | [.val false [.s (.string a0)]] => f a0 (fun r1 r2 => K ⟨[.val false [.row .own [.str] r1], .val false [.s (.int .i64 r2)]], []⟩)
 | _ => none⟩
structure impl_ShelfRead.Cs (R : Type) where
  none_ : Unit := ()
  f59 : impl_natural.T R
  f60 : impl_in.T R
  f61 : impl_copied_string.T R
def impl_ShelfRead.G {R : Type} (g : impl_ShelfRead.Cs R) : Cons R := [(59, impl_natural.con g.f59), (60, impl_in.con g.f60), (61, impl_copied_string.con g.f61)]
def impl_ShelfRead.H : List (Nat × Meet) := [(14, ⟨[(0, []), (4, [(0, [.str])]), (5, [])], []⟩), (60, ⟨[(0, []), (4, [(0, [.str])]), (5, [])], []⟩), (63, ⟨[(2, [(0, [.str])]), (3, [])], []⟩), (481, ⟨[(0, []), (4, [(0, [.str])]), (5, [])], []⟩), (963, ⟨[(4, [(0, [.str])]), (5, [])], []⟩), (964, ⟨[(0, []), (4, [(0, [.str])]), (5, []), (6, [])], []⟩), (3860, ⟨[(0, []), (4, [(0, [.str])]), (5, []), (6, [])], []⟩), (15441, ⟨[(0, []), (4, [(0, [.str])]), (5, []), (6, [])], []⟩), (15450, ⟨[(4, [(0, [.str])]), (5, [])], []⟩), (61763, ⟨[(0, []), (4, [(0, [.str])]), (5, []), (6, [])], []⟩), (61823, ⟨[(0, []), (4, [(0, [.str])]), (5, [])], []⟩), (123642, ⟨[(4, [(0, [.str])]), (5, [])], []⟩)]
def impl_ShelfRead.s1 {R : Type} (g : impl_ShelfRead.Cs R) (k : Nat) (a0 : ByteArray) (j : Int → List ByteArray → Option R) : Option R :=
 j 0 []
theorem impl_ShelfRead.s1_ev {R : Type} (g : impl_ShelfRead.Cs R) (k : Nat) (a0 : ByteArray) (X : St → Option R) (K : Kont R) : evPre E (impl_ShelfRead.G g) k impl_ShelfRead.H 3 (nodeAt (bodyOf Tryd.f27) []) 1 (mkSt [(0, .c (.s (.string a0)))] []) X K = impl_ShelfRead.s1 g k a0 (fun v5_0_1 w9004_1 => X (mkSt [(0, .c (.s (.string a0))), (4, .c (.sl 9004)), (5, .c (.s (.int .i64 v5_0_1)))] [(9004, .row .own [.str] w9004_1)])) := by kernel_rfl
def impl_ShelfRead.s2 {R : Type} (g : impl_ShelfRead.Cs R) (k : Nat) (a0 : ByteArray) (v5_0_24 : Int) (w9004_24 : List ByteArray) (j : Option R) (x0 : Option R) : Option R :=
 cond (decide (v5_0_24 < (a0.size : Int))) (j) (x0)
theorem impl_ShelfRead.s2_ev {R : Type} (g : impl_ShelfRead.Cs R) (k : Nat) (a0 : ByteArray) (v5_0_24 : Int) (w9004_24 : List ByteArray) (X : St → Option R) (K : Kont R) : evPre E (impl_ShelfRead.G g) k impl_ShelfRead.H 1 (nodeAt (bodyOf Tryd.f27) [true, true, true, false, false, false]) 120 (mkSt [(0, .c (.s (.string a0))), (4, .c (.sl 9004)), (5, .c (.s (.int .i64 v5_0_24)))] [(9004, .row .own [.str] w9004_24)]) X K = impl_ShelfRead.s2 g k a0 v5_0_24 w9004_24 (X (mkSt [(0, .c (.s (.string a0))), (4, .c (.sl 9004)), (5, .c (.s (.int .i64 v5_0_24)))] [(9004, .row .own [.str] w9004_24)])) (K (.exit 0) (mkSt [(4, .c (.sl 9004)), (5, .c (.s (.int .i64 v5_0_24)))] [(9004, .row .own [.str] w9004_24)])) := by kernel_rfl
def impl_ShelfRead.s3 {R : Type} (g : impl_ShelfRead.Cs R) (k : Nat) (a0 : ByteArray) (v5_0_24 : Int) (w9004_24 : List ByteArray) (j : Option R) : Option R :=
 j
theorem impl_ShelfRead.s3_ev {R : Type} (g : impl_ShelfRead.Cs R) (k : Nat) (a0 : ByteArray) (v5_0_24 : Int) (w9004_24 : List ByteArray) (X : St → Option R) (K : Kont R) : evPre E (impl_ShelfRead.G g) k impl_ShelfRead.H 1 (nodeAt (bodyOf Tryd.f27) [true, true, true, false, false, false, true, false]) 482 (mkSt [(0, .c (.s (.string a0))), (4, .c (.sl 9004)), (5, .c (.s (.int .i64 v5_0_24)))] [(9004, .row .own [.str] w9004_24)]) X K = impl_ShelfRead.s3 g k a0 v5_0_24 w9004_24 (X (mkSt [(0, .c (.s (.string a0))), (4, .c (.sl 9004)), (5, .c (.s (.int .i64 v5_0_24))), (6, .c (.s (.int .i64 v5_0_24)))] [(9004, .row .own [.str] w9004_24)])) := by kernel_rfl
def impl_ShelfRead.s4 {R : Type} (g : impl_ShelfRead.Cs R) (k : Nat) (a0 : ByteArray) (v5_0_24 : Int) (v6_0_31 : Int) (w9004_24 : List ByteArray) (j : Int → Option R) (x2 : Option R) : Option R :=
 cond (decide (v6_0_31 < (a0.size : Int))) (let y1 := (decide (v6_0_31 < (IntKind.wrap .i64 (v5_0_24 + 3)))); cond y1 (cond (decide (0 ≤ v6_0_31) && decide (v6_0_31 < (a0.size : Int))) (cond (!decide ((byteAt a0 v6_0_31.toNat) = 58)) (j (IntKind.wrap .i64 (v6_0_31 + 1))) (x2)) none) (x2)) (x2)
theorem impl_ShelfRead.s4_ev {R : Type} (g : impl_ShelfRead.Cs R) (k : Nat) (a0 : ByteArray) (v5_0_24 : Int) (v6_0_31 : Int) (w9004_24 : List ByteArray) (K : Kont R) : ev E (impl_ShelfRead.G g) k impl_ShelfRead.H (nodeAt (bodyOf Tryd.f27) [true, true, true, false, false, false, true, false, true, false, false, false]) 7720 (mkSt [(0, .c (.s (.string a0))), (4, .c (.sl 9004)), (5, .c (.s (.int .i64 v5_0_24))), (6, .c (.s (.int .i64 v6_0_31)))] [(9004, .row .own [.str] w9004_24)]) K = impl_ShelfRead.s4 g k a0 v5_0_24 v6_0_31 w9004_24 (fun v6_0_32 => K .normal (mkSt [(0, .c (.s (.string a0))), (4, .c (.sl 9004)), (5, .c (.s (.int .i64 v5_0_24))), (6, .c (.s (.int .i64 v6_0_32)))] [(9004, .row .own [.str] w9004_24)])) (K (.exit 2) (mkSt [(0, .c (.s (.string a0))), (4, .c (.sl 9004)), (5, .c (.s (.int .i64 v5_0_24))), (6, .c (.s (.int .i64 v6_0_31)))] [(9004, .row .own [.str] w9004_24)])) := by kernel_rfl
def impl_ShelfRead.l5r {R : Type} (g : impl_ShelfRead.Cs R) (k : Nat) (a0 : ByteArray) (v5_0_24 : Int) (w9004_24 : List ByteArray) (x2 : Int → Option R) : Nat → Int → Option R
 | 0, _ => none
 | n + 1, v6_0_31 => impl_ShelfRead.s4 g k a0 v5_0_24 v6_0_31 w9004_24 (fun v6_0_32 => impl_ShelfRead.l5r g k a0 v5_0_24 w9004_24 x2 n v6_0_32) (x2 v6_0_31)
def impl_ShelfRead.l5 {R : Type} (g : impl_ShelfRead.Cs R) (k : Nat) (a0 : ByteArray) (v5_0_24 : Int) (w9004_24 : List ByteArray) (x2 : Int → Option R) : Option R := impl_ShelfRead.l5r g k a0 v5_0_24 w9004_24 x2 k v5_0_24
theorem impl_ShelfRead.l5r_ev {R : Type} (g : impl_ShelfRead.Cs R) (k : Nat) (a0 : ByteArray) (v5_0_24 : Int) (w9004_24 : List ByteArray) (K : Kont R) : ∀ (n : Nat) (v6_0_31 : Int), evLoop (ev E (impl_ShelfRead.G g) k impl_ShelfRead.H (nodeAt (bodyOf Tryd.f27) [true, true, true, false, false, false, true, false, true, false, false, false]) 7720) (atMeet impl_ShelfRead.H 3860) K n (mkSt [(0, .c (.s (.string a0))), (4, .c (.sl 9004)), (5, .c (.s (.int .i64 v5_0_24))), (6, .c (.s (.int .i64 v6_0_31)))] [(9004, .row .own [.str] w9004_24)]) = impl_ShelfRead.l5r g k a0 v5_0_24 w9004_24 (fun v6_0_34 => K (.exit 2) (mkSt [(0, .c (.s (.string a0))), (4, .c (.sl 9004)), (5, .c (.s (.int .i64 v5_0_24))), (6, .c (.s (.int .i64 v6_0_34)))] [(9004, .row .own [.str] w9004_24)])) n v6_0_31 := by
 intro n
 induction n with
 | zero => intros; rfl
 | succ n ih =>
  intro v6_0_31
  exact (show _ = (ev E (impl_ShelfRead.G g) k impl_ShelfRead.H (nodeAt (bodyOf Tryd.f27) [true, true, true, false, false, false, true, false, true, false, false, false]) 7720) (mkSt [(0, .c (.s (.string a0))), (4, .c (.sl 9004)), (5, .c (.s (.int .i64 v5_0_24))), (6, .c (.s (.int .i64 v6_0_31)))] [(9004, .row .own [.str] w9004_24)]) (loopK (ev E (impl_ShelfRead.G g) k impl_ShelfRead.H (nodeAt (bodyOf Tryd.f27) [true, true, true, false, false, false, true, false, true, false, false, false]) 7720) (atMeet impl_ShelfRead.H 3860) K n) from by kernel_rfl).trans ((impl_ShelfRead.s4_ev g k a0 v5_0_24 v6_0_31 w9004_24 (loopK (ev E (impl_ShelfRead.G g) k impl_ShelfRead.H (nodeAt (bodyOf Tryd.f27) [true, true, true, false, false, false, true, false, true, false, false, false]) 7720) (atMeet impl_ShelfRead.H 3860) K n)).trans ((show _ = impl_ShelfRead.s4 g k a0 v5_0_24 v6_0_31 w9004_24 (fun v6_0_32 => evLoop (ev E (impl_ShelfRead.G g) k impl_ShelfRead.H (nodeAt (bodyOf Tryd.f27) [true, true, true, false, false, false, true, false, true, false, false, false]) 7720) (atMeet impl_ShelfRead.H 3860) K n (mkSt [(0, .c (.s (.string a0))), (4, .c (.sl 9004)), (5, .c (.s (.int .i64 v5_0_24))), (6, .c (.s (.int .i64 v6_0_32)))] [(9004, .row .own [.str] w9004_24)])) (K (.exit 2) (mkSt [(0, .c (.s (.string a0))), (4, .c (.sl 9004)), (5, .c (.s (.int .i64 v5_0_24))), (6, .c (.s (.int .i64 v6_0_31)))] [(9004, .row .own [.str] w9004_24)])) from by kernel_rfl).trans (congrArg (fun f_ => impl_ShelfRead.s4 g k a0 v5_0_24 v6_0_31 w9004_24 f_ (K (.exit 2) (mkSt [(0, .c (.s (.string a0))), (4, .c (.sl 9004)), (5, .c (.s (.int .i64 v5_0_24))), (6, .c (.s (.int .i64 v6_0_31)))] [(9004, .row .own [.str] w9004_24)]))) (funext fun (v6_0_32 : Int) => (ih v6_0_32)))))
theorem impl_ShelfRead.l5_ev {R : Type} (g : impl_ShelfRead.Cs R) (k : Nat) (a0 : ByteArray) (v5_0_24 : Int) (w9004_24 : List ByteArray) (K : Kont R) : ev E (impl_ShelfRead.G g) k impl_ShelfRead.H (nodeAt (bodyOf Tryd.f27) [true, true, true, false, false, false, true, false, true, false, false]) 3860 (mkSt [(0, .c (.s (.string a0))), (4, .c (.sl 9004)), (5, .c (.s (.int .i64 v5_0_24))), (6, .c (.s (.int .i64 v5_0_24)))] [(9004, .row .own [.str] w9004_24)]) K = impl_ShelfRead.l5 g k a0 v5_0_24 w9004_24 (fun v6_0_34 => K (.exit 2) (mkSt [(0, .c (.s (.string a0))), (4, .c (.sl 9004)), (5, .c (.s (.int .i64 v5_0_24))), (6, .c (.s (.int .i64 v6_0_34)))] [(9004, .row .own [.str] w9004_24)])) :=
 (show _ = evLoop (ev E (impl_ShelfRead.G g) k impl_ShelfRead.H (nodeAt (bodyOf Tryd.f27) [true, true, true, false, false, false, true, false, true, false, false, false]) 7720) (atMeet impl_ShelfRead.H 3860) K k (mkSt [(0, .c (.s (.string a0))), (4, .c (.sl 9004)), (5, .c (.s (.int .i64 v5_0_24))), (6, .c (.s (.int .i64 v5_0_24)))] [(9004, .row .own [.str] w9004_24)]) from by kernel_rfl).trans (impl_ShelfRead.l5r_ev g k a0 v5_0_24 w9004_24 K k v5_0_24)
def impl_ShelfRead.b6 {R : Type} (g : impl_ShelfRead.Cs R) (k : Nat) (a0 : ByteArray) (v5_0_24 : Int) (w9004_24 : List ByteArray) (j : Int → Option R) : Option R :=
 impl_ShelfRead.l5 g k a0 v5_0_24 w9004_24 (fun v6_0_34 => j v6_0_34)
theorem impl_ShelfRead.b6_ev {R : Type} (g : impl_ShelfRead.Cs R) (k : Nat) (a0 : ByteArray) (v5_0_24 : Int) (w9004_24 : List ByteArray) (K : Kont R) : ev E (impl_ShelfRead.G g) k impl_ShelfRead.H (nodeAt (bodyOf Tryd.f27) [true, true, true, false, false, false, true, false, true, false]) 1930 (mkSt [(0, .c (.s (.string a0))), (4, .c (.sl 9004)), (5, .c (.s (.int .i64 v5_0_24))), (6, .c (.s (.int .i64 v5_0_24)))] [(9004, .row .own [.str] w9004_24)]) K = impl_ShelfRead.b6 g k a0 v5_0_24 w9004_24 (fun v6_0_35 => K .normal (mkSt [(0, .c (.s (.string a0))), (4, .c (.sl 9004)), (5, .c (.s (.int .i64 v5_0_24))), (6, .c (.s (.int .i64 v6_0_35)))] [(9004, .row .own [.str] w9004_24)])) :=
 (show _ = ev E (impl_ShelfRead.G g) k impl_ShelfRead.H (nodeAt (bodyOf Tryd.f27) [true, true, true, false, false, false, true, false, true, false, false]) 3860 (mkSt [(0, .c (.s (.string a0))), (4, .c (.sl 9004)), (5, .c (.s (.int .i64 v5_0_24))), (6, .c (.s (.int .i64 v5_0_24)))] [(9004, .row .own [.str] w9004_24)]) (blockK 2 (fun st => K .normal (atMeet impl_ShelfRead.H 1930 st)) K) from by kernel_rfl).trans ((impl_ShelfRead.l5_ev g k a0 v5_0_24 w9004_24 (blockK 2 (fun st => K .normal (atMeet impl_ShelfRead.H 1930 st)) K)).trans (by kernel_rfl))
def impl_ShelfRead.s7 {R : Type} (g : impl_ShelfRead.Cs R) (k : Nat) (a0 : ByteArray) (v5_0_24 : Int) (v6_0_35 : Int) (w9004_24 : List ByteArray) (j : Int → List ByteArray → Option R) (x0 : Option R) : Option R :=
 cond (decide ((a0.size : Int) ≤ v6_0_35)) (x0) (cond (decide (0 ≤ v6_0_35) && decide (v6_0_35 < (a0.size : Int))) (cond (!decide ((byteAt a0 v6_0_35.toNat) = 58)) (x0) (cond (decide (0 ≤ v6_0_35) && decide (v6_0_35 ≤ (a0.size : Int)) && decide (0 ≤ v5_0_24) && decide (v5_0_24 ≤ v6_0_35)) (g.f59 (a0.extract v5_0_24.toNat v6_0_35.toNat) (fun r1 r2 => let y3 := (IntKind.wrap .i64 ((IntKind.wrap .i64 (v6_0_35 + 1)) + r1)); cond (!r2) (x0) (g.f60 r1 1 60 (fun r4 => cond (!r4) (x0) (cond (decide ((a0.size : Int) ≤ y3)) (x0) (cond (decide (0 ≤ y3) && decide (y3 < (a0.size : Int))) (cond (!decide ((byteAt a0 y3.toNat) = 59)) (x0) (cond (decide (0 ≤ y3) && decide (y3 ≤ (a0.size : Int)) && decide (0 ≤ (IntKind.wrap .i64 (v6_0_35 + 1))) && decide ((IntKind.wrap .i64 (v6_0_35 + 1)) ≤ y3)) (let y5 := (a0.extract ((IntKind.wrap .i64 (v6_0_35 + 1)).toNat) y3.toNat); cond (Nat.ble (w9004_24.length + ([y5] : List ByteArray).length) lim) (j (IntKind.wrap .i64 (y3 + 1)) (w9004_24 ++ ([y5] : List ByteArray))) none) none)) none)))))) none)) none)
theorem impl_ShelfRead.s7_ev {R : Type} (g : impl_ShelfRead.Cs R) (k : Nat) (a0 : ByteArray) (v5_0_24 : Int) (v6_0_35 : Int) (w9004_24 : List ByteArray) (K : Kont R) : ev E (impl_ShelfRead.G g) k impl_ShelfRead.H (nodeAt (bodyOf Tryd.f27) [true, true, true, false, false, false, true, false, true, true]) 1931 (mkSt [(0, .c (.s (.string a0))), (4, .c (.sl 9004)), (5, .c (.s (.int .i64 v5_0_24))), (6, .c (.s (.int .i64 v6_0_35)))] [(9004, .row .own [.str] w9004_24)]) K = impl_ShelfRead.s7 g k a0 v5_0_24 v6_0_35 w9004_24 (fun v5_0_36 w9004_36 => K .normal (mkSt [(0, .c (.s (.string a0))), (4, .c (.sl 9004)), (5, .c (.s (.int .i64 v5_0_36)))] [(9004, .row .own [.str] w9004_36)])) (K (.exit 0) (mkSt [(4, .c (.sl 9004)), (5, .c (.s (.int .i64 v5_0_24)))] [(9004, .row .own [.str] w9004_24)])) := by kernel_rfl
def impl_ShelfRead.c8 {R : Type} (g : impl_ShelfRead.Cs R) (k : Nat) (a0 : ByteArray) (v5_0_24 : Int) (w9004_24 : List ByteArray) (j : Int → List ByteArray → Option R) (x0 : Option R) : Option R :=
 impl_ShelfRead.b6 g k a0 v5_0_24 w9004_24 (fun v6_0_35 => impl_ShelfRead.s7 g k a0 v5_0_24 v6_0_35 w9004_24 (fun v5_0_36 w9004_36 => j v5_0_36 w9004_36) (x0))
theorem impl_ShelfRead.c8_ev {R : Type} (g : impl_ShelfRead.Cs R) (k : Nat) (a0 : ByteArray) (v5_0_24 : Int) (w9004_24 : List ByteArray) (K : Kont R) : ev E (impl_ShelfRead.G g) k impl_ShelfRead.H (nodeAt (bodyOf Tryd.f27) [true, true, true, false, false, false, true, false, true]) 965 (mkSt [(0, .c (.s (.string a0))), (4, .c (.sl 9004)), (5, .c (.s (.int .i64 v5_0_24))), (6, .c (.s (.int .i64 v5_0_24)))] [(9004, .row .own [.str] w9004_24)]) K = impl_ShelfRead.c8 g k a0 v5_0_24 w9004_24 (fun v5_0_38 w9004_38 => K .normal (mkSt [(0, .c (.s (.string a0))), (4, .c (.sl 9004)), (5, .c (.s (.int .i64 v5_0_38)))] [(9004, .row .own [.str] w9004_38)])) (K (.exit 0) (mkSt [(4, .c (.sl 9004)), (5, .c (.s (.int .i64 v5_0_24)))] [(9004, .row .own [.str] w9004_24)])) :=
 ((show ev E (impl_ShelfRead.G g) k impl_ShelfRead.H (nodeAt (bodyOf Tryd.f27) [true, true, true, false, false, false, true, false, true]) 965 (mkSt [(0, .c (.s (.string a0))), (4, .c (.sl 9004)), (5, .c (.s (.int .i64 v5_0_24))), (6, .c (.s (.int .i64 v5_0_24)))] [(9004, .row .own [.str] w9004_24)]) K = ev E (impl_ShelfRead.G g) k impl_ShelfRead.H (nodeAt (bodyOf Tryd.f27) [true, true, true, false, false, false, true, false, true, false]) 1930 (mkSt [(0, .c (.s (.string a0))), (4, .c (.sl 9004)), (5, .c (.s (.int .i64 v5_0_24))), (6, .c (.s (.int .i64 v5_0_24)))] [(9004, .row .own [.str] w9004_24)]) (seqK (fun st => ev E (impl_ShelfRead.G g) k impl_ShelfRead.H (nodeAt (bodyOf Tryd.f27) [true, true, true, false, false, false, true, false, true, true]) 1931 st K) K) from by kernel_rfl).trans (impl_ShelfRead.b6_ev g k a0 v5_0_24 w9004_24 (seqK (fun st => ev E (impl_ShelfRead.G g) k impl_ShelfRead.H (nodeAt (bodyOf Tryd.f27) [true, true, true, false, false, false, true, false, true, true]) 1931 st K) K))).trans (congrArg (fun f_ => impl_ShelfRead.b6 g k a0 v5_0_24 w9004_24 f_) (funext fun (v6_0_35 : Int) => (impl_ShelfRead.s7_ev g k a0 v5_0_24 v6_0_35 w9004_24 K)))
def impl_ShelfRead.c9 {R : Type} (g : impl_ShelfRead.Cs R) (k : Nat) (a0 : ByteArray) (v5_0_24 : Int) (w9004_24 : List ByteArray) (j : Int → List ByteArray → Option R) (x0 : Option R) : Option R :=
 impl_ShelfRead.s3 g k a0 v5_0_24 w9004_24 (impl_ShelfRead.c8 g k a0 v5_0_24 w9004_24 (fun v5_0_38 w9004_38 => j v5_0_38 w9004_38) (x0))
theorem impl_ShelfRead.c9_ev {R : Type} (g : impl_ShelfRead.Cs R) (k : Nat) (a0 : ByteArray) (v5_0_24 : Int) (w9004_24 : List ByteArray) (K : Kont R) : ev E (impl_ShelfRead.G g) k impl_ShelfRead.H (nodeAt (bodyOf Tryd.f27) [true, true, true, false, false, false, true, false]) 482 (mkSt [(0, .c (.s (.string a0))), (4, .c (.sl 9004)), (5, .c (.s (.int .i64 v5_0_24)))] [(9004, .row .own [.str] w9004_24)]) K = impl_ShelfRead.c9 g k a0 v5_0_24 w9004_24 (fun v5_0_40 w9004_40 => K .normal (mkSt [(0, .c (.s (.string a0))), (4, .c (.sl 9004)), (5, .c (.s (.int .i64 v5_0_40)))] [(9004, .row .own [.str] w9004_40)])) (K (.exit 0) (mkSt [(4, .c (.sl 9004)), (5, .c (.s (.int .i64 v5_0_24)))] [(9004, .row .own [.str] w9004_24)])) :=
 ((show ev E (impl_ShelfRead.G g) k impl_ShelfRead.H (nodeAt (bodyOf Tryd.f27) [true, true, true, false, false, false, true, false]) 482 (mkSt [(0, .c (.s (.string a0))), (4, .c (.sl 9004)), (5, .c (.s (.int .i64 v5_0_24)))] [(9004, .row .own [.str] w9004_24)]) K = evPre E (impl_ShelfRead.G g) k impl_ShelfRead.H 1 (nodeAt (bodyOf Tryd.f27) [true, true, true, false, false, false, true, false]) 482 (mkSt [(0, .c (.s (.string a0))), (4, .c (.sl 9004)), (5, .c (.s (.int .i64 v5_0_24)))] [(9004, .row .own [.str] w9004_24)]) (fun st => ev E (impl_ShelfRead.G g) k impl_ShelfRead.H (nodeAt (bodyOf Tryd.f27) [true, true, true, false, false, false, true, false, true]) 965 st K) K from by kernel_rfl).trans (impl_ShelfRead.s3_ev g k a0 v5_0_24 w9004_24 (fun st => ev E (impl_ShelfRead.G g) k impl_ShelfRead.H (nodeAt (bodyOf Tryd.f27) [true, true, true, false, false, false, true, false, true]) 965 st K) K)).trans (congrArg (fun f_ => impl_ShelfRead.s3 g k a0 v5_0_24 w9004_24 f_) (impl_ShelfRead.c8_ev g k a0 v5_0_24 w9004_24 K))
def impl_ShelfRead.b10 {R : Type} (g : impl_ShelfRead.Cs R) (k : Nat) (a0 : ByteArray) (v5_0_24 : Int) (w9004_24 : List ByteArray) (j : Int → List ByteArray → Option R) (x0 : Option R) : Option R :=
 impl_ShelfRead.c9 g k a0 v5_0_24 w9004_24 (fun v5_0_40 w9004_40 => j v5_0_40 w9004_40) (x0)
theorem impl_ShelfRead.b10_ev {R : Type} (g : impl_ShelfRead.Cs R) (k : Nat) (a0 : ByteArray) (v5_0_24 : Int) (w9004_24 : List ByteArray) (K : Kont R) : ev E (impl_ShelfRead.G g) k impl_ShelfRead.H (nodeAt (bodyOf Tryd.f27) [true, true, true, false, false, false, true]) 241 (mkSt [(0, .c (.s (.string a0))), (4, .c (.sl 9004)), (5, .c (.s (.int .i64 v5_0_24)))] [(9004, .row .own [.str] w9004_24)]) K = impl_ShelfRead.b10 g k a0 v5_0_24 w9004_24 (fun v5_0_42 w9004_42 => K .normal (mkSt [(0, .c (.s (.string a0))), (4, .c (.sl 9004)), (5, .c (.s (.int .i64 v5_0_42)))] [(9004, .row .own [.str] w9004_42)])) (K (.exit 0) (mkSt [(4, .c (.sl 9004)), (5, .c (.s (.int .i64 v5_0_24)))] [(9004, .row .own [.str] w9004_24)])) :=
 (show _ = ev E (impl_ShelfRead.G g) k impl_ShelfRead.H (nodeAt (bodyOf Tryd.f27) [true, true, true, false, false, false, true, false]) 482 (mkSt [(0, .c (.s (.string a0))), (4, .c (.sl 9004)), (5, .c (.s (.int .i64 v5_0_24)))] [(9004, .row .own [.str] w9004_24)]) (blockK 1 (fun st => K .normal (atMeet impl_ShelfRead.H 241 st)) K) from by kernel_rfl).trans ((impl_ShelfRead.c9_ev g k a0 v5_0_24 w9004_24 (blockK 1 (fun st => K .normal (atMeet impl_ShelfRead.H 241 st)) K)).trans (by kernel_rfl))
def impl_ShelfRead.c11 {R : Type} (g : impl_ShelfRead.Cs R) (k : Nat) (a0 : ByteArray) (v5_0_24 : Int) (w9004_24 : List ByteArray) (j : Int → List ByteArray → Option R) (x0 : Option R) : Option R :=
 impl_ShelfRead.s2 g k a0 v5_0_24 w9004_24 (impl_ShelfRead.b10 g k a0 v5_0_24 w9004_24 (fun v5_0_42 w9004_42 => j v5_0_42 w9004_42) (x0)) (x0)
theorem impl_ShelfRead.c11_ev {R : Type} (g : impl_ShelfRead.Cs R) (k : Nat) (a0 : ByteArray) (v5_0_24 : Int) (w9004_24 : List ByteArray) (K : Kont R) : ev E (impl_ShelfRead.G g) k impl_ShelfRead.H (nodeAt (bodyOf Tryd.f27) [true, true, true, false, false, false]) 120 (mkSt [(0, .c (.s (.string a0))), (4, .c (.sl 9004)), (5, .c (.s (.int .i64 v5_0_24)))] [(9004, .row .own [.str] w9004_24)]) K = impl_ShelfRead.c11 g k a0 v5_0_24 w9004_24 (fun v5_0_44 w9004_44 => K .normal (mkSt [(0, .c (.s (.string a0))), (4, .c (.sl 9004)), (5, .c (.s (.int .i64 v5_0_44)))] [(9004, .row .own [.str] w9004_44)])) (K (.exit 0) (mkSt [(4, .c (.sl 9004)), (5, .c (.s (.int .i64 v5_0_24)))] [(9004, .row .own [.str] w9004_24)])) :=
 ((show ev E (impl_ShelfRead.G g) k impl_ShelfRead.H (nodeAt (bodyOf Tryd.f27) [true, true, true, false, false, false]) 120 (mkSt [(0, .c (.s (.string a0))), (4, .c (.sl 9004)), (5, .c (.s (.int .i64 v5_0_24)))] [(9004, .row .own [.str] w9004_24)]) K = evPre E (impl_ShelfRead.G g) k impl_ShelfRead.H 1 (nodeAt (bodyOf Tryd.f27) [true, true, true, false, false, false]) 120 (mkSt [(0, .c (.s (.string a0))), (4, .c (.sl 9004)), (5, .c (.s (.int .i64 v5_0_24)))] [(9004, .row .own [.str] w9004_24)]) (fun st => ev E (impl_ShelfRead.G g) k impl_ShelfRead.H (nodeAt (bodyOf Tryd.f27) [true, true, true, false, false, false, true]) 241 st K) K from by kernel_rfl).trans (impl_ShelfRead.s2_ev g k a0 v5_0_24 w9004_24 (fun st => ev E (impl_ShelfRead.G g) k impl_ShelfRead.H (nodeAt (bodyOf Tryd.f27) [true, true, true, false, false, false, true]) 241 st K) K)).trans (congrArg (fun f_ => impl_ShelfRead.s2 g k a0 v5_0_24 w9004_24 f_ (K (.exit 0) (mkSt [(4, .c (.sl 9004)), (5, .c (.s (.int .i64 v5_0_24)))] [(9004, .row .own [.str] w9004_24)]))) (impl_ShelfRead.b10_ev g k a0 v5_0_24 w9004_24 K))
def impl_ShelfRead.l12r {R : Type} (g : impl_ShelfRead.Cs R) (k : Nat) (a0 : ByteArray) (x0 : Int → List ByteArray → Option R) : Nat → Int → List ByteArray → Option R
 | 0, _, _ => none
 | n + 1, v5_0_24, w9004_24 => impl_ShelfRead.c11 g k a0 v5_0_24 w9004_24 (fun v5_0_44 w9004_44 => impl_ShelfRead.l12r g k a0 x0 n v5_0_44 w9004_44) (x0 v5_0_24 w9004_24)
def impl_ShelfRead.l12 {R : Type} (g : impl_ShelfRead.Cs R) (k : Nat) (a0 : ByteArray) (v5_0_1 : Int) (w9004_1 : List ByteArray) (x0 : Int → List ByteArray → Option R) : Option R := impl_ShelfRead.l12r g k a0 x0 k v5_0_1 w9004_1
theorem impl_ShelfRead.l12r_ev {R : Type} (g : impl_ShelfRead.Cs R) (k : Nat) (a0 : ByteArray) (K : Kont R) : ∀ (n : Nat) (v5_0_24 : Int) (w9004_24 : List ByteArray), evLoop (ev E (impl_ShelfRead.G g) k impl_ShelfRead.H (nodeAt (bodyOf Tryd.f27) [true, true, true, false, false, false]) 120) (atMeet impl_ShelfRead.H 60) K n (mkSt [(0, .c (.s (.string a0))), (4, .c (.sl 9004)), (5, .c (.s (.int .i64 v5_0_24)))] [(9004, .row .own [.str] w9004_24)]) = impl_ShelfRead.l12r g k a0 (fun v5_0_46 w9004_46 => K (.exit 0) (mkSt [(4, .c (.sl 9004)), (5, .c (.s (.int .i64 v5_0_46)))] [(9004, .row .own [.str] w9004_46)])) n v5_0_24 w9004_24 := by
 intro n
 induction n with
 | zero => intros; rfl
 | succ n ih =>
  intro v5_0_24 w9004_24
  exact (show _ = (ev E (impl_ShelfRead.G g) k impl_ShelfRead.H (nodeAt (bodyOf Tryd.f27) [true, true, true, false, false, false]) 120) (mkSt [(0, .c (.s (.string a0))), (4, .c (.sl 9004)), (5, .c (.s (.int .i64 v5_0_24)))] [(9004, .row .own [.str] w9004_24)]) (loopK (ev E (impl_ShelfRead.G g) k impl_ShelfRead.H (nodeAt (bodyOf Tryd.f27) [true, true, true, false, false, false]) 120) (atMeet impl_ShelfRead.H 60) K n) from by kernel_rfl).trans ((impl_ShelfRead.c11_ev g k a0 v5_0_24 w9004_24 (loopK (ev E (impl_ShelfRead.G g) k impl_ShelfRead.H (nodeAt (bodyOf Tryd.f27) [true, true, true, false, false, false]) 120) (atMeet impl_ShelfRead.H 60) K n)).trans ((show _ = impl_ShelfRead.c11 g k a0 v5_0_24 w9004_24 (fun v5_0_44 w9004_44 => evLoop (ev E (impl_ShelfRead.G g) k impl_ShelfRead.H (nodeAt (bodyOf Tryd.f27) [true, true, true, false, false, false]) 120) (atMeet impl_ShelfRead.H 60) K n (mkSt [(0, .c (.s (.string a0))), (4, .c (.sl 9004)), (5, .c (.s (.int .i64 v5_0_44)))] [(9004, .row .own [.str] w9004_44)])) (K (.exit 0) (mkSt [(4, .c (.sl 9004)), (5, .c (.s (.int .i64 v5_0_24)))] [(9004, .row .own [.str] w9004_24)])) from by kernel_rfl).trans (congrArg (fun f_ => impl_ShelfRead.c11 g k a0 v5_0_24 w9004_24 f_ (K (.exit 0) (mkSt [(4, .c (.sl 9004)), (5, .c (.s (.int .i64 v5_0_24)))] [(9004, .row .own [.str] w9004_24)]))) (funext fun (v5_0_44 : Int) => (funext fun (w9004_44 : List ByteArray) => (ih v5_0_44 w9004_44))))))
theorem impl_ShelfRead.l12_ev {R : Type} (g : impl_ShelfRead.Cs R) (k : Nat) (a0 : ByteArray) (v5_0_1 : Int) (w9004_1 : List ByteArray) (K : Kont R) : ev E (impl_ShelfRead.G g) k impl_ShelfRead.H (nodeAt (bodyOf Tryd.f27) [true, true, true, false, false]) 60 (mkSt [(0, .c (.s (.string a0))), (4, .c (.sl 9004)), (5, .c (.s (.int .i64 v5_0_1)))] [(9004, .row .own [.str] w9004_1)]) K = impl_ShelfRead.l12 g k a0 v5_0_1 w9004_1 (fun v5_0_46 w9004_46 => K (.exit 0) (mkSt [(4, .c (.sl 9004)), (5, .c (.s (.int .i64 v5_0_46)))] [(9004, .row .own [.str] w9004_46)])) :=
 (show _ = evLoop (ev E (impl_ShelfRead.G g) k impl_ShelfRead.H (nodeAt (bodyOf Tryd.f27) [true, true, true, false, false, false]) 120) (atMeet impl_ShelfRead.H 60) K k (mkSt [(0, .c (.s (.string a0))), (4, .c (.sl 9004)), (5, .c (.s (.int .i64 v5_0_1)))] [(9004, .row .own [.str] w9004_1)]) from by kernel_rfl).trans (impl_ShelfRead.l12r_ev g k a0 K k v5_0_1 w9004_1)
def impl_ShelfRead.b13 {R : Type} (g : impl_ShelfRead.Cs R) (k : Nat) (a0 : ByteArray) (v5_0_1 : Int) (w9004_1 : List ByteArray) (j : Int → List ByteArray → Option R) : Option R :=
 impl_ShelfRead.l12 g k a0 v5_0_1 w9004_1 (fun v5_0_46 w9004_46 => j v5_0_46 w9004_46)
theorem impl_ShelfRead.b13_ev {R : Type} (g : impl_ShelfRead.Cs R) (k : Nat) (a0 : ByteArray) (v5_0_1 : Int) (w9004_1 : List ByteArray) (K : Kont R) : ev E (impl_ShelfRead.G g) k impl_ShelfRead.H (nodeAt (bodyOf Tryd.f27) [true, true, true, false]) 30 (mkSt [(0, .c (.s (.string a0))), (4, .c (.sl 9004)), (5, .c (.s (.int .i64 v5_0_1)))] [(9004, .row .own [.str] w9004_1)]) K = impl_ShelfRead.b13 g k a0 v5_0_1 w9004_1 (fun v5_0_47 w9004_47 => K .normal (mkSt [(4, .c (.sl 9004)), (5, .c (.s (.int .i64 v5_0_47)))] [(9004, .row .own [.str] w9004_47)])) :=
 (show _ = ev E (impl_ShelfRead.G g) k impl_ShelfRead.H (nodeAt (bodyOf Tryd.f27) [true, true, true, false, false]) 60 (mkSt [(0, .c (.s (.string a0))), (4, .c (.sl 9004)), (5, .c (.s (.int .i64 v5_0_1)))] [(9004, .row .own [.str] w9004_1)]) (blockK 0 (fun st => K .normal (atMeet impl_ShelfRead.H 30 st)) K) from by kernel_rfl).trans ((impl_ShelfRead.l12_ev g k a0 v5_0_1 w9004_1 (blockK 0 (fun st => K .normal (atMeet impl_ShelfRead.H 30 st)) K)).trans (by kernel_rfl))
def impl_ShelfRead.s14 {R : Type} (g : impl_ShelfRead.Cs R) (k : Nat) (v5_0_47 : Int) (w9004_47 : List ByteArray) (q : List ByteArray → Option R) : Option R :=
 g.f61 w9004_47 (fun r1 => q r1)
theorem impl_ShelfRead.s14_ev {R : Type} (g : impl_ShelfRead.Cs R) (k : Nat) (v5_0_47 : Int) (w9004_47 : List ByteArray) (K : Kont R) : ev E (impl_ShelfRead.G g) k impl_ShelfRead.H (nodeAt (bodyOf Tryd.f27) [true, true, true, true]) 31 (mkSt [(4, .c (.sl 9004)), (5, .c (.s (.int .i64 v5_0_47)))] [(9004, .row .own [.str] w9004_47)]) K = impl_ShelfRead.s14 g k v5_0_47 w9004_47 (fun w9002_48 => K .ret (mkSt [(2, .c (.sl 9002)), (3, .c (.s (.int .i64 v5_0_47)))] [(9002, .row .own [.str] w9002_48)])) := by kernel_rfl
def impl_ShelfRead.c15 {R : Type} (g : impl_ShelfRead.Cs R) (k : Nat) (a0 : ByteArray) (v5_0_1 : Int) (w9004_1 : List ByteArray) (q : Int → List ByteArray → Option R) : Option R :=
 impl_ShelfRead.b13 g k a0 v5_0_1 w9004_1 (fun v5_0_47 w9004_47 => impl_ShelfRead.s14 g k v5_0_47 w9004_47 (fun w9002_48 => q v5_0_47 w9002_48))
theorem impl_ShelfRead.c15_ev {R : Type} (g : impl_ShelfRead.Cs R) (k : Nat) (a0 : ByteArray) (v5_0_1 : Int) (w9004_1 : List ByteArray) (K : Kont R) : ev E (impl_ShelfRead.G g) k impl_ShelfRead.H (nodeAt (bodyOf Tryd.f27) [true, true, true]) 15 (mkSt [(0, .c (.s (.string a0))), (4, .c (.sl 9004)), (5, .c (.s (.int .i64 v5_0_1)))] [(9004, .row .own [.str] w9004_1)]) K = impl_ShelfRead.c15 g k a0 v5_0_1 w9004_1 (fun v3_0_49 w9002_49 => K .ret (mkSt [(2, .c (.sl 9002)), (3, .c (.s (.int .i64 v3_0_49)))] [(9002, .row .own [.str] w9002_49)])) :=
 ((show ev E (impl_ShelfRead.G g) k impl_ShelfRead.H (nodeAt (bodyOf Tryd.f27) [true, true, true]) 15 (mkSt [(0, .c (.s (.string a0))), (4, .c (.sl 9004)), (5, .c (.s (.int .i64 v5_0_1)))] [(9004, .row .own [.str] w9004_1)]) K = ev E (impl_ShelfRead.G g) k impl_ShelfRead.H (nodeAt (bodyOf Tryd.f27) [true, true, true, false]) 30 (mkSt [(0, .c (.s (.string a0))), (4, .c (.sl 9004)), (5, .c (.s (.int .i64 v5_0_1)))] [(9004, .row .own [.str] w9004_1)]) (seqK (fun st => ev E (impl_ShelfRead.G g) k impl_ShelfRead.H (nodeAt (bodyOf Tryd.f27) [true, true, true, true]) 31 st K) K) from by kernel_rfl).trans (impl_ShelfRead.b13_ev g k a0 v5_0_1 w9004_1 (seqK (fun st => ev E (impl_ShelfRead.G g) k impl_ShelfRead.H (nodeAt (bodyOf Tryd.f27) [true, true, true, true]) 31 st K) K))).trans (congrArg (fun f_ => impl_ShelfRead.b13 g k a0 v5_0_1 w9004_1 f_) (funext fun (v5_0_47 : Int) => (funext fun (w9004_47 : List ByteArray) => (impl_ShelfRead.s14_ev g k v5_0_47 w9004_47 K))))
def impl_ShelfRead.c16 {R : Type} (g : impl_ShelfRead.Cs R) (k : Nat) (a0 : ByteArray) (q : Int → List ByteArray → Option R) : Option R :=
 impl_ShelfRead.s1 g k a0 (fun v5_0_1 w9004_1 => impl_ShelfRead.c15 g k a0 v5_0_1 w9004_1 (fun v3_0_49 w9002_49 => q v3_0_49 w9002_49))
theorem impl_ShelfRead.c16_ev {R : Type} (g : impl_ShelfRead.Cs R) (k : Nat) (a0 : ByteArray) (K : Kont R) : ev E (impl_ShelfRead.G g) k impl_ShelfRead.H (nodeAt (bodyOf Tryd.f27) []) 1 (mkSt [(0, .c (.s (.string a0)))] []) K = impl_ShelfRead.c16 g k a0 (fun v3_0_50 w9002_50 => K .ret (mkSt [(2, .c (.sl 9002)), (3, .c (.s (.int .i64 v3_0_50)))] [(9002, .row .own [.str] w9002_50)])) :=
 ((show ev E (impl_ShelfRead.G g) k impl_ShelfRead.H (nodeAt (bodyOf Tryd.f27) []) 1 (mkSt [(0, .c (.s (.string a0)))] []) K = evPre E (impl_ShelfRead.G g) k impl_ShelfRead.H 3 (nodeAt (bodyOf Tryd.f27) []) 1 (mkSt [(0, .c (.s (.string a0)))] []) (fun st => ev E (impl_ShelfRead.G g) k impl_ShelfRead.H (nodeAt (bodyOf Tryd.f27) [true, true, true]) 15 st K) K from by kernel_rfl).trans (impl_ShelfRead.s1_ev g k a0 (fun st => ev E (impl_ShelfRead.G g) k impl_ShelfRead.H (nodeAt (bodyOf Tryd.f27) [true, true, true]) 15 st K) K)).trans (congrArg (fun f_ => impl_ShelfRead.s1 g k a0 f_) (funext fun (v5_0_1 : Int) => (funext fun (w9004_1 : List ByteArray) => (impl_ShelfRead.c15_ev g k a0 v5_0_1 w9004_1 K))))
def impl_ShelfRead.b {R : Type} (g : impl_ShelfRead.Cs R) (k : Nat) (a0 : ByteArray) (K : List ByteArray → Int → Option R) : Option R :=
 impl_ShelfRead.c16 g k a0 (fun v3_0_50 w9002_50 => K w9002_50 v3_0_50)
theorem impl_ShelfRead.evs {R : Type} (g : impl_ShelfRead.Cs R) (k : Nat) (a0 : ByteArray) (KF : Ret → Option R) : evFunc E (impl_ShelfRead.G g) k impl_ShelfRead.H [] false Tryd.f27 [.val false [.s (.string a0)]] KF = impl_ShelfRead.b g k a0 (fun r1 r2 => KF ⟨[.val false [.row .own [.str] r1], .val false [.s (.int .i64 r2)]], []⟩) :=
 (show _ = ev E (impl_ShelfRead.G g) k impl_ShelfRead.H (nodeAt (bodyOf Tryd.f27) []) 1 (mkSt [(0, .c (.s (.string a0)))] []) (fin E.P false Tryd.f27 [] KF) from by kernel_rfl).trans ((impl_ShelfRead.c16_ev g k a0 (fin E.P false Tryd.f27 [] KF)).trans (by kernel_rfl))
def impl_ShelfRead.g {R : Type} (k : Nat) : impl_ShelfRead.Cs R := ⟨(), impl_natural.c k, impl_in.c k, impl_copied_string.c k⟩
def impl_ShelfRead.c {R : Type} (k : Nat) : impl_ShelfRead.T R := impl_ShelfRead.b (impl_ShelfRead.g k) k
/-! ### impl_ShelfOk: function 28 -/
abbrev impl_ShelfOk.T (R : Type) : Type := ByteArray → Int → (Bool → Option R) → Option R
def impl_ShelfOk.con {R : Type} (f : impl_ShelfOk.T R) : Con R := ⟨[], fun args K => match args with
 | [.val true [.s (.string a0_0), .s (.int .i64 a0_1)]] => f a0_0 a0_1 (fun r1 => K ⟨[.val false [.s (.bool r1)]], []⟩)
 | _ => none⟩
structure impl_ShelfOk.Cs (R : Type) where
  none_ : Unit := ()
  f60 : impl_in.T R
  f27 : impl_ShelfRead.T R
def impl_ShelfOk.G {R : Type} (g : impl_ShelfOk.Cs R) : Cons R := [(60, impl_in.con g.f60), (27, impl_ShelfRead.con g.f27)]
def impl_ShelfOk.H : List (Nat × Meet) := []
def impl_ShelfOk.b {R : Type} (g : impl_ShelfOk.Cs R) (k : Nat) (a0_0 : ByteArray) (a0_1 : Int) (K : Bool → Option R) : Option R :=
 cond (decide ((2400 : Int) < (a0_0.size : Int))) (K false) (g.f60 a0_1 0 (a0_0.size : Int) (fun r1 => cond (!r1) (K false) (g.f27 a0_0 (fun r2 r3 => cond (decide (0 ≤ a0_1) && decide (a0_1 ≤ (a0_0.size : Int))) (g.f27 (a0_0.extract 0 a0_1.toNat) (fun r4 r5 => cond (decide (r3 = (a0_0.size : Int))) (K (decide (r5 = a0_1))) (K false))) none))))
theorem impl_ShelfOk.evs {R : Type} (g : impl_ShelfOk.Cs R) (k : Nat) (a0_0 : ByteArray) (a0_1 : Int) (KF : Ret → Option R) : evFunc E (impl_ShelfOk.G g) k impl_ShelfOk.H [] false Tryd.f28 [.val true [.s (.string a0_0), .s (.int .i64 a0_1)]] KF = impl_ShelfOk.b g k a0_0 a0_1 (fun r1 => KF ⟨[.val false [.s (.bool r1)]], []⟩) :=
 by kernel_rfl
def impl_ShelfOk.g {R : Type} (k : Nat) : impl_ShelfOk.Cs R := ⟨(), impl_in.c k, impl_ShelfRead.c k⟩
def impl_ShelfOk.c {R : Type} (k : Nat) : impl_ShelfOk.T R := impl_ShelfOk.b (impl_ShelfOk.g k) k
/-! ### impl_recOk: function 52 -/
abbrev impl_recOk.T (R : Type) : Type := ByteArray → (Bool → Option R) → Option R
def impl_recOk.con {R : Type} (f : impl_recOk.T R) : Con R := ⟨[], fun args K => match args with
 | [.val false [.s (.string a0)]] => f a0 (fun r1 => K ⟨[.val false [.s (.bool r1)]], []⟩)
 | _ => none⟩
structure impl_recOk.Cs (R : Type) where
  none_ : Unit := ()
  f60 : impl_in.T R
def impl_recOk.G {R : Type} (g : impl_recOk.Cs R) : Cons R := [(60, impl_in.con g.f60)]
def impl_recOk.H : List (Nat × Meet) := []
def impl_recOk.b {R : Type} (g : impl_recOk.Cs R) (k : Nat) (a0 : ByteArray) (K : Bool → Option R) : Option R :=
 g.f60 (a0.size : Int) 1 60 (fun r1 => K r1)
theorem impl_recOk.evs {R : Type} (g : impl_recOk.Cs R) (k : Nat) (a0 : ByteArray) (KF : Ret → Option R) : evFunc E (impl_recOk.G g) k impl_recOk.H [] false Tryd.f52 [.val false [.s (.string a0)]] KF = impl_recOk.b g k a0 (fun r1 => KF ⟨[.val false [.s (.bool r1)]], []⟩) :=
 by kernel_rfl
def impl_recOk.g {R : Type} (k : Nat) : impl_recOk.Cs R := ⟨(), impl_in.c k⟩
def impl_recOk.c {R : Type} (k : Nat) : impl_recOk.T R := impl_recOk.b (impl_recOk.g k) k
/-! ### strconv_Itoa: function 70, of Go's library -/
abbrev strconv_Itoa.T (R : Type) : Type := Int → (ByteArray → Option R) → Option R
def strconv_Itoa.con {R : Type} (f : strconv_Itoa.T R) : Con R := ⟨[], fun args K => match args with
 | [.val false [.s (.int .i64 a0)]] => f a0 (fun r1 => K ⟨[.val false [.s (.string r1)]], []⟩)
 | _ => none⟩
def strconv_Itoa.c {R : Type} (k : Nat) : strconv_Itoa.T R := fun a0 K => cond (decide (-9223372036854775808 ≤ a0) && decide (a0 ≤ 9223372036854775807)) (K (ByteArray.mk (Go.Lib.itoa a0).toArray)) none
/-! ### impl_stored: function 53 -/
abbrev impl_stored.T (R : Type) : Type := ByteArray → (ByteArray → Option R) → Option R
def impl_stored.con {R : Type} (f : impl_stored.T R) : Con R := ⟨[], fun args K => match args with
 | [.val false [.s (.string a0)]] => f a0 (fun r1 => K ⟨[.val false [.s (.string r1)]], []⟩)
 | _ => none⟩
structure impl_stored.Cs (R : Type) where
  none_ : Unit := ()
  f70 : strconv_Itoa.T R
def impl_stored.G {R : Type} (g : impl_stored.Cs R) : Cons R := [(70, strconv_Itoa.con g.f70)]
def impl_stored.H : List (Nat × Meet) := []
def impl_stored.b {R : Type} (g : impl_stored.Cs R) (k : Nat) (a0 : ByteArray) (K : ByteArray → Option R) : Option R :=
 g.f70 (a0.size : Int) (fun r1 => cond (decide (r1.size + (ByteArray.mk #[58]).size ≤ 9223372036854775807)) (cond (decide ((r1 ++ (ByteArray.mk #[58])).size + a0.size ≤ 9223372036854775807)) (cond (decide (((r1 ++ (ByteArray.mk #[58])) ++ a0).size + (ByteArray.mk #[59]).size ≤ 9223372036854775807)) (let y2 := (((r1 ++ (ByteArray.mk #[58])) ++ a0) ++ (ByteArray.mk #[59])); K y2) none) none) none)
theorem impl_stored.evs {R : Type} (g : impl_stored.Cs R) (k : Nat) (a0 : ByteArray) (KF : Ret → Option R) : evFunc E (impl_stored.G g) k impl_stored.H [] false Tryd.f53 [.val false [.s (.string a0)]] KF = impl_stored.b g k a0 (fun r1 => KF ⟨[.val false [.s (.string r1)]], []⟩) :=
 by kernel_rfl
def impl_stored.g {R : Type} (k : Nat) : impl_stored.Cs R := ⟨(), strconv_Itoa.c k⟩
def impl_stored.c {R : Type} (k : Nat) : impl_stored.T R := impl_stored.b (impl_stored.g k) k
/-! ### impl_ShelfAdd: function 17 -/
abbrev impl_ShelfAdd.T (R : Type) : Type := ByteArray → Int → ByteArray → (ByteArray → Int → Bool → Option R) → Option R
def impl_ShelfAdd.con {R : Type} (f : impl_ShelfAdd.T R) : Con R := ⟨[], fun args K => match args with
 | [.val true [.s (.string a0_0), .s (.int .i64 a0_1)], .val false [.s (.string a1)]] => f a0_0 a0_1 a1 (fun r1 r2 r3 => K ⟨[.val true [.s (.string r1), .s (.int .i64 r2)], .val false [.s (.bool r3)]], []⟩)
 | _ => none⟩
structure impl_ShelfAdd.Cs (R : Type) where
  none_ : Unit := ()
  f28 : impl_ShelfOk.T R
  f52 : impl_recOk.T R
  f53 : impl_stored.T R
def impl_ShelfAdd.G {R : Type} (g : impl_ShelfAdd.Cs R) : Cons R := [(28, impl_ShelfOk.con g.f28), (52, impl_recOk.con g.f52), (53, impl_stored.con g.f53)]
def impl_ShelfAdd.H : List (Nat × Meet) := []
def impl_ShelfAdd.b {R : Type} (g : impl_ShelfAdd.Cs R) (k : Nat) (a0_0 : ByteArray) (a0_1 : Int) (a1 : ByteArray) (K : ByteArray → Int → Bool → Option R) : Option R :=
 g.f28 a0_0 a0_1 (fun r1 => cond (!r1) (K (ByteArray.mk #[]) 0 false) (g.f52 a1 (fun r2 => cond (!r2) (K a0_0 a0_1 false) (g.f53 a1 (fun r3 => let y4 := (IntKind.wrap .i64 ((a0_0.size : Int) + (r3.size : Int))); cond (decide ((2400 : Int) < y4)) (K a0_0 a0_1 false) (g.f53 a1 (fun r5 => cond (decide (a0_0.size + r5.size ≤ 9223372036854775807)) (K (a0_0 ++ r5) a0_1 true) none)))))))
theorem impl_ShelfAdd.evs {R : Type} (g : impl_ShelfAdd.Cs R) (k : Nat) (a0_0 : ByteArray) (a0_1 : Int) (a1 : ByteArray) (KF : Ret → Option R) : evFunc E (impl_ShelfAdd.G g) k impl_ShelfAdd.H [] false Tryd.f17 [.val true [.s (.string a0_0), .s (.int .i64 a0_1)], .val false [.s (.string a1)]] KF = impl_ShelfAdd.b g k a0_0 a0_1 a1 (fun r1 r2 r3 => KF ⟨[.val true [.s (.string r1), .s (.int .i64 r2)], .val false [.s (.bool r3)]], []⟩) :=
 by kernel_rfl
def impl_ShelfAdd.g {R : Type} (k : Nat) : impl_ShelfAdd.Cs R := ⟨(), impl_ShelfOk.c k, impl_recOk.c k, impl_stored.c k⟩
def impl_ShelfAdd.c {R : Type} (k : Nat) : impl_ShelfAdd.T R := impl_ShelfAdd.b (impl_ShelfAdd.g k) k
/-! ### laws_eqShelf: function 18 -/
abbrev laws_eqShelf.T (R : Type) : Type := ByteArray → Int → ByteArray → Int → (Bool → Option R) → Option R
def laws_eqShelf.con {R : Type} (f : laws_eqShelf.T R) : Con R := ⟨[], fun args K => match args with
 | [.val true [.s (.string a0_0), .s (.int .i64 a0_1)], .val true [.s (.string a1_0), .s (.int .i64 a1_1)]] => f a0_0 a0_1 a1_0 a1_1 (fun r1 => K ⟨[.val false [.s (.bool r1)]], []⟩)
 | _ => none⟩
structure laws_eqShelf.Cs (R : Type) where
  none_ : Unit := ()
def laws_eqShelf.G {R : Type} (g : laws_eqShelf.Cs R) : Cons R := []
def laws_eqShelf.H : List (Nat × Meet) := []
def laws_eqShelf.b {R : Type} (g : laws_eqShelf.Cs R) (k : Nat) (a0_0 : ByteArray) (a0_1 : Int) (a1_0 : ByteArray) (a1_1 : Int) (K : Bool → Option R) : Option R :=
 cond (!decide (a0_0 = a1_0)) (K false) (cond (!decide (a0_1 = a1_1)) (K false) (K true))
theorem laws_eqShelf.evs {R : Type} (g : laws_eqShelf.Cs R) (k : Nat) (a0_0 : ByteArray) (a0_1 : Int) (a1_0 : ByteArray) (a1_1 : Int) (KF : Ret → Option R) : evFunc E (laws_eqShelf.G g) k laws_eqShelf.H [] false Tryd.f18 [.val true [.s (.string a0_0), .s (.int .i64 a0_1)], .val true [.s (.string a1_0), .s (.int .i64 a1_1)]] KF = laws_eqShelf.b g k a0_0 a0_1 a1_0 a1_1 (fun r1 => KF ⟨[.val false [.s (.bool r1)]], []⟩) :=
 by kernel_rfl
def laws_eqShelf.g {R : Type} (k : Nat) : laws_eqShelf.Cs R := ⟨()⟩
def laws_eqShelf.c {R : Type} (k : Nat) : laws_eqShelf.T R := laws_eqShelf.b (laws_eqShelf.g k) k
/-! ### laws_FnExactShelfAdd: function 3 -/
abbrev laws_FnExactShelfAdd.T (R : Type) : Type := ByteArray → Int → ByteArray → (Bool → Option R) → Option R
def laws_FnExactShelfAdd.con {R : Type} (f : laws_FnExactShelfAdd.T R) : Con R := ⟨[], fun args K => match args with
 | [.val true [.s (.string a0_0), .s (.int .i64 a0_1)], .val false [.s (.string a1)]] => f a0_0 a0_1 a1 (fun r1 => K ⟨[.val false [.s (.bool r1)]], []⟩)
 | _ => none⟩
structure laws_FnExactShelfAdd.Cs (R : Type) where
  none_ : Unit := ()
  f14 : laws_szShelf.T R
  f16 : laws_toShelf.T R
  f15 : spec_ShelfAdd.T R
  f17 : impl_ShelfAdd.T R
  f18 : laws_eqShelf.T R
def laws_FnExactShelfAdd.G {R : Type} (g : laws_FnExactShelfAdd.Cs R) : Cons R := [(14, laws_szShelf.con g.f14), (16, laws_toShelf.con g.f16), (15, spec_ShelfAdd.con g.f15), (17, impl_ShelfAdd.con g.f17), (18, laws_eqShelf.con g.f18)]
def laws_FnExactShelfAdd.H : List (Nat × Meet) := []
def laws_FnExactShelfAdd.b {R : Type} (g : laws_FnExactShelfAdd.Cs R) (k : Nat) (a0_0 : ByteArray) (a0_1 : Int) (a1 : ByteArray) (K : Bool → Option R) : Option R :=
 cond (decide ((1048576 : Int) < (a1.size : Int))) (K true) (g.f14 a0_0 a0_1 1048576 (fun r1 => cond (decide (r1 < 0)) (K true) (g.f16 a0_0 a0_1 (fun r2 r3 => g.f15 r2 r3 a1 (fun r4 r5 r6 => g.f16 a0_0 a0_1 (fun r7 r8 => g.f17 r7 r8 a1 (fun r9 r10 r11 => g.f18 r9 r10 r4 r5 (fun r12 => cond (!r12) (K false) (cond (!(r11 == r6)) (K false) (K true))))))))))
theorem laws_FnExactShelfAdd.evs {R : Type} (g : laws_FnExactShelfAdd.Cs R) (k : Nat) (a0_0 : ByteArray) (a0_1 : Int) (a1 : ByteArray) (KF : Ret → Option R) : evFunc E (laws_FnExactShelfAdd.G g) k laws_FnExactShelfAdd.H [] false Tryd.f3 [.val true [.s (.string a0_0), .s (.int .i64 a0_1)], .val false [.s (.string a1)]] KF = laws_FnExactShelfAdd.b g k a0_0 a0_1 a1 (fun r1 => KF ⟨[.val false [.s (.bool r1)]], []⟩) :=
 by kernel_rfl
def laws_FnExactShelfAdd.g {R : Type} (k : Nat) : laws_FnExactShelfAdd.Cs R := ⟨(), laws_szShelf.c k, laws_toShelf.c k, spec_ShelfAdd.c k, impl_ShelfAdd.c k, laws_eqShelf.c k⟩
def laws_FnExactShelfAdd.c {R : Type} (k : Nat) : laws_FnExactShelfAdd.T R := laws_FnExactShelfAdd.b (laws_FnExactShelfAdd.g k) k
end Go.Ev.F
