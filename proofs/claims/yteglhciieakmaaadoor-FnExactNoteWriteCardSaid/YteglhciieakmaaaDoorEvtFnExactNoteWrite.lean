/- The Go functions as plain functions, and that the evaluator comes to them. No condition. Written by a program of this session. -/
import Derived.Test.YteglhciieakmaaaDoorProg
import Derived.Test.YteglhciieakmaaaDoorEv
import Derived.KernelRfl
import Derived.Lib.ItoaNum
namespace Go.Ev.F
open Go.Proofs
set_option linter.unusedVariables false
set_option maxRecDepth 100000
noncomputable def E : Env := ⟨Tryd.prog, []⟩
/-! ### laws_szNote: function 4 -/
abbrev laws_szNote.T (R : Type) : Type := Int → Int → Int → Int → ByteArray → Int → (Int → Option R) → Option R
def laws_szNote.con {R : Type} (f : laws_szNote.T R) : Con R := ⟨[], fun args K => match args with
 | [.val true [.s (.int .i64 a0_0), .s (.int .i64 a0_1), .s (.int .i64 a0_2), .s (.int .i64 a0_3), .s (.string a0_4)], .val false [.s (.int .i64 a1)]] => f a0_0 a0_1 a0_2 a0_3 a0_4 a1 (fun r1 => K ⟨[.val false [.s (.int .i64 r1)]], []⟩)
 | _ => none⟩
structure laws_szNote.Cs (R : Type) where
  none_ : Unit := ()
def laws_szNote.G {R : Type} (g : laws_szNote.Cs R) : Cons R := []
def laws_szNote.H : List (Nat × Meet) := []
def laws_szNote.b {R : Type} (g : laws_szNote.Cs R) (k : Nat) (a0_0 : Int) (a0_1 : Int) (a0_2 : Int) (a0_3 : Int) (a0_4 : ByteArray) (a1 : Int) (K : Int → Option R) : Option R :=
 let y1 := (decide ((IntKind.wrap .i64 (a1 - (a0_4.size : Int))) < 0)); cond y1 (K (-1)) (K (IntKind.wrap .i64 (a1 - (a0_4.size : Int))))
theorem laws_szNote.evs {R : Type} (g : laws_szNote.Cs R) (k : Nat) (a0_0 : Int) (a0_1 : Int) (a0_2 : Int) (a0_3 : Int) (a0_4 : ByteArray) (a1 : Int) (KF : Ret → Option R) : evFunc E (laws_szNote.G g) k laws_szNote.H [] false Tryd.f4 [.val true [.s (.int .i64 a0_0), .s (.int .i64 a0_1), .s (.int .i64 a0_2), .s (.int .i64 a0_3), .s (.string a0_4)], .val false [.s (.int .i64 a1)]] KF = laws_szNote.b g k a0_0 a0_1 a0_2 a0_3 a0_4 a1 (fun r1 => KF ⟨[.val false [.s (.int .i64 r1)]], []⟩) :=
 by kernel_rfl
def laws_szNote.g {R : Type} (k : Nat) : laws_szNote.Cs R := ⟨()⟩
def laws_szNote.c {R : Type} (k : Nat) : laws_szNote.T R := laws_szNote.b (laws_szNote.g k) k
/-! ### spec_l6In: function 13 -/
abbrev spec_l6In.T (R : Type) : Type := Int → Int → Int → (Bool → Option R) → Option R
def spec_l6In.con {R : Type} (f : spec_l6In.T R) : Con R := ⟨[], fun args K => match args with
 | [.val false [.s (.int .i64 a0)], .val false [.s (.int .i64 a1)], .val false [.s (.int .i64 a2)]] => f a0 a1 a2 (fun r1 => K ⟨[.val false [.s (.bool r1)]], []⟩)
 | _ => none⟩
structure spec_l6In.Cs (R : Type) where
  none_ : Unit := ()
def spec_l6In.G {R : Type} (g : spec_l6In.Cs R) : Cons R := []
def spec_l6In.H : List (Nat × Meet) := []
def spec_l6In.b {R : Type} (g : spec_l6In.Cs R) (k : Nat) (a0 : Int) (a1 : Int) (a2 : Int) (K : Bool → Option R) : Option R :=
 cond (decide (a1 ≤ a0)) (K (decide (a0 ≤ a2))) (K false)
theorem spec_l6In.evs {R : Type} (g : spec_l6In.Cs R) (k : Nat) (a0 : Int) (a1 : Int) (a2 : Int) (KF : Ret → Option R) : evFunc E (spec_l6In.G g) k spec_l6In.H [] false Tryd.f13 [.val false [.s (.int .i64 a0)], .val false [.s (.int .i64 a1)], .val false [.s (.int .i64 a2)]] KF = spec_l6In.b g k a0 a1 a2 (fun r1 => KF ⟨[.val false [.s (.bool r1)]], []⟩) :=
 by kernel_rfl
def spec_l6In.g {R : Type} (k : Nat) : spec_l6In.Cs R := ⟨()⟩
def spec_l6In.c {R : Type} (k : Nat) : spec_l6In.T R := spec_l6In.b (spec_l6In.g k) k
/-! ### spec_l3Keeper: function 12 -/
abbrev spec_l3Keeper.T (R : Type) : Type := Int → (Bool → Option R) → Option R
def spec_l3Keeper.con {R : Type} (f : spec_l3Keeper.T R) : Con R := ⟨[], fun args K => match args with
 | [.val false [.s (.int .i64 a0)]] => f a0 (fun r1 => K ⟨[.val false [.s (.bool r1)]], []⟩)
 | _ => none⟩
structure spec_l3Keeper.Cs (R : Type) where
  none_ : Unit := ()
  f13 : spec_l6In.T R
def spec_l3Keeper.G {R : Type} (g : spec_l3Keeper.Cs R) : Cons R := [(13, spec_l6In.con g.f13)]
def spec_l3Keeper.H : List (Nat × Meet) := []
def spec_l3Keeper.b {R : Type} (g : spec_l3Keeper.Cs R) (k : Nat) (a0 : Int) (K : Bool → Option R) : Option R :=
 g.f13 a0 0 3 (fun r1 => K r1)
theorem spec_l3Keeper.evs {R : Type} (g : spec_l3Keeper.Cs R) (k : Nat) (a0 : Int) (KF : Ret → Option R) : evFunc E (spec_l3Keeper.G g) k spec_l3Keeper.H [] false Tryd.f12 [.val false [.s (.int .i64 a0)]] KF = spec_l3Keeper.b g k a0 (fun r1 => KF ⟨[.val false [.s (.bool r1)]], []⟩) :=
 by kernel_rfl
def spec_l3Keeper.g {R : Type} (k : Nat) : spec_l3Keeper.Cs R := ⟨(), spec_l6In.c k⟩
def spec_l3Keeper.c {R : Type} (k : Nat) : spec_l3Keeper.T R := spec_l3Keeper.b (spec_l3Keeper.g k) k
/-! ### spec_NoteOk: function 8 -/
abbrev spec_NoteOk.T (R : Type) : Type := Int → Int → Int → Int → ByteArray → (Bool → Option R) → Option R
def spec_NoteOk.con {R : Type} (f : spec_NoteOk.T R) : Con R := ⟨[], fun args K => match args with
 | [.val true [.s (.int .i64 a0_0), .s (.int .i64 a0_1), .s (.int .i64 a0_2), .s (.int .i64 a0_3), .s (.string a0_4)]] => f a0_0 a0_1 a0_2 a0_3 a0_4 (fun r1 => K ⟨[.val false [.s (.bool r1)]], []⟩)
 | _ => none⟩
structure spec_NoteOk.Cs (R : Type) where
  none_ : Unit := ()
  f12 : spec_l3Keeper.T R
  f13 : spec_l6In.T R
def spec_NoteOk.G {R : Type} (g : spec_NoteOk.Cs R) : Cons R := [(12, spec_l3Keeper.con g.f12), (13, spec_l6In.con g.f13)]
def spec_NoteOk.H : List (Nat × Meet) := [(13, ⟨[(1, [])], []⟩), (28, ⟨[(1, []), (3, [])], []⟩), (31, ⟨[(2, [])], []⟩), (53, ⟨[(2, [])], []⟩), (58, ⟨[(1, []), (3, [])], []⟩), (467, ⟨[(1, []), (3, [])], []⟩), (931, ⟨[], []⟩), (7461, ⟨[(2, [])], []⟩)]
def spec_NoteOk.s1 {R : Type} (g : spec_NoteOk.Cs R) (k : Nat) (a0_0 : Int) (a0_1 : Int) (a0_2 : Int) (a0_3 : Int) (a0_4 : ByteArray) (j : Option R) (q : Bool → Option R) : Option R :=
 g.f12 a0_0 (fun r1 => cond (!r1) (q false) (g.f12 a0_2 (fun r2 => cond (!r2) (q false) (g.f13 a0_1 1 99 (fun r3 => cond (!r3) (q false) (g.f13 a0_3 1 999 (fun r4 => cond (!r4) (q false) (cond (decide ((a0_4.size : Int) < 1)) (q false) (cond (decide ((24 : Int) < (a0_4.size : Int))) (q false) (j))))))))))
theorem spec_NoteOk.s1_ev {R : Type} (g : spec_NoteOk.Cs R) (k : Nat) (a0_0 : Int) (a0_1 : Int) (a0_2 : Int) (a0_3 : Int) (a0_4 : ByteArray) (X : St → Option R) (K : Kont R) : evPre E (spec_NoteOk.G g) k spec_NoteOk.H 2 (nodeAt (bodyOf Tryd.f8) []) 1 (mkSt [(0, .agg [.s (.int .i64 a0_0), .s (.int .i64 a0_1), .s (.int .i64 a0_2), .s (.int .i64 a0_3), .s (.string a0_4)])] []) X K = spec_NoteOk.s1 g k a0_0 a0_1 a0_2 a0_3 a0_4 (X (mkSt [(1, .c (.ptr 9001 0 0))] [(9001, .box [.s (.int .i64 a0_0), .s (.int .i64 a0_1), .s (.int .i64 a0_2), .s (.int .i64 a0_3), .s (.string a0_4)])])) (fun v2_0_2 => K .ret (mkSt [(2, .c (.s (.bool v2_0_2)))] [])) := by kernel_rfl
def spec_NoteOk.s2 {R : Type} (g : spec_NoteOk.Cs R) (k : Nat) (a0_0 : Int) (a0_1 : Int) (a0_2 : Int) (a0_3 : Int) (a0_4 : ByteArray) (j : Int → Option R) : Option R :=
 j 0
theorem spec_NoteOk.s2_ev {R : Type} (g : spec_NoteOk.Cs R) (k : Nat) (a0_0 : Int) (a0_1 : Int) (a0_2 : Int) (a0_3 : Int) (a0_4 : ByteArray) (X : St → Option R) (K : Kont R) : evPre E (spec_NoteOk.G g) k spec_NoteOk.H 1 (nodeAt (bodyOf Tryd.f8) [true, true, false]) 14 (mkSt [(1, .c (.ptr 9001 0 0))] [(9001, .box [.s (.int .i64 a0_0), .s (.int .i64 a0_1), .s (.int .i64 a0_2), .s (.int .i64 a0_3), .s (.string a0_4)])]) X K = spec_NoteOk.s2 g k a0_0 a0_1 a0_2 a0_3 a0_4 (fun v3_0_3 => X (mkSt [(1, .c (.ptr 9001 0 0)), (3, .c (.s (.int .i64 v3_0_3)))] [(9001, .box [.s (.int .i64 a0_0), .s (.int .i64 a0_1), .s (.int .i64 a0_2), .s (.int .i64 a0_3), .s (.string a0_4)])])) := by kernel_rfl
def spec_NoteOk.s3 {R : Type} (g : spec_NoteOk.Cs R) (k : Nat) (v3_0_8 : Int) (a0_0 : Int) (a0_1 : Int) (a0_2 : Int) (a0_3 : Int) (a0_4 : ByteArray) (j : Int → Option R) (x0 : Option R) (q : Bool → Option R) : Option R :=
 cond (decide (v3_0_8 < (a0_4.size : Int))) (cond (decide (0 ≤ v3_0_8) && decide (v3_0_8 < (a0_4.size : Int))) (cond (decide ((byteAt a0_4 v3_0_8.toNat) < 32)) (q false) (cond (decide (0 ≤ v3_0_8) && decide (v3_0_8 < (a0_4.size : Int))) (let y1 := (decide ((126 : Int) < (byteAt a0_4 v3_0_8.toNat))); cond y1 (q false) (j (IntKind.wrap .i64 (v3_0_8 + 1)))) none)) none) (x0)
theorem spec_NoteOk.s3_ev {R : Type} (g : spec_NoteOk.Cs R) (k : Nat) (v3_0_8 : Int) (a0_0 : Int) (a0_1 : Int) (a0_2 : Int) (a0_3 : Int) (a0_4 : ByteArray) (K : Kont R) : ev E (spec_NoteOk.G g) k spec_NoteOk.H (nodeAt (bodyOf Tryd.f8) [true, true, false, true, false, false]) 116 (mkSt [(1, .c (.ptr 9001 0 0)), (3, .c (.s (.int .i64 v3_0_8)))] [(9001, .box [.s (.int .i64 a0_0), .s (.int .i64 a0_1), .s (.int .i64 a0_2), .s (.int .i64 a0_3), .s (.string a0_4)])]) K = spec_NoteOk.s3 g k v3_0_8 a0_0 a0_1 a0_2 a0_3 a0_4 (fun v3_0_9 => K .normal (mkSt [(1, .c (.ptr 9001 0 0)), (3, .c (.s (.int .i64 v3_0_9)))] [(9001, .box [.s (.int .i64 a0_0), .s (.int .i64 a0_1), .s (.int .i64 a0_2), .s (.int .i64 a0_3), .s (.string a0_4)])])) (K (.exit 0) (mkSt [] [])) (fun v2_0_11 => K .ret (mkSt [(2, .c (.s (.bool v2_0_11)))] [])) := by kernel_rfl
def spec_NoteOk.l4r {R : Type} (g : spec_NoteOk.Cs R) (k : Nat) (a0_0 : Int) (a0_1 : Int) (a0_2 : Int) (a0_3 : Int) (a0_4 : ByteArray) (x0 : Option R) (q : Bool → Option R) : Nat → Int → Option R
 | 0, _ => none
 | n + 1, v3_0_8 => spec_NoteOk.s3 g k v3_0_8 a0_0 a0_1 a0_2 a0_3 a0_4 (fun v3_0_9 => spec_NoteOk.l4r g k a0_0 a0_1 a0_2 a0_3 a0_4 x0 q n v3_0_9) (x0) (fun v2_0_11 => q v2_0_11)
def spec_NoteOk.l4 {R : Type} (g : spec_NoteOk.Cs R) (k : Nat) (v3_0_3 : Int) (a0_0 : Int) (a0_1 : Int) (a0_2 : Int) (a0_3 : Int) (a0_4 : ByteArray) (x0 : Option R) (q : Bool → Option R) : Option R := spec_NoteOk.l4r g k a0_0 a0_1 a0_2 a0_3 a0_4 x0 q k v3_0_3
theorem spec_NoteOk.l4r_ev {R : Type} (g : spec_NoteOk.Cs R) (k : Nat) (a0_0 : Int) (a0_1 : Int) (a0_2 : Int) (a0_3 : Int) (a0_4 : ByteArray) (K : Kont R) : ∀ (n : Nat) (v3_0_8 : Int), evLoop (ev E (spec_NoteOk.G g) k spec_NoteOk.H (nodeAt (bodyOf Tryd.f8) [true, true, false, true, false, false]) 116) (atMeet spec_NoteOk.H 58) K n (mkSt [(1, .c (.ptr 9001 0 0)), (3, .c (.s (.int .i64 v3_0_8)))] [(9001, .box [.s (.int .i64 a0_0), .s (.int .i64 a0_1), .s (.int .i64 a0_2), .s (.int .i64 a0_3), .s (.string a0_4)])]) = spec_NoteOk.l4r g k a0_0 a0_1 a0_2 a0_3 a0_4 (K (.exit 0) (mkSt [] [])) (fun v2_0_13 => K .ret (mkSt [(2, .c (.s (.bool v2_0_13)))] [])) n v3_0_8 := by
 intro n
 induction n with
 | zero => intros; rfl
 | succ n ih =>
  intro v3_0_8
  exact (show _ = (ev E (spec_NoteOk.G g) k spec_NoteOk.H (nodeAt (bodyOf Tryd.f8) [true, true, false, true, false, false]) 116) (mkSt [(1, .c (.ptr 9001 0 0)), (3, .c (.s (.int .i64 v3_0_8)))] [(9001, .box [.s (.int .i64 a0_0), .s (.int .i64 a0_1), .s (.int .i64 a0_2), .s (.int .i64 a0_3), .s (.string a0_4)])]) (loopK (ev E (spec_NoteOk.G g) k spec_NoteOk.H (nodeAt (bodyOf Tryd.f8) [true, true, false, true, false, false]) 116) (atMeet spec_NoteOk.H 58) K n) from by kernel_rfl).trans ((spec_NoteOk.s3_ev g k v3_0_8 a0_0 a0_1 a0_2 a0_3 a0_4 (loopK (ev E (spec_NoteOk.G g) k spec_NoteOk.H (nodeAt (bodyOf Tryd.f8) [true, true, false, true, false, false]) 116) (atMeet spec_NoteOk.H 58) K n)).trans ((show _ = spec_NoteOk.s3 g k v3_0_8 a0_0 a0_1 a0_2 a0_3 a0_4 (fun v3_0_9 => evLoop (ev E (spec_NoteOk.G g) k spec_NoteOk.H (nodeAt (bodyOf Tryd.f8) [true, true, false, true, false, false]) 116) (atMeet spec_NoteOk.H 58) K n (mkSt [(1, .c (.ptr 9001 0 0)), (3, .c (.s (.int .i64 v3_0_9)))] [(9001, .box [.s (.int .i64 a0_0), .s (.int .i64 a0_1), .s (.int .i64 a0_2), .s (.int .i64 a0_3), .s (.string a0_4)])])) (K (.exit 0) (mkSt [] [])) (fun v2_0_11 => K .ret (mkSt [(2, .c (.s (.bool v2_0_11)))] [])) from by kernel_rfl).trans (congrArg (fun f_ => spec_NoteOk.s3 g k v3_0_8 a0_0 a0_1 a0_2 a0_3 a0_4 f_ (K (.exit 0) (mkSt [] [])) (fun v2_0_11 => K .ret (mkSt [(2, .c (.s (.bool v2_0_11)))] []))) (funext fun (v3_0_9 : Int) => (ih v3_0_9)))))
theorem spec_NoteOk.l4_ev {R : Type} (g : spec_NoteOk.Cs R) (k : Nat) (v3_0_3 : Int) (a0_0 : Int) (a0_1 : Int) (a0_2 : Int) (a0_3 : Int) (a0_4 : ByteArray) (K : Kont R) : ev E (spec_NoteOk.G g) k spec_NoteOk.H (nodeAt (bodyOf Tryd.f8) [true, true, false, true, false]) 58 (mkSt [(1, .c (.ptr 9001 0 0)), (3, .c (.s (.int .i64 v3_0_3)))] [(9001, .box [.s (.int .i64 a0_0), .s (.int .i64 a0_1), .s (.int .i64 a0_2), .s (.int .i64 a0_3), .s (.string a0_4)])]) K = spec_NoteOk.l4 g k v3_0_3 a0_0 a0_1 a0_2 a0_3 a0_4 (K (.exit 0) (mkSt [] [])) (fun v2_0_13 => K .ret (mkSt [(2, .c (.s (.bool v2_0_13)))] [])) :=
 (show _ = evLoop (ev E (spec_NoteOk.G g) k spec_NoteOk.H (nodeAt (bodyOf Tryd.f8) [true, true, false, true, false, false]) 116) (atMeet spec_NoteOk.H 58) K k (mkSt [(1, .c (.ptr 9001 0 0)), (3, .c (.s (.int .i64 v3_0_3)))] [(9001, .box [.s (.int .i64 a0_0), .s (.int .i64 a0_1), .s (.int .i64 a0_2), .s (.int .i64 a0_3), .s (.string a0_4)])]) from by kernel_rfl).trans (spec_NoteOk.l4r_ev g k a0_0 a0_1 a0_2 a0_3 a0_4 K k v3_0_3)
def spec_NoteOk.b5 {R : Type} (g : spec_NoteOk.Cs R) (k : Nat) (v3_0_3 : Int) (a0_0 : Int) (a0_1 : Int) (a0_2 : Int) (a0_3 : Int) (a0_4 : ByteArray) (j : Option R) (q : Bool → Option R) : Option R :=
 spec_NoteOk.l4 g k v3_0_3 a0_0 a0_1 a0_2 a0_3 a0_4 (j) (fun v2_0_13 => q v2_0_13)
theorem spec_NoteOk.b5_ev {R : Type} (g : spec_NoteOk.Cs R) (k : Nat) (v3_0_3 : Int) (a0_0 : Int) (a0_1 : Int) (a0_2 : Int) (a0_3 : Int) (a0_4 : ByteArray) (K : Kont R) : ev E (spec_NoteOk.G g) k spec_NoteOk.H (nodeAt (bodyOf Tryd.f8) [true, true, false, true]) 29 (mkSt [(1, .c (.ptr 9001 0 0)), (3, .c (.s (.int .i64 v3_0_3)))] [(9001, .box [.s (.int .i64 a0_0), .s (.int .i64 a0_1), .s (.int .i64 a0_2), .s (.int .i64 a0_3), .s (.string a0_4)])]) K = spec_NoteOk.b5 g k v3_0_3 a0_0 a0_1 a0_2 a0_3 a0_4 (K .normal (mkSt [] [])) (fun v2_0_15 => K .ret (mkSt [(2, .c (.s (.bool v2_0_15)))] [])) :=
 (show _ = ev E (spec_NoteOk.G g) k spec_NoteOk.H (nodeAt (bodyOf Tryd.f8) [true, true, false, true, false]) 58 (mkSt [(1, .c (.ptr 9001 0 0)), (3, .c (.s (.int .i64 v3_0_3)))] [(9001, .box [.s (.int .i64 a0_0), .s (.int .i64 a0_1), .s (.int .i64 a0_2), .s (.int .i64 a0_3), .s (.string a0_4)])]) (blockK 0 (fun st => K .normal (atMeet spec_NoteOk.H 29 st)) K) from by kernel_rfl).trans ((spec_NoteOk.l4_ev g k v3_0_3 a0_0 a0_1 a0_2 a0_3 a0_4 (blockK 0 (fun st => K .normal (atMeet spec_NoteOk.H 29 st)) K)).trans (by kernel_rfl))
def spec_NoteOk.c6 {R : Type} (g : spec_NoteOk.Cs R) (k : Nat) (a0_0 : Int) (a0_1 : Int) (a0_2 : Int) (a0_3 : Int) (a0_4 : ByteArray) (j : Option R) (q : Bool → Option R) : Option R :=
 spec_NoteOk.s2 g k a0_0 a0_1 a0_2 a0_3 a0_4 (fun v3_0_3 => spec_NoteOk.b5 g k v3_0_3 a0_0 a0_1 a0_2 a0_3 a0_4 (j) (fun v2_0_15 => q v2_0_15))
theorem spec_NoteOk.c6_ev {R : Type} (g : spec_NoteOk.Cs R) (k : Nat) (a0_0 : Int) (a0_1 : Int) (a0_2 : Int) (a0_3 : Int) (a0_4 : ByteArray) (K : Kont R) : ev E (spec_NoteOk.G g) k spec_NoteOk.H (nodeAt (bodyOf Tryd.f8) [true, true, false]) 14 (mkSt [(1, .c (.ptr 9001 0 0))] [(9001, .box [.s (.int .i64 a0_0), .s (.int .i64 a0_1), .s (.int .i64 a0_2), .s (.int .i64 a0_3), .s (.string a0_4)])]) K = spec_NoteOk.c6 g k a0_0 a0_1 a0_2 a0_3 a0_4 (K .normal (mkSt [] [])) (fun v2_0_17 => K .ret (mkSt [(2, .c (.s (.bool v2_0_17)))] [])) :=
 ((show ev E (spec_NoteOk.G g) k spec_NoteOk.H (nodeAt (bodyOf Tryd.f8) [true, true, false]) 14 (mkSt [(1, .c (.ptr 9001 0 0))] [(9001, .box [.s (.int .i64 a0_0), .s (.int .i64 a0_1), .s (.int .i64 a0_2), .s (.int .i64 a0_3), .s (.string a0_4)])]) K = evPre E (spec_NoteOk.G g) k spec_NoteOk.H 1 (nodeAt (bodyOf Tryd.f8) [true, true, false]) 14 (mkSt [(1, .c (.ptr 9001 0 0))] [(9001, .box [.s (.int .i64 a0_0), .s (.int .i64 a0_1), .s (.int .i64 a0_2), .s (.int .i64 a0_3), .s (.string a0_4)])]) (fun st => ev E (spec_NoteOk.G g) k spec_NoteOk.H (nodeAt (bodyOf Tryd.f8) [true, true, false, true]) 29 st K) K from by kernel_rfl).trans (spec_NoteOk.s2_ev g k a0_0 a0_1 a0_2 a0_3 a0_4 (fun st => ev E (spec_NoteOk.G g) k spec_NoteOk.H (nodeAt (bodyOf Tryd.f8) [true, true, false, true]) 29 st K) K)).trans (congrArg (fun f_ => spec_NoteOk.s2 g k a0_0 a0_1 a0_2 a0_3 a0_4 f_) (funext fun (v3_0_3 : Int) => (spec_NoteOk.b5_ev g k v3_0_3 a0_0 a0_1 a0_2 a0_3 a0_4 K)))
def spec_NoteOk.s7 {R : Type} (g : spec_NoteOk.Cs R) (k : Nat)  (q : Bool → Option R) : Option R :=
 q true
theorem spec_NoteOk.s7_ev {R : Type} (g : spec_NoteOk.Cs R) (k : Nat)  (K : Kont R) : ev E (spec_NoteOk.G g) k spec_NoteOk.H (nodeAt (bodyOf Tryd.f8) [true, true, true]) 15 (mkSt [] []) K = spec_NoteOk.s7 g k (fun v2_0_18 => K .ret (mkSt [(2, .c (.s (.bool v2_0_18)))] [])) := by kernel_rfl
def spec_NoteOk.c8 {R : Type} (g : spec_NoteOk.Cs R) (k : Nat) (a0_0 : Int) (a0_1 : Int) (a0_2 : Int) (a0_3 : Int) (a0_4 : ByteArray) (q : Bool → Option R) : Option R :=
 spec_NoteOk.c6 g k a0_0 a0_1 a0_2 a0_3 a0_4 (spec_NoteOk.s7 g k (fun v2_0_18 => q v2_0_18)) (fun v2_0_17 => q v2_0_17)
theorem spec_NoteOk.c8_ev {R : Type} (g : spec_NoteOk.Cs R) (k : Nat) (a0_0 : Int) (a0_1 : Int) (a0_2 : Int) (a0_3 : Int) (a0_4 : ByteArray) (K : Kont R) : ev E (spec_NoteOk.G g) k spec_NoteOk.H (nodeAt (bodyOf Tryd.f8) [true, true]) 7 (mkSt [(1, .c (.ptr 9001 0 0))] [(9001, .box [.s (.int .i64 a0_0), .s (.int .i64 a0_1), .s (.int .i64 a0_2), .s (.int .i64 a0_3), .s (.string a0_4)])]) K = spec_NoteOk.c8 g k a0_0 a0_1 a0_2 a0_3 a0_4 (fun v2_0_19 => K .ret (mkSt [(2, .c (.s (.bool v2_0_19)))] [])) :=
 ((show ev E (spec_NoteOk.G g) k spec_NoteOk.H (nodeAt (bodyOf Tryd.f8) [true, true]) 7 (mkSt [(1, .c (.ptr 9001 0 0))] [(9001, .box [.s (.int .i64 a0_0), .s (.int .i64 a0_1), .s (.int .i64 a0_2), .s (.int .i64 a0_3), .s (.string a0_4)])]) K = ev E (spec_NoteOk.G g) k spec_NoteOk.H (nodeAt (bodyOf Tryd.f8) [true, true, false]) 14 (mkSt [(1, .c (.ptr 9001 0 0))] [(9001, .box [.s (.int .i64 a0_0), .s (.int .i64 a0_1), .s (.int .i64 a0_2), .s (.int .i64 a0_3), .s (.string a0_4)])]) (seqK (fun st => ev E (spec_NoteOk.G g) k spec_NoteOk.H (nodeAt (bodyOf Tryd.f8) [true, true, true]) 15 st K) K) from by kernel_rfl).trans (spec_NoteOk.c6_ev g k a0_0 a0_1 a0_2 a0_3 a0_4 (seqK (fun st => ev E (spec_NoteOk.G g) k spec_NoteOk.H (nodeAt (bodyOf Tryd.f8) [true, true, true]) 15 st K) K))).trans (congrArg (fun f_ => spec_NoteOk.c6 g k a0_0 a0_1 a0_2 a0_3 a0_4 f_ (fun v2_0_17 => K .ret (mkSt [(2, .c (.s (.bool v2_0_17)))] []))) (spec_NoteOk.s7_ev g k K))
def spec_NoteOk.c9 {R : Type} (g : spec_NoteOk.Cs R) (k : Nat) (a0_0 : Int) (a0_1 : Int) (a0_2 : Int) (a0_3 : Int) (a0_4 : ByteArray) (q : Bool → Option R) : Option R :=
 spec_NoteOk.s1 g k a0_0 a0_1 a0_2 a0_3 a0_4 (spec_NoteOk.c8 g k a0_0 a0_1 a0_2 a0_3 a0_4 (fun v2_0_19 => q v2_0_19)) (fun v2_0_2 => q v2_0_2)
theorem spec_NoteOk.c9_ev {R : Type} (g : spec_NoteOk.Cs R) (k : Nat) (a0_0 : Int) (a0_1 : Int) (a0_2 : Int) (a0_3 : Int) (a0_4 : ByteArray) (K : Kont R) : ev E (spec_NoteOk.G g) k spec_NoteOk.H (nodeAt (bodyOf Tryd.f8) []) 1 (mkSt [(0, .agg [.s (.int .i64 a0_0), .s (.int .i64 a0_1), .s (.int .i64 a0_2), .s (.int .i64 a0_3), .s (.string a0_4)])] []) K = spec_NoteOk.c9 g k a0_0 a0_1 a0_2 a0_3 a0_4 (fun v2_0_20 => K .ret (mkSt [(2, .c (.s (.bool v2_0_20)))] [])) :=
 ((show ev E (spec_NoteOk.G g) k spec_NoteOk.H (nodeAt (bodyOf Tryd.f8) []) 1 (mkSt [(0, .agg [.s (.int .i64 a0_0), .s (.int .i64 a0_1), .s (.int .i64 a0_2), .s (.int .i64 a0_3), .s (.string a0_4)])] []) K = evPre E (spec_NoteOk.G g) k spec_NoteOk.H 2 (nodeAt (bodyOf Tryd.f8) []) 1 (mkSt [(0, .agg [.s (.int .i64 a0_0), .s (.int .i64 a0_1), .s (.int .i64 a0_2), .s (.int .i64 a0_3), .s (.string a0_4)])] []) (fun st => ev E (spec_NoteOk.G g) k spec_NoteOk.H (nodeAt (bodyOf Tryd.f8) [true, true]) 7 st K) K from by kernel_rfl).trans (spec_NoteOk.s1_ev g k a0_0 a0_1 a0_2 a0_3 a0_4 (fun st => ev E (spec_NoteOk.G g) k spec_NoteOk.H (nodeAt (bodyOf Tryd.f8) [true, true]) 7 st K) K)).trans (congrArg (fun f_ => spec_NoteOk.s1 g k a0_0 a0_1 a0_2 a0_3 a0_4 f_ (fun v2_0_2 => K .ret (mkSt [(2, .c (.s (.bool v2_0_2)))] []))) (spec_NoteOk.c8_ev g k a0_0 a0_1 a0_2 a0_3 a0_4 K))
def spec_NoteOk.b {R : Type} (g : spec_NoteOk.Cs R) (k : Nat) (a0_0 : Int) (a0_1 : Int) (a0_2 : Int) (a0_3 : Int) (a0_4 : ByteArray) (K : Bool → Option R) : Option R :=
 spec_NoteOk.c9 g k a0_0 a0_1 a0_2 a0_3 a0_4 (fun v2_0_20 => K v2_0_20)
theorem spec_NoteOk.evs {R : Type} (g : spec_NoteOk.Cs R) (k : Nat) (a0_0 : Int) (a0_1 : Int) (a0_2 : Int) (a0_3 : Int) (a0_4 : ByteArray) (KF : Ret → Option R) : evFunc E (spec_NoteOk.G g) k spec_NoteOk.H [] false Tryd.f8 [.val true [.s (.int .i64 a0_0), .s (.int .i64 a0_1), .s (.int .i64 a0_2), .s (.int .i64 a0_3), .s (.string a0_4)]] KF = spec_NoteOk.b g k a0_0 a0_1 a0_2 a0_3 a0_4 (fun r1 => KF ⟨[.val false [.s (.bool r1)]], []⟩) :=
 (show _ = ev E (spec_NoteOk.G g) k spec_NoteOk.H (nodeAt (bodyOf Tryd.f8) []) 1 (mkSt [(0, .agg [.s (.int .i64 a0_0), .s (.int .i64 a0_1), .s (.int .i64 a0_2), .s (.int .i64 a0_3), .s (.string a0_4)])] []) (fin E.P false Tryd.f8 [] KF) from by kernel_rfl).trans ((spec_NoteOk.c9_ev g k a0_0 a0_1 a0_2 a0_3 a0_4 (fin E.P false Tryd.f8 [] KF)).trans (by kernel_rfl))
def spec_NoteOk.g {R : Type} (k : Nat) : spec_NoteOk.Cs R := ⟨(), spec_l3Keeper.c k, spec_l6In.c k⟩
def spec_NoteOk.c {R : Type} (k : Nat) : spec_NoteOk.T R := spec_NoteOk.b (spec_NoteOk.g k) k
/-! ### spec_l6Dec: function 9 -/
abbrev spec_l6Dec.T (R : Type) : Type := Int → (ByteArray → Option R) → Option R
def spec_l6Dec.con {R : Type} (f : spec_l6Dec.T R) : Con R := ⟨[], fun args K => match args with
 | [.val false [.s (.int .i64 a0)]] => f a0 (fun r1 => K ⟨[.val false [.s (.string r1)]], []⟩)
 | _ => none⟩
structure spec_l6Dec.Cs (R : Type) where
  none_ : Unit := ()
  f9 : spec_l6Dec.T R
def spec_l6Dec.G {R : Type} (g : spec_l6Dec.Cs R) : Cons R := [(9, spec_l6Dec.con g.f9)]
def spec_l6Dec.H : List (Nat × Meet) := []
def spec_l6Dec.b {R : Type} (g : spec_l6Dec.Cs R) (k : Nat) (a0 : Int) (K : ByteArray → Option R) : Option R :=
 cond (decide (a0 < (-9223372036854775807))) (K (ByteArray.mk #[45, 57, 50, 50, 51, 51, 55, 50, 48, 51, 54, 56, 53, 52, 55, 55, 53, 56, 48, 56])) (cond (decide (a0 < 0)) (g.f9 (IntKind.wrap .i64 (0 - a0)) (fun r1 => cond (decide ((ByteArray.mk #[45]).size + r1.size ≤ 9223372036854775807)) (K ((ByteArray.mk #[45]) ++ r1)) none)) (cond (decide (a0 < 10)) (let y2 := (IntKind.wrap .u8 ((IntKind.wrap .i64 ((48 : Int) + a0)))); K (ofBytes ([y2] : List Int))) (cond (!decide ((10 : Int) = 0)) (g.f9 (IntKind.wrap .i64 (Int.tdiv a0 10)) (fun r3 => cond (!decide ((10 : Int) = 0)) (let y4 := (IntKind.wrap .i64 ((48 : Int) + (Int.tmod a0 10))); cond (decide (r3.size + (ofBytes ([(IntKind.wrap .u8 (y4))] : List Int)).size ≤ 9223372036854775807)) (let y5 := (r3 ++ (ofBytes ([(IntKind.wrap .u8 (y4))] : List Int))); K y5) none) none)) none)))
theorem spec_l6Dec.evs {R : Type} (g : spec_l6Dec.Cs R) (k : Nat) (a0 : Int) (KF : Ret → Option R) : evFunc E (spec_l6Dec.G g) k spec_l6Dec.H [] false Tryd.f9 [.val false [.s (.int .i64 a0)]] KF = spec_l6Dec.b g k a0 (fun r1 => KF ⟨[.val false [.s (.string r1)]], []⟩) :=
 by kernel_rfl
def spec_l6Dec.c {R : Type} : Nat → spec_l6Dec.T R
 | 0 => fun _ _ => none
 | k + 1 => spec_l6Dec.b ⟨(), spec_l6Dec.c k⟩ k
def spec_l6Dec.g {R : Type} (k : Nat) : spec_l6Dec.Cs R := ⟨(), spec_l6Dec.c k⟩
/-! ### spec_NoteWrite: function 5 -/
abbrev spec_NoteWrite.T (R : Type) : Type := Int → Int → Int → Int → ByteArray → (ByteArray → Option R) → Option R
def spec_NoteWrite.con {R : Type} (f : spec_NoteWrite.T R) : Con R := ⟨[], fun args K => match args with
 | [.val true [.s (.int .i64 a0_0), .s (.int .i64 a0_1), .s (.int .i64 a0_2), .s (.int .i64 a0_3), .s (.string a0_4)]] => f a0_0 a0_1 a0_2 a0_3 a0_4 (fun r1 => K ⟨[.val false [.s (.string r1)]], []⟩)
 | _ => none⟩
structure spec_NoteWrite.Cs (R : Type) where
  none_ : Unit := ()
  f8 : spec_NoteOk.T R
  f9 : spec_l6Dec.T R
def spec_NoteWrite.G {R : Type} (g : spec_NoteWrite.Cs R) : Cons R := [(8, spec_NoteOk.con g.f8), (9, spec_l6Dec.con g.f9)]
def spec_NoteWrite.H : List (Nat × Meet) := []
def spec_NoteWrite.b {R : Type} (g : spec_NoteWrite.Cs R) (k : Nat) (a0_0 : Int) (a0_1 : Int) (a0_2 : Int) (a0_3 : Int) (a0_4 : ByteArray) (K : ByteArray → Option R) : Option R :=
 g.f8 a0_0 a0_1 a0_2 a0_3 a0_4 (fun r1 => cond (!r1) (K (ByteArray.mk #[])) (g.f9 a0_0 (fun r2 => cond (decide (r2.size + (ByteArray.mk #[32]).size ≤ 9223372036854775807)) (g.f9 a0_1 (fun r3 => cond (decide ((r2 ++ (ByteArray.mk #[32])).size + r3.size ≤ 9223372036854775807)) (cond (decide (((r2 ++ (ByteArray.mk #[32])) ++ r3).size + (ByteArray.mk #[32]).size ≤ 9223372036854775807)) (let y4 := (((r2 ++ (ByteArray.mk #[32])) ++ r3) ++ (ByteArray.mk #[32])); g.f9 a0_2 (fun r5 => cond (decide (y4.size + r5.size ≤ 9223372036854775807)) (cond (decide ((y4 ++ r5).size + (ByteArray.mk #[32]).size ≤ 9223372036854775807)) (g.f9 a0_3 (fun r6 => cond (decide (((y4 ++ r5) ++ (ByteArray.mk #[32])).size + r6.size ≤ 9223372036854775807)) (cond (decide ((((y4 ++ r5) ++ (ByteArray.mk #[32])) ++ r6).size + (ByteArray.mk #[32]).size ≤ 9223372036854775807)) (let y7 := ((((y4 ++ r5) ++ (ByteArray.mk #[32])) ++ r6) ++ (ByteArray.mk #[32])); cond (decide (y7.size + a0_4.size ≤ 9223372036854775807)) (K (y7 ++ a0_4)) none) none) none)) none) none)) none) none)) none)))
theorem spec_NoteWrite.evs {R : Type} (g : spec_NoteWrite.Cs R) (k : Nat) (a0_0 : Int) (a0_1 : Int) (a0_2 : Int) (a0_3 : Int) (a0_4 : ByteArray) (KF : Ret → Option R) : evFunc E (spec_NoteWrite.G g) k spec_NoteWrite.H [] false Tryd.f5 [.val true [.s (.int .i64 a0_0), .s (.int .i64 a0_1), .s (.int .i64 a0_2), .s (.int .i64 a0_3), .s (.string a0_4)]] KF = spec_NoteWrite.b g k a0_0 a0_1 a0_2 a0_3 a0_4 (fun r1 => KF ⟨[.val false [.s (.string r1)]], []⟩) :=
 by kernel_rfl
def spec_NoteWrite.g {R : Type} (k : Nat) : spec_NoteWrite.Cs R := ⟨(), spec_NoteOk.c k, spec_l6Dec.c k⟩
def spec_NoteWrite.c {R : Type} (k : Nat) : spec_NoteWrite.T R := spec_NoteWrite.b (spec_NoteWrite.g k) k
/-! ### laws_toNote: function 6 -/
abbrev laws_toNote.T (R : Type) : Type := Int → Int → Int → Int → ByteArray → (Int → Int → Int → Int → ByteArray → Option R) → Option R
def laws_toNote.con {R : Type} (f : laws_toNote.T R) : Con R := ⟨[], fun args K => match args with
 | [.val true [.s (.int .i64 a0_0), .s (.int .i64 a0_1), .s (.int .i64 a0_2), .s (.int .i64 a0_3), .s (.string a0_4)]] => f a0_0 a0_1 a0_2 a0_3 a0_4 (fun r1 r2 r3 r4 r5 => K ⟨[.val true [.s (.int .i64 r1), .s (.int .i64 r2), .s (.int .i64 r3), .s (.int .i64 r4), .s (.string r5)]], []⟩)
 | _ => none⟩
structure laws_toNote.Cs (R : Type) where
  none_ : Unit := ()
def laws_toNote.G {R : Type} (g : laws_toNote.Cs R) : Cons R := []
def laws_toNote.H : List (Nat × Meet) := []
def laws_toNote.b {R : Type} (g : laws_toNote.Cs R) (k : Nat) (a0_0 : Int) (a0_1 : Int) (a0_2 : Int) (a0_3 : Int) (a0_4 : ByteArray) (K : Int → Int → Int → Int → ByteArray → Option R) : Option R :=
 K a0_0 a0_1 a0_2 a0_3 a0_4
theorem laws_toNote.evs {R : Type} (g : laws_toNote.Cs R) (k : Nat) (a0_0 : Int) (a0_1 : Int) (a0_2 : Int) (a0_3 : Int) (a0_4 : ByteArray) (KF : Ret → Option R) : evFunc E (laws_toNote.G g) k laws_toNote.H [] false Tryd.f6 [.val true [.s (.int .i64 a0_0), .s (.int .i64 a0_1), .s (.int .i64 a0_2), .s (.int .i64 a0_3), .s (.string a0_4)]] KF = laws_toNote.b g k a0_0 a0_1 a0_2 a0_3 a0_4 (fun r1 r2 r3 r4 r5 => KF ⟨[.val true [.s (.int .i64 r1), .s (.int .i64 r2), .s (.int .i64 r3), .s (.int .i64 r4), .s (.string r5)]], []⟩) :=
 by kernel_rfl
def laws_toNote.g {R : Type} (k : Nat) : laws_toNote.Cs R := ⟨()⟩
def laws_toNote.c {R : Type} (k : Nat) : laws_toNote.T R := laws_toNote.b (laws_toNote.g k) k
/-! ### impl_in: function 15 -/
abbrev impl_in.T (R : Type) : Type := Int → Int → Int → (Bool → Option R) → Option R
def impl_in.con {R : Type} (f : impl_in.T R) : Con R := ⟨[], fun args K => match args with
 | [.val false [.s (.int .i64 a0)], .val false [.s (.int .i64 a1)], .val false [.s (.int .i64 a2)]] => f a0 a1 a2 (fun r1 => K ⟨[.val false [.s (.bool r1)]], []⟩)
 | _ => none⟩
structure impl_in.Cs (R : Type) where
  none_ : Unit := ()
def impl_in.G {R : Type} (g : impl_in.Cs R) : Cons R := []
def impl_in.H : List (Nat × Meet) := []
def impl_in.b {R : Type} (g : impl_in.Cs R) (k : Nat) (a0 : Int) (a1 : Int) (a2 : Int) (K : Bool → Option R) : Option R :=
 cond (decide (a1 ≤ a0)) (K (decide (a0 ≤ a2))) (K false)
theorem impl_in.evs {R : Type} (g : impl_in.Cs R) (k : Nat) (a0 : Int) (a1 : Int) (a2 : Int) (KF : Ret → Option R) : evFunc E (impl_in.G g) k impl_in.H [] false Tryd.f15 [.val false [.s (.int .i64 a0)], .val false [.s (.int .i64 a1)], .val false [.s (.int .i64 a2)]] KF = impl_in.b g k a0 a1 a2 (fun r1 => KF ⟨[.val false [.s (.bool r1)]], []⟩) :=
 by kernel_rfl
def impl_in.g {R : Type} (k : Nat) : impl_in.Cs R := ⟨()⟩
def impl_in.c {R : Type} (k : Nat) : impl_in.T R := impl_in.b (impl_in.g k) k
/-! ### impl_isNode: function 14 -/
abbrev impl_isNode.T (R : Type) : Type := Int → (Bool → Option R) → Option R
def impl_isNode.con {R : Type} (f : impl_isNode.T R) : Con R := ⟨[], fun args K => match args with
 | [.val false [.s (.int .i64 a0)]] => f a0 (fun r1 => K ⟨[.val false [.s (.bool r1)]], []⟩)
 | _ => none⟩
structure impl_isNode.Cs (R : Type) where
  none_ : Unit := ()
  f15 : impl_in.T R
def impl_isNode.G {R : Type} (g : impl_isNode.Cs R) : Cons R := [(15, impl_in.con g.f15)]
def impl_isNode.H : List (Nat × Meet) := []
def impl_isNode.b {R : Type} (g : impl_isNode.Cs R) (k : Nat) (a0 : Int) (K : Bool → Option R) : Option R :=
 g.f15 a0 0 3 (fun r1 => K r1)
theorem impl_isNode.evs {R : Type} (g : impl_isNode.Cs R) (k : Nat) (a0 : Int) (KF : Ret → Option R) : evFunc E (impl_isNode.G g) k impl_isNode.H [] false Tryd.f14 [.val false [.s (.int .i64 a0)]] KF = impl_isNode.b g k a0 (fun r1 => KF ⟨[.val false [.s (.bool r1)]], []⟩) :=
 by kernel_rfl
def impl_isNode.g {R : Type} (k : Nat) : impl_isNode.Cs R := ⟨(), impl_in.c k⟩
def impl_isNode.c {R : Type} (k : Nat) : impl_isNode.T R := impl_isNode.b (impl_isNode.g k) k
/-! ### impl_textOk: function 16 -/
abbrev impl_textOk.T (R : Type) : Type := ByteArray → (Bool → Option R) → Option R
def impl_textOk.con {R : Type} (f : impl_textOk.T R) : Con R := ⟨[], fun args K => match args with
 | [.val false [.s (.string a0)]] => f a0 (fun r1 => K ⟨[.val false [.s (.bool r1)]], []⟩)
 | _ => none⟩
structure impl_textOk.Cs (R : Type) where
  none_ : Unit := ()
  f15 : impl_in.T R
def impl_textOk.G {R : Type} (g : impl_textOk.Cs R) : Cons R := [(15, impl_in.con g.f15)]
def impl_textOk.H : List (Nat × Meet) := [(2, ⟨[(0, [])], []⟩), (12, ⟨[(0, []), (3, [])], []⟩), (15, ⟨[(2, [])], []⟩), (26, ⟨[(0, []), (3, [])], []⟩), (211, ⟨[(0, []), (3, [])], []⟩), (419, ⟨[(0, [])], []⟩), (3365, ⟨[(2, [])], []⟩)]
def impl_textOk.s1 {R : Type} (g : impl_textOk.Cs R) (k : Nat) (a0 : ByteArray) (j : Option R) : Option R :=
 j
theorem impl_textOk.s1_ev {R : Type} (g : impl_textOk.Cs R) (k : Nat) (a0 : ByteArray) (X : St → Option R) (K : Kont R) : evPre E (impl_textOk.G g) k impl_textOk.H 1 (nodeAt (bodyOf Tryd.f16) []) 1 (mkSt [(0, .c (.s (.string a0)))] []) X K = impl_textOk.s1 g k a0 (X (mkSt [(0, .c (.s (.string a0)))] [])) := by kernel_rfl
def impl_textOk.s2 {R : Type} (g : impl_textOk.Cs R) (k : Nat) (a0 : ByteArray) (j : Int → Option R) : Option R :=
 j 0
theorem impl_textOk.s2_ev {R : Type} (g : impl_textOk.Cs R) (k : Nat) (a0 : ByteArray) (X : St → Option R) (K : Kont R) : evPre E (impl_textOk.G g) k impl_textOk.H 1 (nodeAt (bodyOf Tryd.f16) [true, false]) 6 (mkSt [(0, .c (.s (.string a0)))] []) X K = impl_textOk.s2 g k a0 (fun v3_0_2 => X (mkSt [(0, .c (.s (.string a0))), (3, .c (.s (.int .i64 v3_0_2)))] [])) := by kernel_rfl
def impl_textOk.s3 {R : Type} (g : impl_textOk.Cs R) (k : Nat) (a0 : ByteArray) (v3_0_7 : Int) (j : Int → Option R) (x0 : Option R) (q : Bool → Option R) : Option R :=
 cond (decide (v3_0_7 < (a0.size : Int))) (cond (decide (0 ≤ v3_0_7) && decide (v3_0_7 < (a0.size : Int))) (g.f15 (IntKind.wrap .i64 ((byteAt a0 v3_0_7.toNat))) 32 126 (fun r1 => cond (!r1) (q false) (j (IntKind.wrap .i64 (v3_0_7 + 1))))) none) (x0)
theorem impl_textOk.s3_ev {R : Type} (g : impl_textOk.Cs R) (k : Nat) (a0 : ByteArray) (v3_0_7 : Int) (K : Kont R) : ev E (impl_textOk.G g) k impl_textOk.H (nodeAt (bodyOf Tryd.f16) [true, false, true, false, false]) 52 (mkSt [(0, .c (.s (.string a0))), (3, .c (.s (.int .i64 v3_0_7)))] []) K = impl_textOk.s3 g k a0 v3_0_7 (fun v3_0_8 => K .normal (mkSt [(0, .c (.s (.string a0))), (3, .c (.s (.int .i64 v3_0_8)))] [])) (K (.exit 0) (mkSt [(0, .c (.s (.string a0)))] [])) (fun v2_0_10 => K .ret (mkSt [(2, .c (.s (.bool v2_0_10)))] [])) := by kernel_rfl
def impl_textOk.l4r {R : Type} (g : impl_textOk.Cs R) (k : Nat) (a0 : ByteArray) (x0 : Option R) (q : Bool → Option R) : Nat → Int → Option R
 | 0, _ => none
 | n + 1, v3_0_7 => impl_textOk.s3 g k a0 v3_0_7 (fun v3_0_8 => impl_textOk.l4r g k a0 x0 q n v3_0_8) (x0) (fun v2_0_10 => q v2_0_10)
def impl_textOk.l4 {R : Type} (g : impl_textOk.Cs R) (k : Nat) (a0 : ByteArray) (v3_0_2 : Int) (x0 : Option R) (q : Bool → Option R) : Option R := impl_textOk.l4r g k a0 x0 q k v3_0_2
theorem impl_textOk.l4r_ev {R : Type} (g : impl_textOk.Cs R) (k : Nat) (a0 : ByteArray) (K : Kont R) : ∀ (n : Nat) (v3_0_7 : Int), evLoop (ev E (impl_textOk.G g) k impl_textOk.H (nodeAt (bodyOf Tryd.f16) [true, false, true, false, false]) 52) (atMeet impl_textOk.H 26) K n (mkSt [(0, .c (.s (.string a0))), (3, .c (.s (.int .i64 v3_0_7)))] []) = impl_textOk.l4r g k a0 (K (.exit 0) (mkSt [(0, .c (.s (.string a0)))] [])) (fun v2_0_12 => K .ret (mkSt [(2, .c (.s (.bool v2_0_12)))] [])) n v3_0_7 := by
 intro n
 induction n with
 | zero => intros; rfl
 | succ n ih =>
  intro v3_0_7
  exact (show _ = (ev E (impl_textOk.G g) k impl_textOk.H (nodeAt (bodyOf Tryd.f16) [true, false, true, false, false]) 52) (mkSt [(0, .c (.s (.string a0))), (3, .c (.s (.int .i64 v3_0_7)))] []) (loopK (ev E (impl_textOk.G g) k impl_textOk.H (nodeAt (bodyOf Tryd.f16) [true, false, true, false, false]) 52) (atMeet impl_textOk.H 26) K n) from by kernel_rfl).trans ((impl_textOk.s3_ev g k a0 v3_0_7 (loopK (ev E (impl_textOk.G g) k impl_textOk.H (nodeAt (bodyOf Tryd.f16) [true, false, true, false, false]) 52) (atMeet impl_textOk.H 26) K n)).trans ((show _ = impl_textOk.s3 g k a0 v3_0_7 (fun v3_0_8 => evLoop (ev E (impl_textOk.G g) k impl_textOk.H (nodeAt (bodyOf Tryd.f16) [true, false, true, false, false]) 52) (atMeet impl_textOk.H 26) K n (mkSt [(0, .c (.s (.string a0))), (3, .c (.s (.int .i64 v3_0_8)))] [])) (K (.exit 0) (mkSt [(0, .c (.s (.string a0)))] [])) (fun v2_0_10 => K .ret (mkSt [(2, .c (.s (.bool v2_0_10)))] [])) from by kernel_rfl).trans (congrArg (fun f_ => impl_textOk.s3 g k a0 v3_0_7 f_ (K (.exit 0) (mkSt [(0, .c (.s (.string a0)))] [])) (fun v2_0_10 => K .ret (mkSt [(2, .c (.s (.bool v2_0_10)))] []))) (funext fun (v3_0_8 : Int) => (ih v3_0_8)))))
theorem impl_textOk.l4_ev {R : Type} (g : impl_textOk.Cs R) (k : Nat) (a0 : ByteArray) (v3_0_2 : Int) (K : Kont R) : ev E (impl_textOk.G g) k impl_textOk.H (nodeAt (bodyOf Tryd.f16) [true, false, true, false]) 26 (mkSt [(0, .c (.s (.string a0))), (3, .c (.s (.int .i64 v3_0_2)))] []) K = impl_textOk.l4 g k a0 v3_0_2 (K (.exit 0) (mkSt [(0, .c (.s (.string a0)))] [])) (fun v2_0_12 => K .ret (mkSt [(2, .c (.s (.bool v2_0_12)))] [])) :=
 (show _ = evLoop (ev E (impl_textOk.G g) k impl_textOk.H (nodeAt (bodyOf Tryd.f16) [true, false, true, false, false]) 52) (atMeet impl_textOk.H 26) K k (mkSt [(0, .c (.s (.string a0))), (3, .c (.s (.int .i64 v3_0_2)))] []) from by kernel_rfl).trans (impl_textOk.l4r_ev g k a0 K k v3_0_2)
def impl_textOk.b5 {R : Type} (g : impl_textOk.Cs R) (k : Nat) (a0 : ByteArray) (v3_0_2 : Int) (j : Option R) (q : Bool → Option R) : Option R :=
 impl_textOk.l4 g k a0 v3_0_2 (j) (fun v2_0_12 => q v2_0_12)
theorem impl_textOk.b5_ev {R : Type} (g : impl_textOk.Cs R) (k : Nat) (a0 : ByteArray) (v3_0_2 : Int) (K : Kont R) : ev E (impl_textOk.G g) k impl_textOk.H (nodeAt (bodyOf Tryd.f16) [true, false, true]) 13 (mkSt [(0, .c (.s (.string a0))), (3, .c (.s (.int .i64 v3_0_2)))] []) K = impl_textOk.b5 g k a0 v3_0_2 (K .normal (mkSt [(0, .c (.s (.string a0)))] [])) (fun v2_0_14 => K .ret (mkSt [(2, .c (.s (.bool v2_0_14)))] [])) :=
 (show _ = ev E (impl_textOk.G g) k impl_textOk.H (nodeAt (bodyOf Tryd.f16) [true, false, true, false]) 26 (mkSt [(0, .c (.s (.string a0))), (3, .c (.s (.int .i64 v3_0_2)))] []) (blockK 0 (fun st => K .normal (atMeet impl_textOk.H 13 st)) K) from by kernel_rfl).trans ((impl_textOk.l4_ev g k a0 v3_0_2 (blockK 0 (fun st => K .normal (atMeet impl_textOk.H 13 st)) K)).trans (by kernel_rfl))
def impl_textOk.c6 {R : Type} (g : impl_textOk.Cs R) (k : Nat) (a0 : ByteArray) (j : Option R) (q : Bool → Option R) : Option R :=
 impl_textOk.s2 g k a0 (fun v3_0_2 => impl_textOk.b5 g k a0 v3_0_2 (j) (fun v2_0_14 => q v2_0_14))
theorem impl_textOk.c6_ev {R : Type} (g : impl_textOk.Cs R) (k : Nat) (a0 : ByteArray) (K : Kont R) : ev E (impl_textOk.G g) k impl_textOk.H (nodeAt (bodyOf Tryd.f16) [true, false]) 6 (mkSt [(0, .c (.s (.string a0)))] []) K = impl_textOk.c6 g k a0 (K .normal (mkSt [(0, .c (.s (.string a0)))] [])) (fun v2_0_16 => K .ret (mkSt [(2, .c (.s (.bool v2_0_16)))] [])) :=
 ((show ev E (impl_textOk.G g) k impl_textOk.H (nodeAt (bodyOf Tryd.f16) [true, false]) 6 (mkSt [(0, .c (.s (.string a0)))] []) K = evPre E (impl_textOk.G g) k impl_textOk.H 1 (nodeAt (bodyOf Tryd.f16) [true, false]) 6 (mkSt [(0, .c (.s (.string a0)))] []) (fun st => ev E (impl_textOk.G g) k impl_textOk.H (nodeAt (bodyOf Tryd.f16) [true, false, true]) 13 st K) K from by kernel_rfl).trans (impl_textOk.s2_ev g k a0 (fun st => ev E (impl_textOk.G g) k impl_textOk.H (nodeAt (bodyOf Tryd.f16) [true, false, true]) 13 st K) K)).trans (congrArg (fun f_ => impl_textOk.s2 g k a0 f_) (funext fun (v3_0_2 : Int) => (impl_textOk.b5_ev g k a0 v3_0_2 K)))
def impl_textOk.s7 {R : Type} (g : impl_textOk.Cs R) (k : Nat) (a0 : ByteArray) (q : Bool → Option R) : Option R :=
 g.f15 (a0.size : Int) 1 24 (fun r1 => q r1)
theorem impl_textOk.s7_ev {R : Type} (g : impl_textOk.Cs R) (k : Nat) (a0 : ByteArray) (K : Kont R) : ev E (impl_textOk.G g) k impl_textOk.H (nodeAt (bodyOf Tryd.f16) [true, true]) 7 (mkSt [(0, .c (.s (.string a0)))] []) K = impl_textOk.s7 g k a0 (fun v2_0_17 => K .ret (mkSt [(2, .c (.s (.bool v2_0_17)))] [])) := by kernel_rfl
def impl_textOk.c8 {R : Type} (g : impl_textOk.Cs R) (k : Nat) (a0 : ByteArray) (q : Bool → Option R) : Option R :=
 impl_textOk.c6 g k a0 (impl_textOk.s7 g k a0 (fun v2_0_17 => q v2_0_17)) (fun v2_0_16 => q v2_0_16)
theorem impl_textOk.c8_ev {R : Type} (g : impl_textOk.Cs R) (k : Nat) (a0 : ByteArray) (K : Kont R) : ev E (impl_textOk.G g) k impl_textOk.H (nodeAt (bodyOf Tryd.f16) [true]) 3 (mkSt [(0, .c (.s (.string a0)))] []) K = impl_textOk.c8 g k a0 (fun v2_0_18 => K .ret (mkSt [(2, .c (.s (.bool v2_0_18)))] [])) :=
 ((show ev E (impl_textOk.G g) k impl_textOk.H (nodeAt (bodyOf Tryd.f16) [true]) 3 (mkSt [(0, .c (.s (.string a0)))] []) K = ev E (impl_textOk.G g) k impl_textOk.H (nodeAt (bodyOf Tryd.f16) [true, false]) 6 (mkSt [(0, .c (.s (.string a0)))] []) (seqK (fun st => ev E (impl_textOk.G g) k impl_textOk.H (nodeAt (bodyOf Tryd.f16) [true, true]) 7 st K) K) from by kernel_rfl).trans (impl_textOk.c6_ev g k a0 (seqK (fun st => ev E (impl_textOk.G g) k impl_textOk.H (nodeAt (bodyOf Tryd.f16) [true, true]) 7 st K) K))).trans (congrArg (fun f_ => impl_textOk.c6 g k a0 f_ (fun v2_0_16 => K .ret (mkSt [(2, .c (.s (.bool v2_0_16)))] []))) (impl_textOk.s7_ev g k a0 K))
def impl_textOk.c9 {R : Type} (g : impl_textOk.Cs R) (k : Nat) (a0 : ByteArray) (q : Bool → Option R) : Option R :=
 impl_textOk.s1 g k a0 (impl_textOk.c8 g k a0 (fun v2_0_18 => q v2_0_18))
theorem impl_textOk.c9_ev {R : Type} (g : impl_textOk.Cs R) (k : Nat) (a0 : ByteArray) (K : Kont R) : ev E (impl_textOk.G g) k impl_textOk.H (nodeAt (bodyOf Tryd.f16) []) 1 (mkSt [(0, .c (.s (.string a0)))] []) K = impl_textOk.c9 g k a0 (fun v2_0_19 => K .ret (mkSt [(2, .c (.s (.bool v2_0_19)))] [])) :=
 ((show ev E (impl_textOk.G g) k impl_textOk.H (nodeAt (bodyOf Tryd.f16) []) 1 (mkSt [(0, .c (.s (.string a0)))] []) K = evPre E (impl_textOk.G g) k impl_textOk.H 1 (nodeAt (bodyOf Tryd.f16) []) 1 (mkSt [(0, .c (.s (.string a0)))] []) (fun st => ev E (impl_textOk.G g) k impl_textOk.H (nodeAt (bodyOf Tryd.f16) [true]) 3 st K) K from by kernel_rfl).trans (impl_textOk.s1_ev g k a0 (fun st => ev E (impl_textOk.G g) k impl_textOk.H (nodeAt (bodyOf Tryd.f16) [true]) 3 st K) K)).trans (congrArg (fun f_ => impl_textOk.s1 g k a0 f_) (impl_textOk.c8_ev g k a0 K))
def impl_textOk.b {R : Type} (g : impl_textOk.Cs R) (k : Nat) (a0 : ByteArray) (K : Bool → Option R) : Option R :=
 impl_textOk.c9 g k a0 (fun v2_0_19 => K v2_0_19)
theorem impl_textOk.evs {R : Type} (g : impl_textOk.Cs R) (k : Nat) (a0 : ByteArray) (KF : Ret → Option R) : evFunc E (impl_textOk.G g) k impl_textOk.H [] false Tryd.f16 [.val false [.s (.string a0)]] KF = impl_textOk.b g k a0 (fun r1 => KF ⟨[.val false [.s (.bool r1)]], []⟩) :=
 (show _ = ev E (impl_textOk.G g) k impl_textOk.H (nodeAt (bodyOf Tryd.f16) []) 1 (mkSt [(0, .c (.s (.string a0)))] []) (fin E.P false Tryd.f16 [] KF) from by kernel_rfl).trans ((impl_textOk.c9_ev g k a0 (fin E.P false Tryd.f16 [] KF)).trans (by kernel_rfl))
def impl_textOk.g {R : Type} (k : Nat) : impl_textOk.Cs R := ⟨(), impl_in.c k⟩
def impl_textOk.c {R : Type} (k : Nat) : impl_textOk.T R := impl_textOk.b (impl_textOk.g k) k
/-! ### impl_NoteOk: function 10 -/
abbrev impl_NoteOk.T (R : Type) : Type := Int → Int → Int → Int → ByteArray → (Bool → Option R) → Option R
def impl_NoteOk.con {R : Type} (f : impl_NoteOk.T R) : Con R := ⟨[], fun args K => match args with
 | [.val true [.s (.int .i64 a0_0), .s (.int .i64 a0_1), .s (.int .i64 a0_2), .s (.int .i64 a0_3), .s (.string a0_4)]] => f a0_0 a0_1 a0_2 a0_3 a0_4 (fun r1 => K ⟨[.val false [.s (.bool r1)]], []⟩)
 | _ => none⟩
structure impl_NoteOk.Cs (R : Type) where
  none_ : Unit := ()
  f14 : impl_isNode.T R
  f15 : impl_in.T R
  f16 : impl_textOk.T R
def impl_NoteOk.G {R : Type} (g : impl_NoteOk.Cs R) : Cons R := [(14, impl_isNode.con g.f14), (15, impl_in.con g.f15), (16, impl_textOk.con g.f16)]
def impl_NoteOk.H : List (Nat × Meet) := []
def impl_NoteOk.b {R : Type} (g : impl_NoteOk.Cs R) (k : Nat) (a0_0 : Int) (a0_1 : Int) (a0_2 : Int) (a0_3 : Int) (a0_4 : ByteArray) (K : Bool → Option R) : Option R :=
 g.f14 a0_0 (fun r1 => cond r1 (g.f14 a0_2 (fun r2 => cond r2 (g.f15 a0_1 1 99 (fun r3 => cond r3 (g.f15 a0_3 1 999 (fun r4 => cond r4 (g.f16 a0_4 (fun r5 => K r5)) (K false))) (K false))) (K false))) (K false))
theorem impl_NoteOk.evs {R : Type} (g : impl_NoteOk.Cs R) (k : Nat) (a0_0 : Int) (a0_1 : Int) (a0_2 : Int) (a0_3 : Int) (a0_4 : ByteArray) (KF : Ret → Option R) : evFunc E (impl_NoteOk.G g) k impl_NoteOk.H [] false Tryd.f10 [.val true [.s (.int .i64 a0_0), .s (.int .i64 a0_1), .s (.int .i64 a0_2), .s (.int .i64 a0_3), .s (.string a0_4)]] KF = impl_NoteOk.b g k a0_0 a0_1 a0_2 a0_3 a0_4 (fun r1 => KF ⟨[.val false [.s (.bool r1)]], []⟩) :=
 by kernel_rfl
def impl_NoteOk.g {R : Type} (k : Nat) : impl_NoteOk.Cs R := ⟨(), impl_isNode.c k, impl_in.c k, impl_textOk.c k⟩
def impl_NoteOk.c {R : Type} (k : Nat) : impl_NoteOk.T R := impl_NoteOk.b (impl_NoteOk.g k) k
/-! ### strconv_Itoa: function 11, of Go's library -/
abbrev strconv_Itoa.T (R : Type) : Type := Int → (ByteArray → Option R) → Option R
def strconv_Itoa.con {R : Type} (f : strconv_Itoa.T R) : Con R := ⟨[], fun args K => match args with
 | [.val false [.s (.int .i64 a0)]] => f a0 (fun r1 => K ⟨[.val false [.s (.string r1)]], []⟩)
 | _ => none⟩
def strconv_Itoa.c {R : Type} (k : Nat) : strconv_Itoa.T R := fun a0 K => cond (decide (-9223372036854775808 ≤ a0) && decide (a0 ≤ 9223372036854775807)) (K (ByteArray.mk (Go.Lib.itoa a0).toArray)) none
/-! ### impl_NoteWrite: function 7 -/
abbrev impl_NoteWrite.T (R : Type) : Type := Int → Int → Int → Int → ByteArray → (ByteArray → Option R) → Option R
def impl_NoteWrite.con {R : Type} (f : impl_NoteWrite.T R) : Con R := ⟨[], fun args K => match args with
 | [.val true [.s (.int .i64 a0_0), .s (.int .i64 a0_1), .s (.int .i64 a0_2), .s (.int .i64 a0_3), .s (.string a0_4)]] => f a0_0 a0_1 a0_2 a0_3 a0_4 (fun r1 => K ⟨[.val false [.s (.string r1)]], []⟩)
 | _ => none⟩
structure impl_NoteWrite.Cs (R : Type) where
  none_ : Unit := ()
  f10 : impl_NoteOk.T R
  f11 : strconv_Itoa.T R
def impl_NoteWrite.G {R : Type} (g : impl_NoteWrite.Cs R) : Cons R := [(10, impl_NoteOk.con g.f10), (11, strconv_Itoa.con g.f11)]
def impl_NoteWrite.H : List (Nat × Meet) := []
def impl_NoteWrite.b {R : Type} (g : impl_NoteWrite.Cs R) (k : Nat) (a0_0 : Int) (a0_1 : Int) (a0_2 : Int) (a0_3 : Int) (a0_4 : ByteArray) (K : ByteArray → Option R) : Option R :=
 g.f10 a0_0 a0_1 a0_2 a0_3 a0_4 (fun r1 => cond (!r1) (K (ByteArray.mk #[])) (g.f11 a0_0 (fun r2 => cond (decide (r2.size + (ByteArray.mk #[32]).size ≤ 9223372036854775807)) (g.f11 a0_1 (fun r3 => cond (decide ((r2 ++ (ByteArray.mk #[32])).size + r3.size ≤ 9223372036854775807)) (cond (decide (((r2 ++ (ByteArray.mk #[32])) ++ r3).size + (ByteArray.mk #[32]).size ≤ 9223372036854775807)) (let y4 := (((r2 ++ (ByteArray.mk #[32])) ++ r3) ++ (ByteArray.mk #[32])); g.f11 a0_2 (fun r5 => cond (decide (y4.size + r5.size ≤ 9223372036854775807)) (cond (decide ((y4 ++ r5).size + (ByteArray.mk #[32]).size ≤ 9223372036854775807)) (g.f11 a0_3 (fun r6 => cond (decide (((y4 ++ r5) ++ (ByteArray.mk #[32])).size + r6.size ≤ 9223372036854775807)) (cond (decide ((((y4 ++ r5) ++ (ByteArray.mk #[32])) ++ r6).size + (ByteArray.mk #[32]).size ≤ 9223372036854775807)) (let y7 := ((((y4 ++ r5) ++ (ByteArray.mk #[32])) ++ r6) ++ (ByteArray.mk #[32])); cond (decide (y7.size + a0_4.size ≤ 9223372036854775807)) (K (y7 ++ a0_4)) none) none) none)) none) none)) none) none)) none)))
theorem impl_NoteWrite.evs {R : Type} (g : impl_NoteWrite.Cs R) (k : Nat) (a0_0 : Int) (a0_1 : Int) (a0_2 : Int) (a0_3 : Int) (a0_4 : ByteArray) (KF : Ret → Option R) : evFunc E (impl_NoteWrite.G g) k impl_NoteWrite.H [] false Tryd.f7 [.val true [.s (.int .i64 a0_0), .s (.int .i64 a0_1), .s (.int .i64 a0_2), .s (.int .i64 a0_3), .s (.string a0_4)]] KF = impl_NoteWrite.b g k a0_0 a0_1 a0_2 a0_3 a0_4 (fun r1 => KF ⟨[.val false [.s (.string r1)]], []⟩) :=
 by kernel_rfl
def impl_NoteWrite.g {R : Type} (k : Nat) : impl_NoteWrite.Cs R := ⟨(), impl_NoteOk.c k, strconv_Itoa.c k⟩
def impl_NoteWrite.c {R : Type} (k : Nat) : impl_NoteWrite.T R := impl_NoteWrite.b (impl_NoteWrite.g k) k
/-! ### laws_FnExactNoteWrite: function 3 -/
abbrev laws_FnExactNoteWrite.T (R : Type) : Type := Int → Int → Int → Int → ByteArray → (Bool → Option R) → Option R
def laws_FnExactNoteWrite.con {R : Type} (f : laws_FnExactNoteWrite.T R) : Con R := ⟨[], fun args K => match args with
 | [.val true [.s (.int .i64 a0_0), .s (.int .i64 a0_1), .s (.int .i64 a0_2), .s (.int .i64 a0_3), .s (.string a0_4)]] => f a0_0 a0_1 a0_2 a0_3 a0_4 (fun r1 => K ⟨[.val false [.s (.bool r1)]], []⟩)
 | _ => none⟩
structure laws_FnExactNoteWrite.Cs (R : Type) where
  none_ : Unit := ()
  f4 : laws_szNote.T R
  f6 : laws_toNote.T R
  f5 : spec_NoteWrite.T R
  f7 : impl_NoteWrite.T R
def laws_FnExactNoteWrite.G {R : Type} (g : laws_FnExactNoteWrite.Cs R) : Cons R := [(4, laws_szNote.con g.f4), (6, laws_toNote.con g.f6), (5, spec_NoteWrite.con g.f5), (7, impl_NoteWrite.con g.f7)]
def laws_FnExactNoteWrite.H : List (Nat × Meet) := []
def laws_FnExactNoteWrite.b {R : Type} (g : laws_FnExactNoteWrite.Cs R) (k : Nat) (a0_0 : Int) (a0_1 : Int) (a0_2 : Int) (a0_3 : Int) (a0_4 : ByteArray) (K : Bool → Option R) : Option R :=
 g.f4 a0_0 a0_1 a0_2 a0_3 a0_4 1048576 (fun r1 => cond (decide (r1 < 0)) (K true) (g.f6 a0_0 a0_1 a0_2 a0_3 a0_4 (fun r2 r3 r4 r5 r6 => g.f5 r2 r3 r4 r5 r6 (fun r7 => g.f6 a0_0 a0_1 a0_2 a0_3 a0_4 (fun r8 r9 r10 r11 r12 => g.f7 r8 r9 r10 r11 r12 (fun r13 => cond (!decide (r13 = r7)) (K false) (K true)))))))
theorem laws_FnExactNoteWrite.evs {R : Type} (g : laws_FnExactNoteWrite.Cs R) (k : Nat) (a0_0 : Int) (a0_1 : Int) (a0_2 : Int) (a0_3 : Int) (a0_4 : ByteArray) (KF : Ret → Option R) : evFunc E (laws_FnExactNoteWrite.G g) k laws_FnExactNoteWrite.H [] false Tryd.f3 [.val true [.s (.int .i64 a0_0), .s (.int .i64 a0_1), .s (.int .i64 a0_2), .s (.int .i64 a0_3), .s (.string a0_4)]] KF = laws_FnExactNoteWrite.b g k a0_0 a0_1 a0_2 a0_3 a0_4 (fun r1 => KF ⟨[.val false [.s (.bool r1)]], []⟩) :=
 by kernel_rfl
def laws_FnExactNoteWrite.g {R : Type} (k : Nat) : laws_FnExactNoteWrite.Cs R := ⟨(), laws_szNote.c k, laws_toNote.c k, spec_NoteWrite.c k, impl_NoteWrite.c k⟩
def laws_FnExactNoteWrite.c {R : Type} (k : Nat) : laws_FnExactNoteWrite.T R := laws_FnExactNoteWrite.b (laws_FnExactNoteWrite.g k) k
end Go.Ev.F
