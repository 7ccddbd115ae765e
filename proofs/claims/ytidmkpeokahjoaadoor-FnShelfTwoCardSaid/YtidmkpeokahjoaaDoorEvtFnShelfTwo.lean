/- The Go functions as plain functions, and that the evaluator comes to them. No condition. Written by a program of this session. -/
import Derived.Test.YtidmkpeokahjoaaDoorEvtFnShelfTwoa
namespace Go.Ev.F
open Go.Proofs
set_option linter.unusedVariables false
set_option maxRecDepth 100000
/-! ### laws_FnShelfTwo: function 6 -/
abbrev laws_FnShelfTwo.T (R : Type) : Type := List Int → (Bool → Option R) → Option R
def laws_FnShelfTwo.con {R : Type} (f : laws_FnShelfTwo.T R) : Con R := ⟨[], fun args K => match args with
 | [.val false [pa0]] => withRow [.int .u8] pa0 fun a0 => f a0 (fun r1 => K ⟨[.val false [.s (.bool r1)]], []⟩)
 | _ => none⟩
structure laws_FnShelfTwo.Cs (R : Type) where
  none_ : Unit := ()
  f26 : spec_DrawShelfAdd.T R
  f15 : spec_ShelfAdd.T R
  f17 : impl_ShelfAdd.T R
  f27 : impl_ShelfRead.T R
def laws_FnShelfTwo.G {R : Type} (g : laws_FnShelfTwo.Cs R) : Cons R := [(26, spec_DrawShelfAdd.con g.f26), (15, spec_ShelfAdd.con g.f15), (17, impl_ShelfAdd.con g.f17), (27, impl_ShelfRead.con g.f27)]
def laws_FnShelfTwo.H : List (Nat × Meet) := []
def laws_FnShelfTwo.b {R : Type} (g : laws_FnShelfTwo.Cs R) (k : Nat) (a0 : List Int) (K : Bool → Option R) : Option R :=
 cond (decide ((1048576 : Int) < (a0.length : Int))) (K true) (g.f26 a0 (fun r1 r2 r3 => g.f15 r1 r2 r3 (fun r4 r5 r6 => g.f17 r1 r2 r3 (fun r7 r8 r9 => cond (!(r9 == r6)) (cond (r9 == r6) (K (decide (r7 = r4) && decide (r8 = r5))) (K false)) (cond (!(decide (r7 = r4) && decide (r8 = r5))) (cond (r9 == r6) (K (decide (r7 = r4) && decide (r8 = r5))) (K false)) (cond (!r9) (cond (r9 == r6) (K (decide (r7 = r4) && decide (r8 = r5))) (K false)) (g.f17 r7 r8 (ByteArray.mk #[111, 116, 104, 101, 114]) (fun r10 r11 r12 => g.f17 r1 r2 (ByteArray.mk #[111, 116, 104, 101, 114]) (fun r13 r14 r15 => g.f17 r13 r14 r3 (fun r16 r17 r18 => cond (!r12) (K (decide (r10 = r7) && decide (r11 = r8))) (g.f27 r10 (fun r19 r20 => g.f27 r16 (fun r21 r22 => cond r18 (let y23 := (decide ((r21.length : Int) = (r19.length : Int))); cond y23 (cond (decide (0 ≤ (IntKind.wrap .i64 ((r19.length : Int) - 2))) && decide ((IntKind.wrap .i64 ((r19.length : Int) - 2)) < (r19.length : Int))) (let y24 := (r19.getD ((IntKind.wrap .i64 ((r19.length : Int) - 2)).toNat) ByteArray.empty); cond (decide (y24 = r3)) (cond (decide (0 ≤ (IntKind.wrap .i64 ((r19.length : Int) - 1))) && decide ((IntKind.wrap .i64 ((r19.length : Int) - 1)) < (r19.length : Int))) (let y25 := (r19.getD ((IntKind.wrap .i64 ((r19.length : Int) - 1)).toNat) ByteArray.empty); let y26 := (decide (y25 = (ByteArray.mk #[111, 116, 104, 101, 114]))); cond y26 (cond (decide (0 ≤ (IntKind.wrap .i64 ((r19.length : Int) - 2))) && decide ((IntKind.wrap .i64 ((r19.length : Int) - 2)) < (r21.length : Int))) (let y27 := (r21.getD ((IntKind.wrap .i64 ((r19.length : Int) - 2)).toNat) ByteArray.empty); let y28 := (decide (y27 = (ByteArray.mk #[111, 116, 104, 101, 114]))); cond y28 (cond (decide (0 ≤ (IntKind.wrap .i64 ((r19.length : Int) - 1))) && decide ((IntKind.wrap .i64 ((r19.length : Int) - 1)) < (r21.length : Int))) (let y29 := (r21.getD ((IntKind.wrap .i64 ((r19.length : Int) - 1)).toNat) ByteArray.empty); K (decide (y29 = r3))) none) (K false)) none) (K false)) none) (K false)) none) (K false)) (K false))))))))))))))
theorem laws_FnShelfTwo.evs {R : Type} (g : laws_FnShelfTwo.Cs R) (k : Nat) (a0 : List Int) (KF : Ret → Option R) : evFunc E (laws_FnShelfTwo.G g) k laws_FnShelfTwo.H [] false Tryd.f6 [.val false [.row .ro [.int .u8] a0]] KF = laws_FnShelfTwo.b g k a0 (fun r1 => KF ⟨[.val false [.s (.bool r1)]], []⟩) :=
 by kernel_rfl
def laws_FnShelfTwo.g {R : Type} (k : Nat) : laws_FnShelfTwo.Cs R := ⟨(), spec_DrawShelfAdd.c k, spec_ShelfAdd.c k, impl_ShelfAdd.c k, impl_ShelfRead.c k⟩
def laws_FnShelfTwo.c {R : Type} (k : Nat) : laws_FnShelfTwo.T R := laws_FnShelfTwo.b (laws_FnShelfTwo.g k) k
end Go.Ev.F
