/- The Go functions as plain functions, and that the evaluator comes to them. No condition. Written by a program of this session. -/
import Derived.Test.YtidmkpeokahjoaaDoorEvtFnShelfSafea
namespace Go.Ev.F
open Go.Proofs
set_option linter.unusedVariables false
set_option maxRecDepth 100000
/-! ### impl_ShelfForce: function 31 -/
abbrev impl_ShelfForce.T (R : Type) : Type := ByteArray → Int → (ByteArray → Int → Option R) → Option R
def impl_ShelfForce.con {R : Type} (f : impl_ShelfForce.T R) : Con R := ⟨[], fun args K => match args with
 | [.val true [.s (.string a0_0), .s (.int .i64 a0_1)]] => f a0_0 a0_1 (fun r1 r2 => K ⟨[.val true [.s (.string r1), .s (.int .i64 r2)]], []⟩)
 | _ => none⟩
structure impl_ShelfForce.Cs (R : Type) where
  none_ : Unit := ()
  f28 : impl_ShelfOk.T R
def impl_ShelfForce.G {R : Type} (g : impl_ShelfForce.Cs R) : Cons R := [(28, impl_ShelfOk.con g.f28)]
def impl_ShelfForce.H : List (Nat × Meet) := []
def impl_ShelfForce.b {R : Type} (g : impl_ShelfForce.Cs R) (k : Nat) (a0_0 : ByteArray) (a0_1 : Int) (K : ByteArray → Int → Option R) : Option R :=
 g.f28 a0_0 a0_1 (fun r1 => cond (!r1) (K (ByteArray.mk #[]) 0) (K a0_0 (a0_0.size : Int)))
theorem impl_ShelfForce.evs {R : Type} (g : impl_ShelfForce.Cs R) (k : Nat) (a0_0 : ByteArray) (a0_1 : Int) (KF : Ret → Option R) : evFunc E (impl_ShelfForce.G g) k impl_ShelfForce.H [] false Tryd.f31 [.val true [.s (.string a0_0), .s (.int .i64 a0_1)]] KF = impl_ShelfForce.b g k a0_0 a0_1 (fun r1 r2 => KF ⟨[.val true [.s (.string r1), .s (.int .i64 r2)]], []⟩) :=
 by kernel_rfl
def impl_ShelfForce.g {R : Type} (k : Nat) : impl_ShelfForce.Cs R := ⟨(), impl_ShelfOk.c k⟩
def impl_ShelfForce.c {R : Type} (k : Nat) : impl_ShelfForce.T R := impl_ShelfForce.b (impl_ShelfForce.g k) k
/-! ### laws_FnShelfSafe: function 8 -/
abbrev laws_FnShelfSafe.T (R : Type) : Type := List Int → (Bool → Option R) → Option R
def laws_FnShelfSafe.con {R : Type} (f : laws_FnShelfSafe.T R) : Con R := ⟨[], fun args K => match args with
 | [.val false [pa0]] => withRow [.int .u8] pa0 fun a0 => f a0 (fun r1 => K ⟨[.val false [.s (.bool r1)]], []⟩)
 | _ => none⟩
structure laws_FnShelfSafe.Cs (R : Type) where
  none_ : Unit := ()
  f26 : spec_DrawShelfAdd.T R
  f15 : spec_ShelfAdd.T R
  f17 : impl_ShelfAdd.T R
  f31 : impl_ShelfForce.T R
  f30 : impl_ShelfFall.T R
def laws_FnShelfSafe.G {R : Type} (g : laws_FnShelfSafe.Cs R) : Cons R := [(26, spec_DrawShelfAdd.con g.f26), (15, spec_ShelfAdd.con g.f15), (17, impl_ShelfAdd.con g.f17), (31, impl_ShelfForce.con g.f31), (30, impl_ShelfFall.con g.f30)]
def laws_FnShelfSafe.H : List (Nat × Meet) := []
def laws_FnShelfSafe.b {R : Type} (g : laws_FnShelfSafe.Cs R) (k : Nat) (a0 : List Int) (K : Bool → Option R) : Option R :=
 cond (decide ((1048576 : Int) < (a0.length : Int))) (K true) (g.f26 a0 (fun r1 r2 r3 => g.f15 r1 r2 r3 (fun r4 r5 r6 => g.f17 r1 r2 r3 (fun r7 r8 r9 => cond (!(r9 == r6)) (cond (r9 == r6) (K (decide (r7 = r4) && decide (r8 = r5))) (K false)) (cond (!(decide (r7 = r4) && decide (r8 = r5))) (cond (r9 == r6) (K (decide (r7 = r4) && decide (r8 = r5))) (K false)) (cond (!r9) (cond (r9 == r6) (K (decide (r7 = r4) && decide (r8 = r5))) (K false)) (g.f31 r7 r8 (fun r10 r11 => g.f30 r10 r11 0 (fun r12 r13 => K (decide (r12 = r7)))))))))))
theorem laws_FnShelfSafe.evs {R : Type} (g : laws_FnShelfSafe.Cs R) (k : Nat) (a0 : List Int) (KF : Ret → Option R) : evFunc E (laws_FnShelfSafe.G g) k laws_FnShelfSafe.H [] false Tryd.f8 [.val false [.row .ro [.int .u8] a0]] KF = laws_FnShelfSafe.b g k a0 (fun r1 => KF ⟨[.val false [.s (.bool r1)]], []⟩) :=
 by kernel_rfl
def laws_FnShelfSafe.g {R : Type} (k : Nat) : laws_FnShelfSafe.Cs R := ⟨(), spec_DrawShelfAdd.c k, spec_ShelfAdd.c k, impl_ShelfAdd.c k, impl_ShelfForce.c k, impl_ShelfFall.c k⟩
def laws_FnShelfSafe.c {R : Type} (k : Nat) : laws_FnShelfSafe.T R := laws_FnShelfSafe.b (laws_FnShelfSafe.g k) k
end Go.Ev.F
