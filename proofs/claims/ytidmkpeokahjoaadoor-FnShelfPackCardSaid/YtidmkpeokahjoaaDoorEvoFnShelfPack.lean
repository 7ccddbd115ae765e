/- What the Go functions compute is what the machine does. No condition. Written by a program of this session. -/
import Derived.Test.YtidmkpeokahjoaaDoorEvtFnShelfPack
import Derived.Test.YtidmkpeokahjoaaDoorSoE
import Derived.Test.YtidmkpeokahjoaaDoorExt
import Derived.Test.YtidmkpeokahjoaaDoorShf
namespace Go.Ev.F
open Go.Proofs
set_option linter.unusedVariables false
set_option maxRecDepth 100000
theorem E_orders : E.P.follows .mixedOrders = true := by kernel_rfl
theorem E_eqs : ∀ t ∈ E.eqs, eqFree E.P t = true := List.all_eq_true.mp (by kernel_rfl)
theorem spec_l6In.inn {R : Type} (f : spec_l6In.T R) (a0 : Int) (a1 : Int) (a2 : Int) (K : Ret → Option R) : (spec_l6In.con f).run [.val false [.s (.int .i64 a0)], .val false [.s (.int .i64 a1)], .val false [.s (.int .i64 a2)]] K = f a0 a1 a2 (fun r1 => K ⟨[.val false [.s (.bool r1)]], []⟩) := by kernel_rfl
theorem spec_l6In.run {R : Type} (k : Nat) (args : List RV) (K : Ret → Option R) (o : R) (h : (spec_l6In.con (spec_l6In.c k)).run args K = some o) : ∃ args', All2 TyRV args args' ∧ evFunc E (spec_l6In.G ⟨()⟩) k spec_l6In.H [] false Tryd.f56 args' K = some o := by
  unfold spec_l6In.con at h
  simp only at h
  split at h
  · rename_i a0 a1 a2
    exact ⟨_, (.cons (.val (.cons .s .nil)) (.cons (.val (.cons .s .nil)) (.cons (.val (.cons .s .nil)) .nil))), (spec_l6In.evs ⟨()⟩ k a0 a1 a2 K).trans h⟩
  · cases h
theorem spec_l6In.ds : dstB Tryd.f56.ntmps (bodyOf Tryd.f56) = true := by kernel_rfl
theorem spec_l6In.cb : callB E.P 56 = true := by kernel_rfl
theorem spec_l6In.ok {R : Type} (B : Base) (k : Nat) : ConOk E.P B 56 (spec_l6In.con (spec_l6In.c (R := R) k)) := con_ok E_orders E_eqs GOk.nil Tryd.func56 (by kernel_rfl) spec_l6In.ds rfl (spec_l6In.run k)
theorem spec_l6Dec.inn {R : Type} (f : spec_l6Dec.T R) (a0 : Int) (K : Ret → Option R) : (spec_l6Dec.con f).run [.val false [.s (.int .i64 a0)]] K = f a0 (fun r1 => K ⟨[.val false [.s (.string r1)]], []⟩) := by kernel_rfl
theorem spec_l6Dec.run {R : Type} (k : Nat) (args : List RV) (K : Ret → Option R) (o : R) (h : (spec_l6Dec.con (spec_l6Dec.c (k + 1))).run args K = some o) : ∃ args', All2 TyRV args args' ∧ evFunc E (spec_l6Dec.G ⟨(), spec_l6Dec.c k⟩) k spec_l6Dec.H [] false Tryd.f68 args' K = some o := by
  unfold spec_l6Dec.con at h
  simp only at h
  split at h
  · rename_i a0
    exact ⟨_, (.cons (.val (.cons .s .nil)) .nil), (spec_l6Dec.evs ⟨(), spec_l6Dec.c k⟩ k a0 K).trans h⟩
  · cases h
theorem spec_l6Dec.ds : dstB Tryd.f68.ntmps (bodyOf Tryd.f68) = true := by kernel_rfl
theorem spec_l6Dec.cb : callB E.P 68 = true := by kernel_rfl
theorem spec_l6Dec.ok {R : Type} (B : Base) : ∀ k, ConOk E.P B 68 (spec_l6Dec.con (spec_l6Dec.c (R := R) k))
  | 0 => by
    intro args K o h
    exfalso
    unfold spec_l6Dec.con at h
    simp only at h
    split at h
    · cases h
    · cases h
  | k + 1 => by
    have ih := spec_l6Dec.ok (R := R) B k
    exact con_ok E_orders E_eqs (GOk.cons spec_l6Dec.cb ih GOk.nil) Tryd.func68 (by kernel_rfl) spec_l6Dec.ds rfl (spec_l6Dec.run k)
theorem spec_l3Dec.inn {R : Type} (f : spec_l3Dec.T R) (a0 : ByteArray) (K : Ret → Option R) : (spec_l3Dec.con f).run [.val false [.s (.string a0)]] K = f a0 (fun r1 => K ⟨[.val false [.s (.int .i64 r1)]], []⟩) := by kernel_rfl
theorem spec_l3Dec.run {R : Type} (k : Nat) (args : List RV) (K : Ret → Option R) (o : R) (h : (spec_l3Dec.con (spec_l3Dec.c k)).run args K = some o) : ∃ args', All2 TyRV args args' ∧ evFunc E (spec_l3Dec.G ⟨(), spec_l6Dec.c k⟩) k spec_l3Dec.H [] false Tryd.f91 args' K = some o := by
  unfold spec_l3Dec.con at h
  simp only at h
  split at h
  · rename_i a0
    exact ⟨_, (.cons (.val (.cons .s .nil)) .nil), (spec_l3Dec.evs ⟨(), spec_l6Dec.c k⟩ k a0 K).trans h⟩
  · cases h
theorem spec_l3Dec.ds : dstB Tryd.f91.ntmps (bodyOf Tryd.f91) = true := by kernel_rfl
theorem spec_l3Dec.cb : callB E.P 91 = true := by kernel_rfl
theorem spec_l3Dec.ok {R : Type} (B : Base) (k : Nat) : ConOk E.P B 91 (spec_l3Dec.con (spec_l3Dec.c (R := R) k)) := con_ok E_orders E_eqs (GOk.cons spec_l6Dec.cb (spec_l6Dec.ok B k) GOk.nil) Tryd.func91 (by kernel_rfl) spec_l3Dec.ds rfl (spec_l3Dec.run k)
theorem spec_l11One.inn {R : Type} (f : spec_l11One.T R) (a0 : ByteArray) (K : Ret → Option R) : (spec_l11One.con f).run [.val false [.s (.string a0)]] K = f a0 (fun r1 r2 => K ⟨[.val false [.s (.string r1)], .val false [.s (.int .i64 r2)]], []⟩) := by kernel_rfl
theorem spec_l11One.run {R : Type} (k : Nat) (args : List RV) (K : Ret → Option R) (o : R) (h : (spec_l11One.con (spec_l11One.c k)).run args K = some o) : ∃ args', All2 TyRV args args' ∧ evFunc E (spec_l11One.G ⟨(), spec_l3Dec.c k⟩) k spec_l11One.H [] false Tryd.f87 args' K = some o := by
  unfold spec_l11One.con at h
  simp only at h
  split at h
  · rename_i a0
    exact ⟨_, (.cons (.val (.cons .s .nil)) .nil), (spec_l11One.evs ⟨(), spec_l3Dec.c k⟩ k a0 K).trans h⟩
  · cases h
theorem spec_l11One.ds : dstB Tryd.f87.ntmps (bodyOf Tryd.f87) = true := by kernel_rfl
theorem spec_l11One.cb : callB E.P 87 = true := by kernel_rfl
theorem spec_l11One.ok {R : Type} (B : Base) (k : Nat) : ConOk E.P B 87 (spec_l11One.con (spec_l11One.c (R := R) k)) := con_ok E_orders E_eqs (GOk.cons spec_l3Dec.cb (spec_l3Dec.ok B k) GOk.nil) Tryd.func87 (by kernel_rfl) spec_l11One.ds rfl (spec_l11One.run k)
theorem spec_ShelfRead.inn {R : Type} (f : spec_ShelfRead.T R) (a0 : ByteArray) (K : Ret → Option R) : (spec_ShelfRead.con f).run [.val false [.s (.string a0)]] K = f a0 (fun r1 r2 => K ⟨[.val false [.row .own [.str] r1], .val false [.s (.int .i64 r2)]], []⟩) := by kernel_rfl
theorem spec_ShelfRead.run {R : Type} (k : Nat) (args : List RV) (K : Ret → Option R) (o : R) (h : (spec_ShelfRead.con (spec_ShelfRead.c k)).run args K = some o) : ∃ args', All2 TyRV args args' ∧ evFunc E (spec_ShelfRead.G ⟨(), spec_l11One.c k⟩) k spec_ShelfRead.H [] false Tryd.f57 args' K = some o := by
  unfold spec_ShelfRead.con at h
  simp only at h
  split at h
  · rename_i a0
    exact ⟨_, (.cons (.val (.cons .s .nil)) .nil), (spec_ShelfRead.evs ⟨(), spec_l11One.c k⟩ k a0 K).trans h⟩
  · cases h
theorem spec_ShelfRead.ds : dstB Tryd.f57.ntmps (bodyOf Tryd.f57) = true := by kernel_rfl
theorem spec_ShelfRead.cb : callB E.P 57 = true := by kernel_rfl
theorem spec_ShelfRead.ok {R : Type} (B : Base) (k : Nat) : ConOk E.P B 57 (spec_ShelfRead.con (spec_ShelfRead.c (R := R) k)) := con_ok E_orders E_eqs (GOk.cons spec_l11One.cb (spec_l11One.ok B k) GOk.nil) Tryd.func57 (by kernel_rfl) spec_ShelfRead.ds rfl (spec_ShelfRead.run k)
theorem spec_ShelfOk.inn {R : Type} (f : spec_ShelfOk.T R) (a0_0 : ByteArray) (a0_1 : Int) (K : Ret → Option R) : (spec_ShelfOk.con f).run [.val true [.s (.string a0_0), .s (.int .i64 a0_1)]] K = f a0_0 a0_1 (fun r1 => K ⟨[.val false [.s (.bool r1)]], []⟩) := by kernel_rfl
theorem spec_ShelfOk.run {R : Type} (k : Nat) (args : List RV) (K : Ret → Option R) (o : R) (h : (spec_ShelfOk.con (spec_ShelfOk.c k)).run args K = some o) : ∃ args', All2 TyRV args args' ∧ evFunc E (spec_ShelfOk.G ⟨(), spec_l6In.c k, spec_ShelfRead.c k⟩) k spec_ShelfOk.H [] false Tryd.f25 args' K = some o := by
  unfold spec_ShelfOk.con at h
  simp only at h
  split at h
  · rename_i a0_0 a0_1
    exact ⟨_, (.cons (.val (.cons .s (.cons .s .nil))) .nil), (spec_ShelfOk.evs ⟨(), spec_l6In.c k, spec_ShelfRead.c k⟩ k a0_0 a0_1 K).trans h⟩
  · cases h
theorem spec_ShelfOk.ds : dstB Tryd.f25.ntmps (bodyOf Tryd.f25) = true := by kernel_rfl
theorem spec_ShelfOk.cb : callB E.P 25 = true := by kernel_rfl
theorem spec_ShelfOk.ok {R : Type} (B : Base) (k : Nat) : ConOk E.P B 25 (spec_ShelfOk.con (spec_ShelfOk.c (R := R) k)) := con_ok E_orders E_eqs (GOk.cons spec_l6In.cb (spec_l6In.ok B k) (GOk.cons spec_ShelfRead.cb (spec_ShelfRead.ok B k) GOk.nil)) Tryd.func25 (by kernel_rfl) spec_ShelfOk.ds rfl (spec_ShelfOk.run k)
theorem spec_l11RecOk.inn {R : Type} (f : spec_l11RecOk.T R) (a0 : ByteArray) (K : Ret → Option R) : (spec_l11RecOk.con f).run [.val false [.s (.string a0)]] K = f a0 (fun r1 => K ⟨[.val false [.s (.bool r1)]], []⟩) := by kernel_rfl
theorem spec_l11RecOk.run {R : Type} (k : Nat) (args : List RV) (K : Ret → Option R) (o : R) (h : (spec_l11RecOk.con (spec_l11RecOk.c k)).run args K = some o) : ∃ args', All2 TyRV args args' ∧ evFunc E (spec_l11RecOk.G ⟨(), spec_l6In.c k⟩) k spec_l11RecOk.H [] false Tryd.f50 args' K = some o := by
  unfold spec_l11RecOk.con at h
  simp only at h
  split at h
  · rename_i a0
    exact ⟨_, (.cons (.val (.cons .s .nil)) .nil), (spec_l11RecOk.evs ⟨(), spec_l6In.c k⟩ k a0 K).trans h⟩
  · cases h
theorem spec_l11RecOk.ds : dstB Tryd.f50.ntmps (bodyOf Tryd.f50) = true := by kernel_rfl
theorem spec_l11RecOk.cb : callB E.P 50 = true := by kernel_rfl
theorem spec_l11RecOk.ok {R : Type} (B : Base) (k : Nat) : ConOk E.P B 50 (spec_l11RecOk.con (spec_l11RecOk.c (R := R) k)) := con_ok E_orders E_eqs (GOk.cons spec_l6In.cb (spec_l6In.ok B k) GOk.nil) Tryd.func50 (by kernel_rfl) spec_l11RecOk.ds rfl (spec_l11RecOk.run k)
theorem spec_l11Rec.inn {R : Type} (f : spec_l11Rec.T R) (a0 : ByteArray) (K : Ret → Option R) : (spec_l11Rec.con f).run [.val false [.s (.string a0)]] K = f a0 (fun r1 => K ⟨[.val false [.s (.string r1)]], []⟩) := by kernel_rfl
theorem spec_l11Rec.run {R : Type} (k : Nat) (args : List RV) (K : Ret → Option R) (o : R) (h : (spec_l11Rec.con (spec_l11Rec.c k)).run args K = some o) : ∃ args', All2 TyRV args args' ∧ evFunc E (spec_l11Rec.G ⟨(), spec_l6Dec.c k⟩) k spec_l11Rec.H [] false Tryd.f51 args' K = some o := by
  unfold spec_l11Rec.con at h
  simp only at h
  split at h
  · rename_i a0
    exact ⟨_, (.cons (.val (.cons .s .nil)) .nil), (spec_l11Rec.evs ⟨(), spec_l6Dec.c k⟩ k a0 K).trans h⟩
  · cases h
theorem spec_l11Rec.ds : dstB Tryd.f51.ntmps (bodyOf Tryd.f51) = true := by kernel_rfl
theorem spec_l11Rec.cb : callB E.P 51 = true := by kernel_rfl
theorem spec_l11Rec.ok {R : Type} (B : Base) (k : Nat) : ConOk E.P B 51 (spec_l11Rec.con (spec_l11Rec.c (R := R) k)) := con_ok E_orders E_eqs (GOk.cons spec_l6Dec.cb (spec_l6Dec.ok B k) GOk.nil) Tryd.func51 (by kernel_rfl) spec_l11Rec.ds rfl (spec_l11Rec.run k)
theorem spec_ShelfPack.inn {R : Type} (f : spec_ShelfPack.T R) (a0_0 : ByteArray) (a0_1 : Int) (a1 : List ByteArray) (K : Ret → Option R) : (spec_ShelfPack.con f).run [.val true [.s (.string a0_0), .s (.int .i64 a0_1)], .val false [.row .ro [.str] a1]] K = f a0_0 a0_1 a1 (fun r1 r2 r3 => K ⟨[.val true [.s (.string r1), .s (.int .i64 r2)], .val false [.s (.bool r3)]], []⟩) := by kernel_rfl
theorem spec_ShelfPack.run {R : Type} (k : Nat) (args : List RV) (K : Ret → Option R) (o : R) (h : (spec_ShelfPack.con (spec_ShelfPack.c k)).run args K = some o) : ∃ args', All2 TyRV args args' ∧ evFunc E (spec_ShelfPack.G ⟨(), spec_ShelfOk.c k, spec_l11RecOk.c k, spec_l11Rec.c k⟩) k spec_ShelfPack.H [] false Tryd.f20 args' K = some o := by
  unfold spec_ShelfPack.con at h
  simp only at h
  split at h
  · rename_i a0_0 a0_1 pa1
    obtain ⟨a1, ta1, h⟩ := withRow_some (by simp) h
    exact ⟨_, (.cons (.val (.cons .s (.cons .s .nil))) (.cons (.val (.cons ta1 .nil)) .nil)), (spec_ShelfPack.evs ⟨(), spec_ShelfOk.c k, spec_l11RecOk.c k, spec_l11Rec.c k⟩ k a0_0 a0_1 a1 K).trans h⟩
  · cases h
theorem spec_ShelfPack.ds : dstB Tryd.f20.ntmps (bodyOf Tryd.f20) = true := by kernel_rfl
theorem spec_ShelfPack.cb : callB E.P 20 = true := by kernel_rfl
theorem spec_ShelfPack.ok {R : Type} (B : Base) (k : Nat) : ConOk E.P B 20 (spec_ShelfPack.con (spec_ShelfPack.c (R := R) k)) := con_ok E_orders E_eqs (GOk.cons spec_ShelfOk.cb (spec_ShelfOk.ok B k) (GOk.cons spec_l11RecOk.cb (spec_l11RecOk.ok B k) (GOk.cons spec_l11Rec.cb (spec_l11Rec.ok B k) GOk.nil))) Tryd.func20 (by kernel_rfl) spec_ShelfPack.ds rfl (spec_ShelfPack.run k)
theorem impl_in.inn {R : Type} (f : impl_in.T R) (a0 : Int) (a1 : Int) (a2 : Int) (K : Ret → Option R) : (impl_in.con f).run [.val false [.s (.int .i64 a0)], .val false [.s (.int .i64 a1)], .val false [.s (.int .i64 a2)]] K = f a0 a1 a2 (fun r1 => K ⟨[.val false [.s (.bool r1)]], []⟩) := by kernel_rfl
theorem impl_in.run {R : Type} (k : Nat) (args : List RV) (K : Ret → Option R) (o : R) (h : (impl_in.con (impl_in.c k)).run args K = some o) : ∃ args', All2 TyRV args args' ∧ evFunc E (impl_in.G ⟨()⟩) k impl_in.H [] false Tryd.f60 args' K = some o := by
  unfold impl_in.con at h
  simp only at h
  split at h
  · rename_i a0 a1 a2
    exact ⟨_, (.cons (.val (.cons .s .nil)) (.cons (.val (.cons .s .nil)) (.cons (.val (.cons .s .nil)) .nil))), (impl_in.evs ⟨()⟩ k a0 a1 a2 K).trans h⟩
  · cases h
theorem impl_in.ds : dstB Tryd.f60.ntmps (bodyOf Tryd.f60) = true := by kernel_rfl
theorem impl_in.cb : callB E.P 60 = true := by kernel_rfl
theorem impl_in.ok {R : Type} (B : Base) (k : Nat) : ConOk E.P B 60 (impl_in.con (impl_in.c (R := R) k)) := con_ok E_orders E_eqs GOk.nil Tryd.func60 (by kernel_rfl) impl_in.ds rfl (impl_in.run k)
theorem impl_natural.inn {R : Type} (f : impl_natural.T R) (a0 : ByteArray) (K : Ret → Option R) : (impl_natural.con f).run [.val false [.s (.string a0)]] K = f a0 (fun r1 r2 => K ⟨[.val false [.s (.int .i64 r1)], .val false [.s (.bool r2)]], []⟩) := by kernel_rfl
theorem impl_natural.run {R : Type} (k : Nat) (args : List RV) (K : Ret → Option R) (o : R) (h : (impl_natural.con (impl_natural.c k)).run args K = some o) : ∃ args', All2 TyRV args args' ∧ evFunc E (impl_natural.G ⟨(), impl_in.c k⟩) k impl_natural.H [] false Tryd.f59 args' K = some o := by
  unfold impl_natural.con at h
  simp only at h
  split at h
  · rename_i a0
    exact ⟨_, (.cons (.val (.cons .s .nil)) .nil), (impl_natural.evs ⟨(), impl_in.c k⟩ k a0 K).trans h⟩
  · cases h
theorem impl_natural.ds : dstB Tryd.f59.ntmps (bodyOf Tryd.f59) = true := by kernel_rfl
theorem impl_natural.cb : callB E.P 59 = true := by kernel_rfl
theorem impl_natural.ok {R : Type} (B : Base) (k : Nat) : ConOk E.P B 59 (impl_natural.con (impl_natural.c (R := R) k)) := con_ok E_orders E_eqs (GOk.cons impl_in.cb (impl_in.ok B k) GOk.nil) Tryd.func59 (by kernel_rfl) impl_natural.ds rfl (impl_natural.run k)
theorem impl_copied_string.inn {R : Type} (f : impl_copied_string.T R) (a0 : List ByteArray) (K : Ret → Option R) : (impl_copied_string.con f).run [.val false [.row .ro [.str] a0]] K = f a0 (fun r1 => K ⟨[.val false [.row .own [.str] r1]], []⟩) := by kernel_rfl
theorem impl_copied_string.run {R : Type} (k : Nat) (args : List RV) (K : Ret → Option R) (o : R) (h : (impl_copied_string.con (impl_copied_string.c k)).run args K = some o) : ∃ args', All2 TyRV args args' ∧ evFunc E (impl_copied_string.G ⟨()⟩) k impl_copied_string.H [] false Tryd.f61 args' K = some o := by
  unfold impl_copied_string.con at h
  simp only at h
  split at h
  · rename_i pa0
    obtain ⟨a0, ta0, h⟩ := withRow_some (by simp) h
    exact ⟨_, (.cons (.val (.cons ta0 .nil)) .nil), (impl_copied_string.evs ⟨()⟩ k a0 K).trans h⟩
  · cases h
theorem impl_copied_string.ds : dstB Tryd.f61.ntmps (bodyOf Tryd.f61) = true := by kernel_rfl
theorem impl_copied_string.cb : callB E.P 61 = true := by kernel_rfl
theorem impl_copied_string.ok {R : Type} (B : Base) (k : Nat) : ConOk E.P B 61 (impl_copied_string.con (impl_copied_string.c (R := R) k)) := con_ok E_orders E_eqs GOk.nil Tryd.func61 (by kernel_rfl) impl_copied_string.ds rfl (impl_copied_string.run k)
theorem impl_ShelfRead.inn {R : Type} (f : impl_ShelfRead.T R) (a0 : ByteArray) (K : Ret → Option R) : (impl_ShelfRead.con f).run [.val false [.s (.string a0)]] K = f a0 (fun r1 r2 => K ⟨[.val false [.row .own [.str] r1], .val false [.s (.int .i64 r2)]], []⟩) := by kernel_rfl
theorem impl_ShelfRead.run {R : Type} (k : Nat) (args : List RV) (K : Ret → Option R) (o : R) (h : (impl_ShelfRead.con (impl_ShelfRead.c k)).run args K = some o) : ∃ args', All2 TyRV args args' ∧ evFunc E (impl_ShelfRead.G ⟨(), impl_natural.c k, impl_in.c k, impl_copied_string.c k⟩) k impl_ShelfRead.H [] false Tryd.f27 args' K = some o := by
  unfold impl_ShelfRead.con at h
  simp only at h
  split at h
  · rename_i a0
    exact ⟨_, (.cons (.val (.cons .s .nil)) .nil), (impl_ShelfRead.evs ⟨(), impl_natural.c k, impl_in.c k, impl_copied_string.c k⟩ k a0 K).trans h⟩
  · cases h
theorem impl_ShelfRead.ds : dstB Tryd.f27.ntmps (bodyOf Tryd.f27) = true := by kernel_rfl
theorem impl_ShelfRead.cb : callB E.P 27 = true := by kernel_rfl
theorem impl_ShelfRead.ok {R : Type} (B : Base) (k : Nat) : ConOk E.P B 27 (impl_ShelfRead.con (impl_ShelfRead.c (R := R) k)) := con_ok E_orders E_eqs (GOk.cons impl_natural.cb (impl_natural.ok B k) (GOk.cons impl_in.cb (impl_in.ok B k) (GOk.cons impl_copied_string.cb (impl_copied_string.ok B k) GOk.nil))) Tryd.func27 (by kernel_rfl) impl_ShelfRead.ds rfl (impl_ShelfRead.run k)
theorem impl_ShelfOk.inn {R : Type} (f : impl_ShelfOk.T R) (a0_0 : ByteArray) (a0_1 : Int) (K : Ret → Option R) : (impl_ShelfOk.con f).run [.val true [.s (.string a0_0), .s (.int .i64 a0_1)]] K = f a0_0 a0_1 (fun r1 => K ⟨[.val false [.s (.bool r1)]], []⟩) := by kernel_rfl
theorem impl_ShelfOk.run {R : Type} (k : Nat) (args : List RV) (K : Ret → Option R) (o : R) (h : (impl_ShelfOk.con (impl_ShelfOk.c k)).run args K = some o) : ∃ args', All2 TyRV args args' ∧ evFunc E (impl_ShelfOk.G ⟨(), impl_in.c k, impl_ShelfRead.c k⟩) k impl_ShelfOk.H [] false Tryd.f28 args' K = some o := by
  unfold impl_ShelfOk.con at h
  simp only at h
  split at h
  · rename_i a0_0 a0_1
    exact ⟨_, (.cons (.val (.cons .s (.cons .s .nil))) .nil), (impl_ShelfOk.evs ⟨(), impl_in.c k, impl_ShelfRead.c k⟩ k a0_0 a0_1 K).trans h⟩
  · cases h
theorem impl_ShelfOk.ds : dstB Tryd.f28.ntmps (bodyOf Tryd.f28) = true := by kernel_rfl
theorem impl_ShelfOk.cb : callB E.P 28 = true := by kernel_rfl
theorem impl_ShelfOk.ok {R : Type} (B : Base) (k : Nat) : ConOk E.P B 28 (impl_ShelfOk.con (impl_ShelfOk.c (R := R) k)) := con_ok E_orders E_eqs (GOk.cons impl_in.cb (impl_in.ok B k) (GOk.cons impl_ShelfRead.cb (impl_ShelfRead.ok B k) GOk.nil)) Tryd.func28 (by kernel_rfl) impl_ShelfOk.ds rfl (impl_ShelfOk.run k)
theorem impl_recOk.inn {R : Type} (f : impl_recOk.T R) (a0 : ByteArray) (K : Ret → Option R) : (impl_recOk.con f).run [.val false [.s (.string a0)]] K = f a0 (fun r1 => K ⟨[.val false [.s (.bool r1)]], []⟩) := by kernel_rfl
theorem impl_recOk.run {R : Type} (k : Nat) (args : List RV) (K : Ret → Option R) (o : R) (h : (impl_recOk.con (impl_recOk.c k)).run args K = some o) : ∃ args', All2 TyRV args args' ∧ evFunc E (impl_recOk.G ⟨(), impl_in.c k⟩) k impl_recOk.H [] false Tryd.f52 args' K = some o := by
  unfold impl_recOk.con at h
  simp only at h
  split at h
  · rename_i a0
    exact ⟨_, (.cons (.val (.cons .s .nil)) .nil), (impl_recOk.evs ⟨(), impl_in.c k⟩ k a0 K).trans h⟩
  · cases h
theorem impl_recOk.ds : dstB Tryd.f52.ntmps (bodyOf Tryd.f52) = true := by kernel_rfl
theorem impl_recOk.cb : callB E.P 52 = true := by kernel_rfl
theorem impl_recOk.ok {R : Type} (B : Base) (k : Nat) : ConOk E.P B 52 (impl_recOk.con (impl_recOk.c (R := R) k)) := con_ok E_orders E_eqs (GOk.cons impl_in.cb (impl_in.ok B k) GOk.nil) Tryd.func52 (by kernel_rfl) impl_recOk.ds rfl (impl_recOk.run k)
theorem strconv_Itoa.inn {R : Type} (f : strconv_Itoa.T R) (a0 : Int) (K : Ret → Option R) : (strconv_Itoa.con f).run [.val false [.s (.int .i64 a0)]] K = f a0 (fun r1 => K ⟨[.val false [.s (.string r1)]], []⟩) := by kernel_rfl
theorem strconv_Itoa.cb : callB E.P 70 = true := by kernel_rfl
theorem strconv_Itoa.ok {R : Type} (B : Base) (hI : ExtI E.P B) (k : Nat) : ConOk E.P B 70 (strconv_Itoa.con (strconv_Itoa.c (R := R) k)) := by
  refine itoa_conok (fun n h0 h1 w hw => Tryd.strconv_Itoa n h0 h1 w (hI w hw)) _ rfl fun args K o h => ?_
  unfold strconv_Itoa.con at h
  simp only at h
  split at h
  · rename_i a0
    unfold strconv_Itoa.c at h
    cases hc : (decide (-9223372036854775808 ≤ a0) && decide (a0 ≤ 9223372036854775807)) with
    | false => rw [hc] at h; cases h
    | true =>
      rw [hc] at h
      simp only [Bool.and_eq_true, decide_eq_true_eq] at hc
      exact ⟨a0, rfl, hc, h⟩
  · cases h
theorem impl_stored.inn {R : Type} (f : impl_stored.T R) (a0 : ByteArray) (K : Ret → Option R) : (impl_stored.con f).run [.val false [.s (.string a0)]] K = f a0 (fun r1 => K ⟨[.val false [.s (.string r1)]], []⟩) := by kernel_rfl
theorem impl_stored.run {R : Type} (k : Nat) (args : List RV) (K : Ret → Option R) (o : R) (h : (impl_stored.con (impl_stored.c k)).run args K = some o) : ∃ args', All2 TyRV args args' ∧ evFunc E (impl_stored.G ⟨(), strconv_Itoa.c k⟩) k impl_stored.H [] false Tryd.f53 args' K = some o := by
  unfold impl_stored.con at h
  simp only at h
  split at h
  · rename_i a0
    exact ⟨_, (.cons (.val (.cons .s .nil)) .nil), (impl_stored.evs ⟨(), strconv_Itoa.c k⟩ k a0 K).trans h⟩
  · cases h
theorem impl_stored.ds : dstB Tryd.f53.ntmps (bodyOf Tryd.f53) = true := by kernel_rfl
theorem impl_stored.cb : callB E.P 53 = true := by kernel_rfl
theorem impl_stored.ok {R : Type} (B : Base) (hI : ExtI E.P B) (k : Nat) : ConOk E.P B 53 (impl_stored.con (impl_stored.c (R := R) k)) := con_ok E_orders E_eqs (GOk.cons strconv_Itoa.cb (strconv_Itoa.ok B hI k) GOk.nil) Tryd.func53 (by kernel_rfl) impl_stored.ds rfl (impl_stored.run k)
theorem impl_ShelfPack.inn {R : Type} (f : impl_ShelfPack.T R) (a0_0 : ByteArray) (a0_1 : Int) (a1 : List ByteArray) (K : Ret → Option R) : (impl_ShelfPack.con f).run [.val true [.s (.string a0_0), .s (.int .i64 a0_1)], .val false [.row .ro [.str] a1]] K = f a0_0 a0_1 a1 (fun r1 r2 r3 => K ⟨[.val true [.s (.string r1), .s (.int .i64 r2)], .val false [.s (.bool r3)]], []⟩) := by kernel_rfl
theorem impl_ShelfPack.run {R : Type} (k : Nat) (args : List RV) (K : Ret → Option R) (o : R) (h : (impl_ShelfPack.con (impl_ShelfPack.c k)).run args K = some o) : ∃ args', All2 TyRV args args' ∧ evFunc E (impl_ShelfPack.G ⟨(), impl_ShelfOk.c k, impl_recOk.c k, impl_stored.c k⟩) k impl_ShelfPack.H [] false Tryd.f22 args' K = some o := by
  unfold impl_ShelfPack.con at h
  simp only at h
  split at h
  · rename_i a0_0 a0_1 pa1
    obtain ⟨a1, ta1, h⟩ := withRow_some (by simp) h
    exact ⟨_, (.cons (.val (.cons .s (.cons .s .nil))) (.cons (.val (.cons ta1 .nil)) .nil)), (impl_ShelfPack.evs ⟨(), impl_ShelfOk.c k, impl_recOk.c k, impl_stored.c k⟩ k a0_0 a0_1 a1 K).trans h⟩
  · cases h
theorem impl_ShelfPack.ds : dstB Tryd.f22.ntmps (bodyOf Tryd.f22) = true := by kernel_rfl
theorem impl_ShelfPack.cb : callB E.P 22 = true := by kernel_rfl
theorem impl_ShelfPack.ok {R : Type} (B : Base) (hI : ExtI E.P B) (k : Nat) : ConOk E.P B 22 (impl_ShelfPack.con (impl_ShelfPack.c (R := R) k)) := con_ok E_orders E_eqs (GOk.cons impl_ShelfOk.cb (impl_ShelfOk.ok B k) (GOk.cons impl_recOk.cb (impl_recOk.ok B k) (GOk.cons impl_stored.cb (impl_stored.ok B hI k) GOk.nil))) Tryd.func22 (by kernel_rfl) impl_ShelfPack.ds rfl (impl_ShelfPack.run k)
theorem laws_lbTexts.inn {R : Type} (f : laws_lbTexts.T R) (a0 : List ByteArray) (a1 : List ByteArray) (K : Ret → Option R) : (laws_lbTexts.con f).run [.val false [.row .ro [.str] a0], .val false [.row .ro [.str] a1]] K = f a0 a1 (fun r1 => K ⟨[.val false [.s (.bool r1)]], []⟩) := by kernel_rfl
theorem laws_lbTexts.run {R : Type} (k : Nat) (args : List RV) (K : Ret → Option R) (o : R) (h : (laws_lbTexts.con (laws_lbTexts.c k)).run args K = some o) : ∃ args', All2 TyRV args args' ∧ evFunc E (laws_lbTexts.G ⟨()⟩) k laws_lbTexts.H [] false Tryd.f29 args' K = some o := by
  unfold laws_lbTexts.con at h
  simp only at h
  split at h
  · rename_i pa0 pa1
    obtain ⟨a0, ta0, h⟩ := withRow_some (by simp) h
    obtain ⟨a1, ta1, h⟩ := withRow_some (by simp) h
    exact ⟨_, (.cons (.val (.cons ta0 .nil)) (.cons (.val (.cons ta1 .nil)) .nil)), (laws_lbTexts.evs ⟨()⟩ k a0 a1 K).trans h⟩
  · cases h
theorem laws_lbTexts.ds : dstB Tryd.f29.ntmps (bodyOf Tryd.f29) = true := by kernel_rfl
theorem laws_lbTexts.cb : callB E.P 29 = true := by kernel_rfl
theorem laws_lbTexts.ok {R : Type} (B : Base) (k : Nat) : ConOk E.P B 29 (laws_lbTexts.con (laws_lbTexts.c (R := R) k)) := con_ok E_orders E_eqs GOk.nil Tryd.func29 (by kernel_rfl) laws_lbTexts.ds rfl (laws_lbTexts.run k)
theorem spec_ShelfAdd.inn {R : Type} (f : spec_ShelfAdd.T R) (a0_0 : ByteArray) (a0_1 : Int) (a1 : ByteArray) (K : Ret → Option R) : (spec_ShelfAdd.con f).run [.val true [.s (.string a0_0), .s (.int .i64 a0_1)], .val false [.s (.string a1)]] K = f a0_0 a0_1 a1 (fun r1 r2 r3 => K ⟨[.val true [.s (.string r1), .s (.int .i64 r2)], .val false [.s (.bool r3)]], []⟩) := by kernel_rfl
theorem spec_ShelfAdd.run {R : Type} (k : Nat) (args : List RV) (K : Ret → Option R) (o : R) (h : (spec_ShelfAdd.con (spec_ShelfAdd.c k)).run args K = some o) : ∃ args', All2 TyRV args args' ∧ evFunc E (spec_ShelfAdd.G ⟨(), spec_ShelfOk.c k, spec_l11RecOk.c k, spec_l11Rec.c k⟩) k spec_ShelfAdd.H [] false Tryd.f15 args' K = some o := by
  unfold spec_ShelfAdd.con at h
  simp only at h
  split at h
  · rename_i a0_0 a0_1 a1
    exact ⟨_, (.cons (.val (.cons .s (.cons .s .nil))) (.cons (.val (.cons .s .nil)) .nil)), (spec_ShelfAdd.evs ⟨(), spec_ShelfOk.c k, spec_l11RecOk.c k, spec_l11Rec.c k⟩ k a0_0 a0_1 a1 K).trans h⟩
  · cases h
theorem spec_ShelfAdd.ds : dstB Tryd.f15.ntmps (bodyOf Tryd.f15) = true := by kernel_rfl
theorem spec_ShelfAdd.cb : callB E.P 15 = true := by kernel_rfl
theorem spec_ShelfAdd.ok {R : Type} (B : Base) (k : Nat) : ConOk E.P B 15 (spec_ShelfAdd.con (spec_ShelfAdd.c (R := R) k)) := con_ok E_orders E_eqs (GOk.cons spec_ShelfOk.cb (spec_ShelfOk.ok B k) (GOk.cons spec_l11RecOk.cb (spec_l11RecOk.ok B k) (GOk.cons spec_l11Rec.cb (spec_l11Rec.ok B k) GOk.nil))) Tryd.func15 (by kernel_rfl) spec_ShelfAdd.ds rfl (spec_ShelfAdd.run k)
theorem spec_l3Keeper.inn {R : Type} (f : spec_l3Keeper.T R) (a0 : Int) (K : Ret → Option R) : (spec_l3Keeper.con f).run [.val false [.s (.int .i64 a0)]] K = f a0 (fun r1 => K ⟨[.val false [.s (.bool r1)]], []⟩) := by kernel_rfl
theorem spec_l3Keeper.run {R : Type} (k : Nat) (args : List RV) (K : Ret → Option R) (o : R) (h : (spec_l3Keeper.con (spec_l3Keeper.c k)).run args K = some o) : ∃ args', All2 TyRV args args' ∧ evFunc E (spec_l3Keeper.G ⟨(), spec_l6In.c k⟩) k spec_l3Keeper.H [] false Tryd.f69 args' K = some o := by
  unfold spec_l3Keeper.con at h
  simp only at h
  split at h
  · rename_i a0
    exact ⟨_, (.cons (.val (.cons .s .nil)) .nil), (spec_l3Keeper.evs ⟨(), spec_l6In.c k⟩ k a0 K).trans h⟩
  · cases h
theorem spec_l3Keeper.ds : dstB Tryd.f69.ntmps (bodyOf Tryd.f69) = true := by kernel_rfl
theorem spec_l3Keeper.cb : callB E.P 69 = true := by kernel_rfl
theorem spec_l3Keeper.ok {R : Type} (B : Base) (k : Nat) : ConOk E.P B 69 (spec_l3Keeper.con (spec_l3Keeper.c (R := R) k)) := con_ok E_orders E_eqs (GOk.cons spec_l6In.cb (spec_l6In.ok B k) GOk.nil) Tryd.func69 (by kernel_rfl) spec_l3Keeper.ds rfl (spec_l3Keeper.run k)
theorem spec_NoteOk.inn {R : Type} (f : spec_NoteOk.T R) (a0_0 : Int) (a0_1 : Int) (a0_2 : Int) (a0_3 : Int) (a0_4 : ByteArray) (K : Ret → Option R) : (spec_NoteOk.con f).run [.val true [.s (.int .i64 a0_0), .s (.int .i64 a0_1), .s (.int .i64 a0_2), .s (.int .i64 a0_3), .s (.string a0_4)]] K = f a0_0 a0_1 a0_2 a0_3 a0_4 (fun r1 => K ⟨[.val false [.s (.bool r1)]], []⟩) := by kernel_rfl
theorem spec_NoteOk.run {R : Type} (k : Nat) (args : List RV) (K : Ret → Option R) (o : R) (h : (spec_NoteOk.con (spec_NoteOk.c k)).run args K = some o) : ∃ args', All2 TyRV args args' ∧ evFunc E (spec_NoteOk.G ⟨(), spec_l3Keeper.c k, spec_l6In.c k⟩) k spec_NoteOk.H [] false Tryd.f38 args' K = some o := by
  unfold spec_NoteOk.con at h
  simp only at h
  split at h
  · rename_i a0_0 a0_1 a0_2 a0_3 a0_4
    exact ⟨_, (.cons (.val (.cons .s (.cons .s (.cons .s (.cons .s (.cons .s .nil)))))) .nil), (spec_NoteOk.evs ⟨(), spec_l3Keeper.c k, spec_l6In.c k⟩ k a0_0 a0_1 a0_2 a0_3 a0_4 K).trans h⟩
  · cases h
theorem spec_NoteOk.ds : dstB Tryd.f38.ntmps (bodyOf Tryd.f38) = true := by kernel_rfl
theorem spec_NoteOk.cb : callB E.P 38 = true := by kernel_rfl
theorem spec_NoteOk.ok {R : Type} (B : Base) (k : Nat) : ConOk E.P B 38 (spec_NoteOk.con (spec_NoteOk.c (R := R) k)) := con_ok E_orders E_eqs (GOk.cons spec_l3Keeper.cb (spec_l3Keeper.ok B k) (GOk.cons spec_l6In.cb (spec_l6In.ok B k) GOk.nil)) Tryd.func38 (by kernel_rfl) spec_NoteOk.ds rfl (spec_NoteOk.run k)
theorem spec_NoteWrite.inn {R : Type} (f : spec_NoteWrite.T R) (a0_0 : Int) (a0_1 : Int) (a0_2 : Int) (a0_3 : Int) (a0_4 : ByteArray) (K : Ret → Option R) : (spec_NoteWrite.con f).run [.val true [.s (.int .i64 a0_0), .s (.int .i64 a0_1), .s (.int .i64 a0_2), .s (.int .i64 a0_3), .s (.string a0_4)]] K = f a0_0 a0_1 a0_2 a0_3 a0_4 (fun r1 => K ⟨[.val false [.s (.string r1)]], []⟩) := by kernel_rfl
theorem spec_NoteWrite.run {R : Type} (k : Nat) (args : List RV) (K : Ret → Option R) (o : R) (h : (spec_NoteWrite.con (spec_NoteWrite.c k)).run args K = some o) : ∃ args', All2 TyRV args args' ∧ evFunc E (spec_NoteWrite.G ⟨(), spec_NoteOk.c k, spec_l6Dec.c k⟩) k spec_NoteWrite.H [] false Tryd.f37 args' K = some o := by
  unfold spec_NoteWrite.con at h
  simp only at h
  split at h
  · rename_i a0_0 a0_1 a0_2 a0_3 a0_4
    exact ⟨_, (.cons (.val (.cons .s (.cons .s (.cons .s (.cons .s (.cons .s .nil)))))) .nil), (spec_NoteWrite.evs ⟨(), spec_NoteOk.c k, spec_l6Dec.c k⟩ k a0_0 a0_1 a0_2 a0_3 a0_4 K).trans h⟩
  · cases h
theorem spec_NoteWrite.ds : dstB Tryd.f37.ntmps (bodyOf Tryd.f37) = true := by kernel_rfl
theorem spec_NoteWrite.cb : callB E.P 37 = true := by kernel_rfl
theorem spec_NoteWrite.ok {R : Type} (B : Base) (k : Nat) : ConOk E.P B 37 (spec_NoteWrite.con (spec_NoteWrite.c (R := R) k)) := con_ok E_orders E_eqs (GOk.cons spec_NoteOk.cb (spec_NoteOk.ok B k) (GOk.cons spec_l6Dec.cb (spec_l6Dec.ok B k) GOk.nil)) Tryd.func37 (by kernel_rfl) spec_NoteWrite.ds rfl (spec_NoteWrite.run k)
theorem spec_l6Rd_pick.inn {R : Type} (f : spec_l6Rd_pick.T R) (a0_0 : List Int) (a0_1 : Int) (a1 : Int) (K : Ret → Option R) : (spec_l6Rd_pick.con f).run [.ref [.row .ro [.int .u8] a0_0, .s (.int .i64 a0_1)], .val false [.s (.int .i64 a1)]] K = f a0_0 a0_1 a1 (fun r1 r2 => K ⟨[.val false [.s (.int .i64 r1)]], [[.row .ro [.int .u8] a0_0, .s (.int .i64 r2)]]⟩) := by kernel_rfl
theorem spec_l6Rd_pick.run {R : Type} (k : Nat) (args : List RV) (K : Ret → Option R) (o : R) (h : (spec_l6Rd_pick.con (spec_l6Rd_pick.c k)).run args K = some o) : ∃ args', All2 TyRV args args' ∧ evFunc E (spec_l6Rd_pick.G ⟨()⟩) k spec_l6Rd_pick.H [] false Tryd.f62 args' K = some o := by
  unfold spec_l6Rd_pick.con at h
  simp only at h
  split at h
  · rename_i pa0_0 a0_1 a1
    obtain ⟨a0_0, ta0_0, h⟩ := withRow_some (by simp) h
    exact ⟨_, (.cons (.ref (.cons ta0_0 (.cons .s .nil))) (.cons (.val (.cons .s .nil)) .nil)), (spec_l6Rd_pick.evs ⟨()⟩ k a0_0 a0_1 a1 K).trans h⟩
  · cases h
theorem spec_l6Rd_pick.ds : dstB Tryd.f62.ntmps (bodyOf Tryd.f62) = true := by kernel_rfl
theorem spec_l6Rd_pick.cb : callB E.P 62 = true := by kernel_rfl
theorem spec_l6Rd_pick.ok {R : Type} (B : Base) (k : Nat) : ConOk E.P B 62 (spec_l6Rd_pick.con (spec_l6Rd_pick.c (R := R) k)) := con_ok E_orders E_eqs GOk.nil Tryd.func62 (by kernel_rfl) spec_l6Rd_pick.ds rfl (spec_l6Rd_pick.run k)
theorem spec_l6Many.inn {R : Type} (f : spec_l6Many.T R) (a0 : ByteArray) (a1 : Int) (K : Ret → Option R) : (spec_l6Many.con f).run [.val false [.s (.string a0)], .val false [.s (.int .i64 a1)]] K = f a0 a1 (fun r1 => K ⟨[.val false [.s (.string r1)]], []⟩) := by kernel_rfl
theorem spec_l6Many.run {R : Type} (k : Nat) (args : List RV) (K : Ret → Option R) (o : R) (h : (spec_l6Many.con (spec_l6Many.c k)).run args K = some o) : ∃ args', All2 TyRV args args' ∧ evFunc E (spec_l6Many.G ⟨()⟩) k spec_l6Many.H [] false Tryd.f63 args' K = some o := by
  unfold spec_l6Many.con at h
  simp only at h
  split at h
  · rename_i a0 a1
    exact ⟨_, (.cons (.val (.cons .s .nil)) (.cons (.val (.cons .s .nil)) .nil)), (spec_l6Many.evs ⟨()⟩ k a0 a1 K).trans h⟩
  · cases h
theorem spec_l6Many.ds : dstB Tryd.f63.ntmps (bodyOf Tryd.f63) = true := by kernel_rfl
theorem spec_l6Many.cb : callB E.P 63 = true := by kernel_rfl
theorem spec_l6Many.ok {R : Type} (B : Base) (k : Nat) : ConOk E.P B 63 (spec_l6Many.con (spec_l6Many.c (R := R) k)) := con_ok E_orders E_eqs GOk.nil Tryd.func63 (by kernel_rfl) spec_l6Many.ds rfl (spec_l6Many.run k)
theorem spec_l6Rd_of.inn {R : Type} (f : spec_l6Rd_of.T R) (a0_0 : List Int) (a0_1 : Int) (a1 : List ByteArray) (K : Ret → Option R) : (spec_l6Rd_of.con f).run [.ref [.row .ro [.int .u8] a0_0, .s (.int .i64 a0_1)], .val false [.row .ro [.str] a1]] K = f a0_0 a0_1 a1 (fun r1 r2 => K ⟨[.val false [.s (.string r1)]], [[.row .ro [.int .u8] a0_0, .s (.int .i64 r2)]]⟩) := by kernel_rfl
theorem spec_l6Rd_of.run {R : Type} (k : Nat) (args : List RV) (K : Ret → Option R) (o : R) (h : (spec_l6Rd_of.con (spec_l6Rd_of.c k)).run args K = some o) : ∃ args', All2 TyRV args args' ∧ evFunc E (spec_l6Rd_of.G ⟨(), spec_l6Rd_pick.c k⟩) k spec_l6Rd_of.H [] false Tryd.f89 args' K = some o := by
  unfold spec_l6Rd_of.con at h
  simp only at h
  split at h
  · rename_i pa0_0 a0_1 pa1
    obtain ⟨a0_0, ta0_0, h⟩ := withRow_some (by simp) h
    obtain ⟨a1, ta1, h⟩ := withRow_some (by simp) h
    exact ⟨_, (.cons (.ref (.cons ta0_0 (.cons .s .nil))) (.cons (.val (.cons ta1 .nil)) .nil)), (spec_l6Rd_of.evs ⟨(), spec_l6Rd_pick.c k⟩ k a0_0 a0_1 a1 K).trans h⟩
  · cases h
theorem spec_l6Rd_of.ds : dstB Tryd.f89.ntmps (bodyOf Tryd.f89) = true := by kernel_rfl
theorem spec_l6Rd_of.cb : callB E.P 89 = true := by kernel_rfl
theorem spec_l6Rd_of.ok {R : Type} (B : Base) (k : Nat) : ConOk E.P B 89 (spec_l6Rd_of.con (spec_l6Rd_of.c (R := R) k)) := con_ok E_orders E_eqs (GOk.cons spec_l6Rd_pick.cb (spec_l6Rd_pick.ok B k) GOk.nil) Tryd.func89 (by kernel_rfl) spec_l6Rd_of.ds rfl (spec_l6Rd_of.run k)
theorem spec_l72Text.inn {R : Type} (f : spec_l72Text.T R) (a0_0 : List Int) (a0_1 : Int) (K : Ret → Option R) : (spec_l72Text.con f).run [.ref [.row .ro [.int .u8] a0_0, .s (.int .i64 a0_1)]] K = f a0_0 a0_1 (fun r1 r2 => K ⟨[.val false [.s (.string r1)]], [[.row .ro [.int .u8] a0_0, .s (.int .i64 r2)]]⟩) := by kernel_rfl
theorem spec_l72Text.run {R : Type} (k : Nat) (args : List RV) (K : Ret → Option R) (o : R) (h : (spec_l72Text.con (spec_l72Text.c k)).run args K = some o) : ∃ args', All2 TyRV args args' ∧ evFunc E (spec_l72Text.G ⟨(), spec_l6Rd_pick.c k, spec_l6Many.c k, spec_l6Rd_of.c k⟩) k spec_l72Text.H [] false Tryd.f93 args' K = some o := by
  unfold spec_l72Text.con at h
  simp only at h
  split at h
  · rename_i pa0_0 a0_1
    obtain ⟨a0_0, ta0_0, h⟩ := withRow_some (by simp) h
    exact ⟨_, (.cons (.ref (.cons ta0_0 (.cons .s .nil))) .nil), (spec_l72Text.evs ⟨(), spec_l6Rd_pick.c k, spec_l6Many.c k, spec_l6Rd_of.c k⟩ k a0_0 a0_1 K).trans h⟩
  · cases h
theorem spec_l72Text.ds : dstB Tryd.f93.ntmps (bodyOf Tryd.f93) = true := by kernel_rfl
theorem spec_l72Text.cb : callB E.P 93 = true := by kernel_rfl
theorem spec_l72Text.ok {R : Type} (B : Base) (k : Nat) : ConOk E.P B 93 (spec_l72Text.con (spec_l72Text.c (R := R) k)) := con_ok E_orders E_eqs (GOk.cons spec_l6Rd_pick.cb (spec_l6Rd_pick.ok B k) (GOk.cons spec_l6Many.cb (spec_l6Many.ok B k) (GOk.cons spec_l6Rd_of.cb (spec_l6Rd_of.ok B k) GOk.nil))) Tryd.func93 (by kernel_rfl) spec_l72Text.ds rfl (spec_l72Text.run k)
theorem spec_l72Note.inn {R : Type} (f : spec_l72Note.T R) (a0_0 : List Int) (a0_1 : Int) (K : Ret → Option R) : (spec_l72Note.con f).run [.ref [.row .ro [.int .u8] a0_0, .s (.int .i64 a0_1)]] K = f a0_0 a0_1 (fun r1 r2 r3 r4 r5 r6 => K ⟨[.val true [.s (.int .i64 r1), .s (.int .i64 r2), .s (.int .i64 r3), .s (.int .i64 r4), .s (.string r5)]], [[.row .ro [.int .u8] a0_0, .s (.int .i64 r6)]]⟩) := by kernel_rfl
theorem spec_l72Note.run {R : Type} (k : Nat) (args : List RV) (K : Ret → Option R) (o : R) (h : (spec_l72Note.con (spec_l72Note.c k)).run args K = some o) : ∃ args', All2 TyRV args args' ∧ evFunc E (spec_l72Note.G ⟨(), spec_l6Rd_pick.c k, spec_l6Rd_of.c k, spec_l72Text.c k⟩) k spec_l72Note.H [] false Tryd.f67 args' K = some o := by
  unfold spec_l72Note.con at h
  simp only at h
  split at h
  · rename_i pa0_0 a0_1
    obtain ⟨a0_0, ta0_0, h⟩ := withRow_some (by simp) h
    exact ⟨_, (.cons (.ref (.cons ta0_0 (.cons .s .nil))) .nil), (spec_l72Note.evs ⟨(), spec_l6Rd_pick.c k, spec_l6Rd_of.c k, spec_l72Text.c k⟩ k a0_0 a0_1 K).trans h⟩
  · cases h
theorem spec_l72Note.ds : dstB Tryd.f67.ntmps (bodyOf Tryd.f67) = true := by kernel_rfl
theorem spec_l72Note.cb : callB E.P 67 = true := by kernel_rfl
theorem spec_l72Note.ok {R : Type} (B : Base) (k : Nat) : ConOk E.P B 67 (spec_l72Note.con (spec_l72Note.c (R := R) k)) := con_ok E_orders E_eqs (GOk.cons spec_l6Rd_pick.cb (spec_l6Rd_pick.ok B k) (GOk.cons spec_l6Rd_of.cb (spec_l6Rd_of.ok B k) (GOk.cons spec_l72Text.cb (spec_l72Text.ok B k) GOk.nil))) Tryd.func67 (by kernel_rfl) spec_l72Note.ds rfl (spec_l72Note.run k)
theorem spec_l22Three.inn {R : Type} (f : spec_l22Three.T R) (a0 : Int) (a1 : Int) (a2 : Int) (K : Ret → Option R) : (spec_l22Three.con f).run [.val false [.s (.int .i64 a0)], .val false [.s (.int .i64 a1)], .val false [.s (.int .i64 a2)]] K = f a0 a1 a2 (fun r1 => K ⟨[.val false [.s (.string r1)]], []⟩) := by kernel_rfl
theorem spec_l22Three.run {R : Type} (k : Nat) (args : List RV) (K : Ret → Option R) (o : R) (h : (spec_l22Three.con (spec_l22Three.c k)).run args K = some o) : ∃ args', All2 TyRV args args' ∧ evFunc E (spec_l22Three.G ⟨(), spec_l6Dec.c k⟩) k spec_l22Three.H [] false Tryd.f88 args' K = some o := by
  unfold spec_l22Three.con at h
  simp only at h
  split at h
  · rename_i a0 a1 a2
    exact ⟨_, (.cons (.val (.cons .s .nil)) (.cons (.val (.cons .s .nil)) (.cons (.val (.cons .s .nil)) .nil))), (spec_l22Three.evs ⟨(), spec_l6Dec.c k⟩ k a0 a1 a2 K).trans h⟩
  · cases h
theorem spec_l22Three.ds : dstB Tryd.f88.ntmps (bodyOf Tryd.f88) = true := by kernel_rfl
theorem spec_l22Three.cb : callB E.P 88 = true := by kernel_rfl
theorem spec_l22Three.ok {R : Type} (B : Base) (k : Nat) : ConOk E.P B 88 (spec_l22Three.con (spec_l22Three.c (R := R) k)) := con_ok E_orders E_eqs (GOk.cons spec_l6Dec.cb (spec_l6Dec.ok B k) GOk.nil) Tryd.func88 (by kernel_rfl) spec_l22Three.ds rfl (spec_l22Three.run k)
theorem spec_l72Rec.inn {R : Type} (f : spec_l72Rec.T R) (a0_0 : List Int) (a0_1 : Int) (K : Ret → Option R) : (spec_l72Rec.con f).run [.ref [.row .ro [.int .u8] a0_0, .s (.int .i64 a0_1)]] K = f a0_0 a0_1 (fun r1 r2 => K ⟨[.val false [.s (.string r1)]], [[.row .ro [.int .u8] a0_0, .s (.int .i64 r2)]]⟩) := by kernel_rfl
theorem spec_l72Rec.run {R : Type} (k : Nat) (args : List RV) (K : Ret → Option R) (o : R) (h : (spec_l72Rec.con (spec_l72Rec.c k)).run args K = some o) : ∃ args', All2 TyRV args args' ∧ evFunc E (spec_l72Rec.G ⟨(), spec_l6Rd_pick.c k, spec_l6Dec.c k, spec_l22Three.c k, spec_l6Many.c k, spec_l6Rd_of.c k, spec_l72Note.c k, spec_NoteWrite.c k⟩) k spec_l72Rec.H [] false Tryd.f58 args' K = some o := by
  unfold spec_l72Rec.con at h
  simp only at h
  split at h
  · rename_i pa0_0 a0_1
    obtain ⟨a0_0, ta0_0, h⟩ := withRow_some (by simp) h
    exact ⟨_, (.cons (.ref (.cons ta0_0 (.cons .s .nil))) .nil), (spec_l72Rec.evs ⟨(), spec_l6Rd_pick.c k, spec_l6Dec.c k, spec_l22Three.c k, spec_l6Many.c k, spec_l6Rd_of.c k, spec_l72Note.c k, spec_NoteWrite.c k⟩ k a0_0 a0_1 K).trans h⟩
  · cases h
theorem spec_l72Rec.ds : dstB Tryd.f58.ntmps (bodyOf Tryd.f58) = true := by kernel_rfl
theorem spec_l72Rec.cb : callB E.P 58 = true := by kernel_rfl
theorem spec_l72Rec.ok {R : Type} (B : Base) (k : Nat) : ConOk E.P B 58 (spec_l72Rec.con (spec_l72Rec.c (R := R) k)) := con_ok E_orders E_eqs (GOk.cons spec_l6Rd_pick.cb (spec_l6Rd_pick.ok B k) (GOk.cons spec_l6Dec.cb (spec_l6Dec.ok B k) (GOk.cons spec_l22Three.cb (spec_l22Three.ok B k) (GOk.cons spec_l6Many.cb (spec_l6Many.ok B k) (GOk.cons spec_l6Rd_of.cb (spec_l6Rd_of.ok B k) (GOk.cons spec_l72Note.cb (spec_l72Note.ok B k) (GOk.cons spec_NoteWrite.cb (spec_NoteWrite.ok B k) GOk.nil))))))) Tryd.func58 (by kernel_rfl) spec_l72Rec.ds rfl (spec_l72Rec.run k)
theorem spec_l72Bend.inn {R : Type} (f : spec_l72Bend.T R) (a0_0 : List Int) (a0_1 : Int) (a1 : ByteArray) (K : Ret → Option R) : (spec_l72Bend.con f).run [.ref [.row .ro [.int .u8] a0_0, .s (.int .i64 a0_1)], .val false [.s (.string a1)]] K = f a0_0 a0_1 a1 (fun r1 r2 => K ⟨[.val false [.s (.string r1)]], [[.row .ro [.int .u8] a0_0, .s (.int .i64 r2)]]⟩) := by kernel_rfl
theorem spec_l72Bend.run {R : Type} (k : Nat) (args : List RV) (K : Ret → Option R) (o : R) (h : (spec_l72Bend.con (spec_l72Bend.c k)).run args K = some o) : ∃ args', All2 TyRV args args' ∧ evFunc E (spec_l72Bend.G ⟨(), spec_l6Rd_pick.c k, spec_l6Rd_of.c k⟩) k spec_l72Bend.H [] false Tryd.f73 args' K = some o := by
  unfold spec_l72Bend.con at h
  simp only at h
  split at h
  · rename_i pa0_0 a0_1 a1
    obtain ⟨a0_0, ta0_0, h⟩ := withRow_some (by simp) h
    exact ⟨_, (.cons (.ref (.cons ta0_0 (.cons .s .nil))) (.cons (.val (.cons .s .nil)) .nil)), (spec_l72Bend.evs ⟨(), spec_l6Rd_pick.c k, spec_l6Rd_of.c k⟩ k a0_0 a0_1 a1 K).trans h⟩
  · cases h
theorem spec_l72Bend.ds : dstB Tryd.f73.ntmps (bodyOf Tryd.f73) = true := by kernel_rfl
theorem spec_l72Bend.cb : callB E.P 73 = true := by kernel_rfl
theorem spec_l72Bend.ok {R : Type} (B : Base) (k : Nat) : ConOk E.P B 73 (spec_l72Bend.con (spec_l72Bend.c (R := R) k)) := con_ok E_orders E_eqs (GOk.cons spec_l6Rd_pick.cb (spec_l6Rd_pick.ok B k) (GOk.cons spec_l6Rd_of.cb (spec_l6Rd_of.ok B k) GOk.nil)) Tryd.func73 (by kernel_rfl) spec_l72Bend.ds rfl (spec_l72Bend.run k)
theorem spec_ShelfForce.inn {R : Type} (f : spec_ShelfForce.T R) (a0_0 : ByteArray) (a0_1 : Int) (K : Ret → Option R) : (spec_ShelfForce.con f).run [.val true [.s (.string a0_0), .s (.int .i64 a0_1)]] K = f a0_0 a0_1 (fun r1 r2 => K ⟨[.val true [.s (.string r1), .s (.int .i64 r2)]], []⟩) := by kernel_rfl
theorem spec_ShelfForce.run {R : Type} (k : Nat) (args : List RV) (K : Ret → Option R) (o : R) (h : (spec_ShelfForce.con (spec_ShelfForce.c k)).run args K = some o) : ∃ args', All2 TyRV args args' ∧ evFunc E (spec_ShelfForce.G ⟨(), spec_ShelfOk.c k⟩) k spec_ShelfForce.H [] false Tryd.f86 args' K = some o := by
  unfold spec_ShelfForce.con at h
  simp only at h
  split at h
  · rename_i a0_0 a0_1
    exact ⟨_, (.cons (.val (.cons .s (.cons .s .nil))) .nil), (spec_ShelfForce.evs ⟨(), spec_ShelfOk.c k⟩ k a0_0 a0_1 K).trans h⟩
  · cases h
theorem spec_ShelfForce.ds : dstB Tryd.f86.ntmps (bodyOf Tryd.f86) = true := by kernel_rfl
theorem spec_ShelfForce.cb : callB E.P 86 = true := by kernel_rfl
theorem spec_ShelfForce.ok {R : Type} (B : Base) (k : Nat) : ConOk E.P B 86 (spec_ShelfForce.con (spec_ShelfForce.c (R := R) k)) := con_ok E_orders E_eqs (GOk.cons spec_ShelfOk.cb (spec_ShelfOk.ok B k) GOk.nil) Tryd.func86 (by kernel_rfl) spec_ShelfForce.ds rfl (spec_ShelfForce.run k)
theorem spec_l72Shelf.inn {R : Type} (f : spec_l72Shelf.T R) (a0_0 : List Int) (a0_1 : Int) (K : Ret → Option R) : (spec_l72Shelf.con f).run [.ref [.row .ro [.int .u8] a0_0, .s (.int .i64 a0_1)]] K = f a0_0 a0_1 (fun r1 r2 r3 => K ⟨[.val true [.s (.string r1), .s (.int .i64 r2)]], [[.row .ro [.int .u8] a0_0, .s (.int .i64 r3)]]⟩) := by kernel_rfl
theorem spec_l72Shelf.run {R : Type} (k : Nat) (args : List RV) (K : Ret → Option R) (o : R) (h : (spec_l72Shelf.con (spec_l72Shelf.c k)).run args K = some o) : ∃ args', All2 TyRV args args' ∧ evFunc E (spec_l72Shelf.G ⟨(), spec_l6Rd_pick.c k, spec_l72Rec.c k, spec_ShelfAdd.c k, spec_ShelfForce.c k, spec_l72Bend.c k, spec_l6Many.c k, spec_l11Rec.c k⟩) k spec_l72Shelf.H [] false Tryd.f54 args' K = some o := by
  unfold spec_l72Shelf.con at h
  simp only at h
  split at h
  · rename_i pa0_0 a0_1
    obtain ⟨a0_0, ta0_0, h⟩ := withRow_some (by simp) h
    exact ⟨_, (.cons (.ref (.cons ta0_0 (.cons .s .nil))) .nil), (spec_l72Shelf.evs ⟨(), spec_l6Rd_pick.c k, spec_l72Rec.c k, spec_ShelfAdd.c k, spec_ShelfForce.c k, spec_l72Bend.c k, spec_l6Many.c k, spec_l11Rec.c k⟩ k a0_0 a0_1 K).trans h⟩
  · cases h
theorem spec_l72Shelf.ds : dstB Tryd.f54.ntmps (bodyOf Tryd.f54) = true := by kernel_rfl
theorem spec_l72Shelf.cb : callB E.P 54 = true := by kernel_rfl
theorem spec_l72Shelf.ok {R : Type} (B : Base) (k : Nat) : ConOk E.P B 54 (spec_l72Shelf.con (spec_l72Shelf.c (R := R) k)) := con_ok E_orders E_eqs (GOk.cons spec_l6Rd_pick.cb (spec_l6Rd_pick.ok B k) (GOk.cons spec_l72Rec.cb (spec_l72Rec.ok B k) (GOk.cons spec_ShelfAdd.cb (spec_ShelfAdd.ok B k) (GOk.cons spec_ShelfForce.cb (spec_ShelfForce.ok B k) (GOk.cons spec_l72Bend.cb (spec_l72Bend.ok B k) (GOk.cons spec_l6Many.cb (spec_l6Many.ok B k) (GOk.cons spec_l11Rec.cb (spec_l11Rec.ok B k) GOk.nil))))))) Tryd.func54 (by kernel_rfl) spec_l72Shelf.ds rfl (spec_l72Shelf.run k)
theorem spec_l6Open.inn {R : Type} (f : spec_l6Open.T R) (a0 : List Int) (K : Ret → Option R) : (spec_l6Open.con f).run [.val false [.row .ro [.int .u8] a0]] K = f a0 (fun r1 r2 => K ⟨[.ref [.row .ro [.int .u8] r1, .s (.int .i64 r2)]], []⟩) := by kernel_rfl
theorem spec_l6Open.run {R : Type} (k : Nat) (args : List RV) (K : Ret → Option R) (o : R) (h : (spec_l6Open.con (spec_l6Open.c k)).run args K = some o) : ∃ args', All2 TyRV args args' ∧ evFunc E (spec_l6Open.G ⟨()⟩) k spec_l6Open.H [] false Tryd.f55 args' K = some o := by
  unfold spec_l6Open.con at h
  simp only at h
  split at h
  · rename_i pa0
    obtain ⟨a0, ta0, h⟩ := withRow_some (by simp) h
    exact ⟨_, (.cons (.val (.cons ta0 .nil)) .nil), (spec_l6Open.evs ⟨()⟩ k a0 K).trans h⟩
  · cases h
theorem spec_l6Open.ds : dstB Tryd.f55.ntmps (bodyOf Tryd.f55) = true := by kernel_rfl
theorem spec_l6Open.cb : callB E.P 55 = true := by kernel_rfl
theorem spec_l6Open.ok {R : Type} (B : Base) (k : Nat) : ConOk E.P B 55 (spec_l6Open.con (spec_l6Open.c (R := R) k)) := con_ok E_orders E_eqs GOk.nil Tryd.func55 (by kernel_rfl) spec_l6Open.ds rfl (spec_l6Open.run k)
theorem spec_DrawShelfPack.inn {R : Type} (f : spec_DrawShelfPack.T R) (a0 : List Int) (K : Ret → Option R) : (spec_DrawShelfPack.con f).run [.val false [.row .ro [.int .u8] a0]] K = f a0 (fun r1 r2 r3 => K ⟨[.val true [.s (.string r1), .s (.int .i64 r2)], .val false [.row .own [.str] r3]], []⟩) := by kernel_rfl
theorem spec_DrawShelfPack.run {R : Type} (k : Nat) (args : List RV) (K : Ret → Option R) (o : R) (h : (spec_DrawShelfPack.con (spec_DrawShelfPack.c k)).run args K = some o) : ∃ args', All2 TyRV args args' ∧ evFunc E (spec_DrawShelfPack.G ⟨(), spec_l6Open.c k, spec_l6Rd_pick.c k, spec_l72Rec.c k, spec_l6Many.c k, spec_l72Shelf.c k⟩) k spec_DrawShelfPack.H [] false Tryd.f32 args' K = some o := by
  unfold spec_DrawShelfPack.con at h
  simp only at h
  split at h
  · rename_i pa0
    obtain ⟨a0, ta0, h⟩ := withRow_some (by simp) h
    exact ⟨_, (.cons (.val (.cons ta0 .nil)) .nil), (spec_DrawShelfPack.evs ⟨(), spec_l6Open.c k, spec_l6Rd_pick.c k, spec_l72Rec.c k, spec_l6Many.c k, spec_l72Shelf.c k⟩ k a0 K).trans h⟩
  · cases h
theorem spec_DrawShelfPack.ds : dstB Tryd.f32.ntmps (bodyOf Tryd.f32) = true := by kernel_rfl
theorem spec_DrawShelfPack.cb : callB E.P 32 = true := by kernel_rfl
theorem spec_DrawShelfPack.ok {R : Type} (B : Base) (k : Nat) : ConOk E.P B 32 (spec_DrawShelfPack.con (spec_DrawShelfPack.c (R := R) k)) := con_ok E_orders E_eqs (GOk.cons spec_l6Open.cb (spec_l6Open.ok B k) (GOk.cons spec_l6Rd_pick.cb (spec_l6Rd_pick.ok B k) (GOk.cons spec_l72Rec.cb (spec_l72Rec.ok B k) (GOk.cons spec_l6Many.cb (spec_l6Many.ok B k) (GOk.cons spec_l72Shelf.cb (spec_l72Shelf.ok B k) GOk.nil))))) Tryd.func32 (by kernel_rfl) spec_DrawShelfPack.ds rfl (spec_DrawShelfPack.run k)
theorem laws_FnShelfPack.inn {R : Type} (f : laws_FnShelfPack.T R) (a0 : List Int) (K : Ret → Option R) : (laws_FnShelfPack.con f).run [.val false [.row .ro [.int .u8] a0]] K = f a0 (fun r1 => K ⟨[.val false [.s (.bool r1)]], []⟩) := by kernel_rfl
theorem laws_FnShelfPack.run {R : Type} (k : Nat) (args : List RV) (K : Ret → Option R) (o : R) (h : (laws_FnShelfPack.con (laws_FnShelfPack.c k)).run args K = some o) : ∃ args', All2 TyRV args args' ∧ evFunc E (laws_FnShelfPack.G ⟨(), spec_DrawShelfPack.c k, spec_ShelfPack.c k, impl_ShelfPack.c k, impl_ShelfRead.c k, laws_lbTexts.c k, impl_ShelfOk.c k⟩) k laws_FnShelfPack.H [] false Tryd.f9 args' K = some o := by
  unfold laws_FnShelfPack.con at h
  simp only at h
  split at h
  · rename_i pa0
    obtain ⟨a0, ta0, h⟩ := withRow_some (by simp) h
    exact ⟨_, (.cons (.val (.cons ta0 .nil)) .nil), (laws_FnShelfPack.evs ⟨(), spec_DrawShelfPack.c k, spec_ShelfPack.c k, impl_ShelfPack.c k, impl_ShelfRead.c k, laws_lbTexts.c k, impl_ShelfOk.c k⟩ k a0 K).trans h⟩
  · cases h
theorem laws_FnShelfPack.ds : dstB Tryd.f9.ntmps (bodyOf Tryd.f9) = true := by kernel_rfl
theorem laws_FnShelfPack.cb : callB E.P 9 = true := by kernel_rfl
theorem laws_FnShelfPack.ok {R : Type} (B : Base) (hI : ExtI E.P B) (k : Nat) : ConOk E.P B 9 (laws_FnShelfPack.con (laws_FnShelfPack.c (R := R) k)) := con_ok E_orders E_eqs (GOk.cons spec_DrawShelfPack.cb (spec_DrawShelfPack.ok B k) (GOk.cons spec_ShelfPack.cb (spec_ShelfPack.ok B k) (GOk.cons impl_ShelfPack.cb (impl_ShelfPack.ok B hI k) (GOk.cons impl_ShelfRead.cb (impl_ShelfRead.ok B k) (GOk.cons laws_lbTexts.cb (laws_lbTexts.ok B k) (GOk.cons impl_ShelfOk.cb (impl_ShelfOk.ok B k) GOk.nil)))))) Tryd.func9 (by kernel_rfl) laws_FnShelfPack.ds rfl (laws_FnShelfPack.run k)
end Go.Ev.F
