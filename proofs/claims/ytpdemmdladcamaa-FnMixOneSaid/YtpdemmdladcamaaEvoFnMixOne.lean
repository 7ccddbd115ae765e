/- What the Go functions compute is what the machine does. No condition. Written by a program of this session. -/
import Derived.Test.YtpdemmdladcamaaEvtFnMixOne
import Derived.Test.YtpdemmdladcamaaSoE
namespace Go.Ev.F
open Go.Proofs
set_option linter.unusedVariables false
set_option maxRecDepth 100000
theorem E_orders : E.P.follows .mixedOrders = true := by kernel_rfl
theorem E_eqs : ∀ t ∈ E.eqs, eqFree E.P t = true := List.all_eq_true.mp (by kernel_rfl)
theorem spec_l2Blocks.inn {R : Type} (f : spec_l2Blocks.T R) (a0 : Int) (K : Ret → Option R) : (spec_l2Blocks.con f).run [.val false [.s (.int .i64 a0)]] K = f a0 (fun r1 => K ⟨[.val false [.s (.int .i64 r1)]], []⟩) := by kernel_rfl
theorem spec_l2Blocks.run {R : Type} (k : Nat) (args : List RV) (K : Ret → Option R) (o : R) (h : (spec_l2Blocks.con (spec_l2Blocks.c k)).run args K = some o) : ∃ args', All2 TyRV args args' ∧ evFunc E (spec_l2Blocks.G ⟨()⟩) k spec_l2Blocks.H [] false Try.f51 args' K = some o := by
  unfold spec_l2Blocks.con at h
  simp only at h
  split at h
  · rename_i a0
    exact ⟨_, (.cons (.val (.cons .s .nil)) .nil), (spec_l2Blocks.evs ⟨()⟩ k a0 K).trans h⟩
  · cases h
theorem spec_l2Blocks.ds : dstB Try.f51.ntmps (bodyOf Try.f51) = true := by kernel_rfl
theorem spec_l2Blocks.cb : callB E.P 51 = true := by kernel_rfl
theorem spec_l2Blocks.ok {R : Type} (B : Base) (k : Nat) : ConOk E.P B 51 (spec_l2Blocks.con (spec_l2Blocks.c (R := R) k)) := con_ok E_orders E_eqs GOk.nil Try.func51 (by kernel_rfl) spec_l2Blocks.ds rfl (spec_l2Blocks.run k)
theorem spec_MixCut.inn {R : Type} (f : spec_MixCut.T R) (a0 : ByteArray) (K : Ret → Option R) : (spec_MixCut.con f).run [.val false [.s (.string a0)]] K = f a0 (fun r1 => K ⟨[.val false [.row .own [.str] r1]], []⟩) := by kernel_rfl
theorem spec_MixCut.run {R : Type} (k : Nat) (args : List RV) (K : Ret → Option R) (o : R) (h : (spec_MixCut.con (spec_MixCut.c k)).run args K = some o) : ∃ args', All2 TyRV args args' ∧ evFunc E (spec_MixCut.G ⟨(), spec_l2Blocks.c k⟩) k spec_MixCut.H [] false Try.f20 args' K = some o := by
  unfold spec_MixCut.con at h
  simp only at h
  split at h
  · rename_i a0
    exact ⟨_, (.cons (.val (.cons .s .nil)) .nil), (spec_MixCut.evs ⟨(), spec_l2Blocks.c k⟩ k a0 K).trans h⟩
  · cases h
theorem spec_MixCut.ds : dstB Try.f20.ntmps (bodyOf Try.f20) = true := by kernel_rfl
theorem spec_MixCut.cb : callB E.P 20 = true := by kernel_rfl
theorem spec_MixCut.ok {R : Type} (B : Base) (k : Nat) : ConOk E.P B 20 (spec_MixCut.con (spec_MixCut.c (R := R) k)) := con_ok E_orders E_eqs (GOk.cons spec_l2Blocks.cb (spec_l2Blocks.ok B k) GOk.nil) Try.func20 (by kernel_rfl) spec_MixCut.ds rfl (spec_MixCut.run k)
theorem spec_l6In.inn {R : Type} (f : spec_l6In.T R) (a0 : Int) (a1 : Int) (a2 : Int) (K : Ret → Option R) : (spec_l6In.con f).run [.val false [.s (.int .i64 a0)], .val false [.s (.int .i64 a1)], .val false [.s (.int .i64 a2)]] K = f a0 a1 a2 (fun r1 => K ⟨[.val false [.s (.bool r1)]], []⟩) := by kernel_rfl
theorem spec_l6In.run {R : Type} (k : Nat) (args : List RV) (K : Ret → Option R) (o : R) (h : (spec_l6In.con (spec_l6In.c k)).run args K = some o) : ∃ args', All2 TyRV args args' ∧ evFunc E (spec_l6In.G ⟨()⟩) k spec_l6In.H [] false Try.f69 args' K = some o := by
  unfold spec_l6In.con at h
  simp only at h
  split at h
  · rename_i a0 a1 a2
    exact ⟨_, (.cons (.val (.cons .s .nil)) (.cons (.val (.cons .s .nil)) (.cons (.val (.cons .s .nil)) .nil))), (spec_l6In.evs ⟨()⟩ k a0 a1 a2 K).trans h⟩
  · cases h
theorem spec_l6In.ds : dstB Try.f69.ntmps (bodyOf Try.f69) = true := by kernel_rfl
theorem spec_l6In.cb : callB E.P 69 = true := by kernel_rfl
theorem spec_l6In.ok {R : Type} (B : Base) (k : Nat) : ConOk E.P B 69 (spec_l6In.con (spec_l6In.c (R := R) k)) := con_ok E_orders E_eqs GOk.nil Try.func69 (by kernel_rfl) spec_l6In.ds rfl (spec_l6In.run k)
theorem spec_l1Ok.inn {R : Type} (f : spec_l1Ok.T R) (a0 : Int) (a1 : Int) (K : Ret → Option R) : (spec_l1Ok.con f).run [.val false [.s (.int .i64 a0)], .val false [.s (.int .i64 a1)]] K = f a0 a1 (fun r1 => K ⟨[.val false [.s (.bool r1)]], []⟩) := by kernel_rfl
theorem spec_l1Ok.run {R : Type} (k : Nat) (args : List RV) (K : Ret → Option R) (o : R) (h : (spec_l1Ok.con (spec_l1Ok.c k)).run args K = some o) : ∃ args', All2 TyRV args args' ∧ evFunc E (spec_l1Ok.G ⟨(), spec_l6In.c k⟩) k spec_l1Ok.H [] false Try.f57 args' K = some o := by
  unfold spec_l1Ok.con at h
  simp only at h
  split at h
  · rename_i a0 a1
    exact ⟨_, (.cons (.val (.cons .s .nil)) (.cons (.val (.cons .s .nil)) .nil)), (spec_l1Ok.evs ⟨(), spec_l6In.c k⟩ k a0 a1 K).trans h⟩
  · cases h
theorem spec_l1Ok.ds : dstB Try.f57.ntmps (bodyOf Try.f57) = true := by kernel_rfl
theorem spec_l1Ok.cb : callB E.P 57 = true := by kernel_rfl
theorem spec_l1Ok.ok {R : Type} (B : Base) (k : Nat) : ConOk E.P B 57 (spec_l1Ok.con (spec_l1Ok.c (R := R) k)) := con_ok E_orders E_eqs (GOk.cons spec_l6In.cb (spec_l6In.ok B k) GOk.nil) Try.func57 (by kernel_rfl) spec_l1Ok.ds rfl (spec_l1Ok.run k)
theorem spec_RandNext.inn {R : Type} (f : spec_RandNext.T R) (a0 : Int) (K : Ret → Option R) : (spec_RandNext.con f).run [.val false [.s (.int .i64 a0)]] K = f a0 (fun r1 => K ⟨[.val false [.s (.int .i64 r1)]], []⟩) := by kernel_rfl
theorem spec_RandNext.run {R : Type} (k : Nat) (args : List RV) (K : Ret → Option R) (o : R) (h : (spec_RandNext.con (spec_RandNext.c k)).run args K = some o) : ∃ args', All2 TyRV args args' ∧ evFunc E (spec_RandNext.G ⟨(), spec_l6In.c k⟩) k spec_RandNext.H [] false Try.f58 args' K = some o := by
  unfold spec_RandNext.con at h
  simp only at h
  split at h
  · rename_i a0
    exact ⟨_, (.cons (.val (.cons .s .nil)) .nil), (spec_RandNext.evs ⟨(), spec_l6In.c k⟩ k a0 K).trans h⟩
  · cases h
theorem spec_RandNext.ds : dstB Try.f58.ntmps (bodyOf Try.f58) = true := by kernel_rfl
theorem spec_RandNext.cb : callB E.P 58 = true := by kernel_rfl
theorem spec_RandNext.ok {R : Type} (B : Base) (k : Nat) : ConOk E.P B 58 (spec_RandNext.con (spec_RandNext.c (R := R) k)) := con_ok E_orders E_eqs (GOk.cons spec_l6In.cb (spec_l6In.ok B k) GOk.nil) Try.func58 (by kernel_rfl) spec_RandNext.ds rfl (spec_RandNext.run k)
theorem spec_l1Weight.inn {R : Type} (f : spec_l1Weight.T R) (a0 : Int) (a1 : Int) (K : Ret → Option R) : (spec_l1Weight.con f).run [.val false [.s (.int .i64 a0)], .val false [.s (.int .i64 a1)]] K = f a0 a1 (fun r1 => K ⟨[.val false [.s (.int .i64 r1)]], []⟩) := by kernel_rfl
theorem spec_l1Weight.run {R : Type} (k : Nat) (args : List RV) (K : Ret → Option R) (o : R) (h : (spec_l1Weight.con (spec_l1Weight.c k)).run args K = some o) : ∃ args', All2 TyRV args args' ∧ evFunc E (spec_l1Weight.G ⟨()⟩) k spec_l1Weight.H [] false Try.f77 args' K = some o := by
  unfold spec_l1Weight.con at h
  simp only at h
  split at h
  · rename_i a0 a1
    exact ⟨_, (.cons (.val (.cons .s .nil)) (.cons (.val (.cons .s .nil)) .nil)), (spec_l1Weight.evs ⟨()⟩ k a0 a1 K).trans h⟩
  · cases h
theorem spec_l1Weight.ds : dstB Try.f77.ntmps (bodyOf Try.f77) = true := by kernel_rfl
theorem spec_l1Weight.cb : callB E.P 77 = true := by kernel_rfl
theorem spec_l1Weight.ok {R : Type} (B : Base) (k : Nat) : ConOk E.P B 77 (spec_l1Weight.con (spec_l1Weight.c (R := R) k)) := con_ok E_orders E_eqs GOk.nil Try.func77 (by kernel_rfl) spec_l1Weight.ds rfl (spec_l1Weight.run k)
theorem spec_MixDegree.inn {R : Type} (f : spec_MixDegree.T R) (a0 : Int) (a1 : Int) (K : Ret → Option R) : (spec_MixDegree.con f).run [.val false [.s (.int .i64 a0)], .val false [.s (.int .i64 a1)]] K = f a0 a1 (fun r1 => K ⟨[.val false [.s (.int .i64 r1)]], []⟩) := by kernel_rfl
theorem spec_MixDegree.run {R : Type} (k : Nat) (args : List RV) (K : Ret → Option R) (o : R) (h : (spec_MixDegree.con (spec_MixDegree.c k)).run args K = some o) : ∃ args', All2 TyRV args args' ∧ evFunc E (spec_MixDegree.G ⟨(), spec_l1Ok.c k, spec_l1Weight.c k, spec_RandNext.c k⟩) k spec_MixDegree.H [] false Try.f59 args' K = some o := by
  unfold spec_MixDegree.con at h
  simp only at h
  split at h
  · rename_i a0 a1
    exact ⟨_, (.cons (.val (.cons .s .nil)) (.cons (.val (.cons .s .nil)) .nil)), (spec_MixDegree.evs ⟨(), spec_l1Ok.c k, spec_l1Weight.c k, spec_RandNext.c k⟩ k a0 a1 K).trans h⟩
  · cases h
theorem spec_MixDegree.ds : dstB Try.f59.ntmps (bodyOf Try.f59) = true := by kernel_rfl
theorem spec_MixDegree.cb : callB E.P 59 = true := by kernel_rfl
theorem spec_MixDegree.ok {R : Type} (B : Base) (k : Nat) : ConOk E.P B 59 (spec_MixDegree.con (spec_MixDegree.c (R := R) k)) := con_ok E_orders E_eqs (GOk.cons spec_l1Ok.cb (spec_l1Ok.ok B k) (GOk.cons spec_l1Weight.cb (spec_l1Weight.ok B k) (GOk.cons spec_RandNext.cb (spec_RandNext.ok B k) GOk.nil))) Try.func59 (by kernel_rfl) spec_MixDegree.ds rfl (spec_MixDegree.run k)
theorem spec_MixOf.inn {R : Type} (f : spec_MixOf.T R) (a0 : Int) (a1 : Int) (K : Ret → Option R) : (spec_MixOf.con f).run [.val false [.s (.int .i64 a0)], .val false [.s (.int .i64 a1)]] K = f a0 a1 (fun r1 => K ⟨[.val false [.row .own [.int .i64] r1]], []⟩) := by kernel_rfl
theorem spec_MixOf.run {R : Type} (k : Nat) (args : List RV) (K : Ret → Option R) (o : R) (h : (spec_MixOf.con (spec_MixOf.c k)).run args K = some o) : ∃ args', All2 TyRV args args' ∧ evFunc E (spec_MixOf.G ⟨(), spec_l1Ok.c k, spec_RandNext.c k, spec_MixDegree.c k⟩) k spec_MixOf.H [] false Try.f27 args' K = some o := by
  unfold spec_MixOf.con at h
  simp only at h
  split at h
  · rename_i a0 a1
    exact ⟨_, (.cons (.val (.cons .s .nil)) (.cons (.val (.cons .s .nil)) .nil)), (spec_MixOf.evs ⟨(), spec_l1Ok.c k, spec_RandNext.c k, spec_MixDegree.c k⟩ k a0 a1 K).trans h⟩
  · cases h
theorem spec_MixOf.ds : dstB Try.f27.ntmps (bodyOf Try.f27) = true := by kernel_rfl
theorem spec_MixOf.cb : callB E.P 27 = true := by kernel_rfl
theorem spec_MixOf.ok {R : Type} (B : Base) (k : Nat) : ConOk E.P B 27 (spec_MixOf.con (spec_MixOf.c (R := R) k)) := con_ok E_orders E_eqs (GOk.cons spec_l1Ok.cb (spec_l1Ok.ok B k) (GOk.cons spec_RandNext.cb (spec_RandNext.ok B k) (GOk.cons spec_MixDegree.cb (spec_MixDegree.ok B k) GOk.nil))) Try.func27 (by kernel_rfl) spec_MixOf.ds rfl (spec_MixOf.run k)
theorem impl_in.inn {R : Type} (f : impl_in.T R) (a0 : Int) (a1 : Int) (a2 : Int) (K : Ret → Option R) : (impl_in.con f).run [.val false [.s (.int .i64 a0)], .val false [.s (.int .i64 a1)], .val false [.s (.int .i64 a2)]] K = f a0 a1 a2 (fun r1 => K ⟨[.val false [.s (.bool r1)]], []⟩) := by kernel_rfl
theorem impl_in.run {R : Type} (k : Nat) (args : List RV) (K : Ret → Option R) (o : R) (h : (impl_in.con (impl_in.c k)).run args K = some o) : ∃ args', All2 TyRV args args' ∧ evFunc E (impl_in.G ⟨()⟩) k impl_in.H [] false Try.f52 args' K = some o := by
  unfold impl_in.con at h
  simp only at h
  split at h
  · rename_i a0 a1 a2
    exact ⟨_, (.cons (.val (.cons .s .nil)) (.cons (.val (.cons .s .nil)) (.cons (.val (.cons .s .nil)) .nil))), (impl_in.evs ⟨()⟩ k a0 a1 a2 K).trans h⟩
  · cases h
theorem impl_in.ds : dstB Try.f52.ntmps (bodyOf Try.f52) = true := by kernel_rfl
theorem impl_in.cb : callB E.P 52 = true := by kernel_rfl
theorem impl_in.ok {R : Type} (B : Base) (k : Nat) : ConOk E.P B 52 (impl_in.con (impl_in.c (R := R) k)) := con_ok E_orders E_eqs GOk.nil Try.func52 (by kernel_rfl) impl_in.ds rfl (impl_in.run k)
theorem impl_mixOk.inn {R : Type} (f : impl_mixOk.T R) (a0 : Int) (a1 : Int) (K : Ret → Option R) : (impl_mixOk.con f).run [.val false [.s (.int .i64 a0)], .val false [.s (.int .i64 a1)]] K = f a0 a1 (fun r1 => K ⟨[.val false [.s (.bool r1)]], []⟩) := by kernel_rfl
theorem impl_mixOk.run {R : Type} (k : Nat) (args : List RV) (K : Ret → Option R) (o : R) (h : (impl_mixOk.con (impl_mixOk.c k)).run args K = some o) : ∃ args', All2 TyRV args args' ∧ evFunc E (impl_mixOk.G ⟨(), impl_in.c k⟩) k impl_mixOk.H [] false Try.f60 args' K = some o := by
  unfold impl_mixOk.con at h
  simp only at h
  split at h
  · rename_i a0 a1
    exact ⟨_, (.cons (.val (.cons .s .nil)) (.cons (.val (.cons .s .nil)) .nil)), (impl_mixOk.evs ⟨(), impl_in.c k⟩ k a0 a1 K).trans h⟩
  · cases h
theorem impl_mixOk.ds : dstB Try.f60.ntmps (bodyOf Try.f60) = true := by kernel_rfl
theorem impl_mixOk.cb : callB E.P 60 = true := by kernel_rfl
theorem impl_mixOk.ok {R : Type} (B : Base) (k : Nat) : ConOk E.P B 60 (impl_mixOk.con (impl_mixOk.c (R := R) k)) := con_ok E_orders E_eqs (GOk.cons impl_in.cb (impl_in.ok B k) GOk.nil) Try.func60 (by kernel_rfl) impl_mixOk.ds rfl (impl_mixOk.run k)
theorem impl_RandNext.inn {R : Type} (f : impl_RandNext.T R) (a0 : Int) (K : Ret → Option R) : (impl_RandNext.con f).run [.val false [.s (.int .i64 a0)]] K = f a0 (fun r1 => K ⟨[.val false [.s (.int .i64 r1)]], []⟩) := by kernel_rfl
theorem impl_RandNext.run {R : Type} (k : Nat) (args : List RV) (K : Ret → Option R) (o : R) (h : (impl_RandNext.con (impl_RandNext.c k)).run args K = some o) : ∃ args', All2 TyRV args args' ∧ evFunc E (impl_RandNext.G ⟨(), impl_in.c k⟩) k impl_RandNext.H [] false Try.f61 args' K = some o := by
  unfold impl_RandNext.con at h
  simp only at h
  split at h
  · rename_i a0
    exact ⟨_, (.cons (.val (.cons .s .nil)) .nil), (impl_RandNext.evs ⟨(), impl_in.c k⟩ k a0 K).trans h⟩
  · cases h
theorem impl_RandNext.ds : dstB Try.f61.ntmps (bodyOf Try.f61) = true := by kernel_rfl
theorem impl_RandNext.cb : callB E.P 61 = true := by kernel_rfl
theorem impl_RandNext.ok {R : Type} (B : Base) (k : Nat) : ConOk E.P B 61 (impl_RandNext.con (impl_RandNext.c (R := R) k)) := con_ok E_orders E_eqs (GOk.cons impl_in.cb (impl_in.ok B k) GOk.nil) Try.func61 (by kernel_rfl) impl_RandNext.ds rfl (impl_RandNext.run k)
theorem impl_MixDegree.inn {R : Type} (f : impl_MixDegree.T R) (a0 : Int) (a1 : Int) (K : Ret → Option R) : (impl_MixDegree.con f).run [.val false [.s (.int .i64 a0)], .val false [.s (.int .i64 a1)]] K = f a0 a1 (fun r1 => K ⟨[.val false [.s (.int .i64 r1)]], []⟩) := by kernel_rfl
theorem impl_MixDegree.run {R : Type} (k : Nat) (args : List RV) (K : Ret → Option R) (o : R) (h : (impl_MixDegree.con (impl_MixDegree.c k)).run args K = some o) : ∃ args', All2 TyRV args args' ∧ evFunc E (impl_MixDegree.G ⟨(), impl_mixOk.c k, impl_RandNext.c k⟩) k impl_MixDegree.H [] false Try.f34 args' K = some o := by
  unfold impl_MixDegree.con at h
  simp only at h
  split at h
  · rename_i a0 a1
    exact ⟨_, (.cons (.val (.cons .s .nil)) (.cons (.val (.cons .s .nil)) .nil)), (impl_MixDegree.evs ⟨(), impl_mixOk.c k, impl_RandNext.c k⟩ k a0 a1 K).trans h⟩
  · cases h
theorem impl_MixDegree.ds : dstB Try.f34.ntmps (bodyOf Try.f34) = true := by kernel_rfl
theorem impl_MixDegree.cb : callB E.P 34 = true := by kernel_rfl
theorem impl_MixDegree.ok {R : Type} (B : Base) (k : Nat) : ConOk E.P B 34 (impl_MixDegree.con (impl_MixDegree.c (R := R) k)) := con_ok E_orders E_eqs (GOk.cons impl_mixOk.cb (impl_mixOk.ok B k) (GOk.cons impl_RandNext.cb (impl_RandNext.ok B k) GOk.nil)) Try.func34 (by kernel_rfl) impl_MixDegree.ds rfl (impl_MixDegree.run k)
theorem impl_copied_int.inn {R : Type} (f : impl_copied_int.T R) (a0 : List Int) (K : Ret → Option R) : (impl_copied_int.con f).run [.val false [.row .ro [.int .i64] a0]] K = f a0 (fun r1 => K ⟨[.val false [.row .own [.int .i64] r1]], []⟩) := by kernel_rfl
theorem impl_copied_int.run {R : Type} (k : Nat) (args : List RV) (K : Ret → Option R) (o : R) (h : (impl_copied_int.con (impl_copied_int.c k)).run args K = some o) : ∃ args', All2 TyRV args args' ∧ evFunc E (impl_copied_int.G ⟨()⟩) k impl_copied_int.H [] false Try.f62 args' K = some o := by
  unfold impl_copied_int.con at h
  simp only at h
  split at h
  · rename_i pa0
    obtain ⟨a0, ta0, h⟩ := withRow_some (by simp) h
    exact ⟨_, (.cons (.val (.cons ta0 .nil)) .nil), (impl_copied_int.evs ⟨()⟩ k a0 K).trans h⟩
  · cases h
theorem impl_copied_int.ds : dstB Try.f62.ntmps (bodyOf Try.f62) = true := by kernel_rfl
theorem impl_copied_int.cb : callB E.P 62 = true := by kernel_rfl
theorem impl_copied_int.ok {R : Type} (B : Base) (k : Nat) : ConOk E.P B 62 (impl_copied_int.con (impl_copied_int.c (R := R) k)) := con_ok E_orders E_eqs GOk.nil Try.func62 (by kernel_rfl) impl_copied_int.ds rfl (impl_copied_int.run k)
theorem impl_MixOf.inn {R : Type} (f : impl_MixOf.T R) (a0 : Int) (a1 : Int) (K : Ret → Option R) : (impl_MixOf.con f).run [.val false [.s (.int .i64 a0)], .val false [.s (.int .i64 a1)]] K = f a0 a1 (fun r1 => K ⟨[.val false [.row .own [.int .i64] r1]], []⟩) := by kernel_rfl
theorem impl_MixOf.run {R : Type} (k : Nat) (args : List RV) (K : Ret → Option R) (o : R) (h : (impl_MixOf.con (impl_MixOf.c k)).run args K = some o) : ∃ args', All2 TyRV args args' ∧ evFunc E (impl_MixOf.G ⟨(), impl_mixOk.c k, impl_RandNext.c k, impl_MixDegree.c k, impl_copied_int.c k⟩) k impl_MixOf.H [] false Try.f28 args' K = some o := by
  unfold impl_MixOf.con at h
  simp only at h
  split at h
  · rename_i a0 a1
    exact ⟨_, (.cons (.val (.cons .s .nil)) (.cons (.val (.cons .s .nil)) .nil)), (impl_MixOf.evs ⟨(), impl_mixOk.c k, impl_RandNext.c k, impl_MixDegree.c k, impl_copied_int.c k⟩ k a0 a1 K).trans h⟩
  · cases h
theorem impl_MixOf.ds : dstB Try.f28.ntmps (bodyOf Try.f28) = true := by kernel_rfl
theorem impl_MixOf.cb : callB E.P 28 = true := by kernel_rfl
theorem impl_MixOf.ok {R : Type} (B : Base) (k : Nat) : ConOk E.P B 28 (impl_MixOf.con (impl_MixOf.c (R := R) k)) := con_ok E_orders E_eqs (GOk.cons impl_mixOk.cb (impl_mixOk.ok B k) (GOk.cons impl_RandNext.cb (impl_RandNext.ok B k) (GOk.cons impl_MixDegree.cb (impl_MixDegree.ok B k) (GOk.cons impl_copied_int.cb (impl_copied_int.ok B k) GOk.nil)))) Try.func28 (by kernel_rfl) impl_MixOf.ds rfl (impl_MixOf.run k)
theorem impl_copied_string.inn {R : Type} (f : impl_copied_string.T R) (a0 : List ByteArray) (K : Ret → Option R) : (impl_copied_string.con f).run [.val false [.row .ro [.str] a0]] K = f a0 (fun r1 => K ⟨[.val false [.row .own [.str] r1]], []⟩) := by kernel_rfl
theorem impl_copied_string.run {R : Type} (k : Nat) (args : List RV) (K : Ret → Option R) (o : R) (h : (impl_copied_string.con (impl_copied_string.c k)).run args K = some o) : ∃ args', All2 TyRV args args' ∧ evFunc E (impl_copied_string.G ⟨()⟩) k impl_copied_string.H [] false Try.f53 args' K = some o := by
  unfold impl_copied_string.con at h
  simp only at h
  split at h
  · rename_i pa0
    obtain ⟨a0, ta0, h⟩ := withRow_some (by simp) h
    exact ⟨_, (.cons (.val (.cons ta0 .nil)) .nil), (impl_copied_string.evs ⟨()⟩ k a0 K).trans h⟩
  · cases h
theorem impl_copied_string.ds : dstB Try.f53.ntmps (bodyOf Try.f53) = true := by kernel_rfl
theorem impl_copied_string.cb : callB E.P 53 = true := by kernel_rfl
theorem impl_copied_string.ok {R : Type} (B : Base) (k : Nat) : ConOk E.P B 53 (impl_copied_string.con (impl_copied_string.c (R := R) k)) := con_ok E_orders E_eqs GOk.nil Try.func53 (by kernel_rfl) impl_copied_string.ds rfl (impl_copied_string.run k)
theorem impl_MixCut.inn {R : Type} (f : impl_MixCut.T R) (a0 : ByteArray) (K : Ret → Option R) : (impl_MixCut.con f).run [.val false [.s (.string a0)]] K = f a0 (fun r1 => K ⟨[.val false [.row .own [.str] r1]], []⟩) := by kernel_rfl
theorem impl_MixCut.run {R : Type} (k : Nat) (args : List RV) (K : Ret → Option R) (o : R) (h : (impl_MixCut.con (impl_MixCut.c k)).run args K = some o) : ∃ args', All2 TyRV args args' ∧ evFunc E (impl_MixCut.G ⟨(), impl_in.c k, impl_copied_string.c k⟩) k impl_MixCut.H [] false Try.f21 args' K = some o := by
  unfold impl_MixCut.con at h
  simp only at h
  split at h
  · rename_i a0
    exact ⟨_, (.cons (.val (.cons .s .nil)) .nil), (impl_MixCut.evs ⟨(), impl_in.c k, impl_copied_string.c k⟩ k a0 K).trans h⟩
  · cases h
theorem impl_MixCut.ds : dstB Try.f21.ntmps (bodyOf Try.f21) = true := by kernel_rfl
theorem impl_MixCut.cb : callB E.P 21 = true := by kernel_rfl
theorem impl_MixCut.ok {R : Type} (B : Base) (k : Nat) : ConOk E.P B 21 (impl_MixCut.con (impl_MixCut.c (R := R) k)) := con_ok E_orders E_eqs (GOk.cons impl_in.cb (impl_in.ok B k) (GOk.cons impl_copied_string.cb (impl_copied_string.ok B k) GOk.nil)) Try.func21 (by kernel_rfl) impl_MixCut.ds rfl (impl_MixCut.run k)
theorem impl_xored.inn {R : Type} (f : impl_xored.T R) (a0 : ByteArray) (a1 : ByteArray) (K : Ret → Option R) : (impl_xored.con f).run [.val false [.s (.string a0)], .val false [.s (.string a1)]] K = f a0 a1 (fun r1 => K ⟨[.val false [.s (.string r1)]], []⟩) := by kernel_rfl
theorem impl_xored.run {R : Type} (k : Nat) (args : List RV) (K : Ret → Option R) (o : R) (h : (impl_xored.con (impl_xored.c k)).run args K = some o) : ∃ args', All2 TyRV args args' ∧ evFunc E (impl_xored.G ⟨()⟩) k impl_xored.H [] false Try.f66 args' K = some o := by
  unfold impl_xored.con at h
  simp only at h
  split at h
  · rename_i a0 a1
    exact ⟨_, (.cons (.val (.cons .s .nil)) (.cons (.val (.cons .s .nil)) .nil)), (impl_xored.evs ⟨()⟩ k a0 a1 K).trans h⟩
  · cases h
theorem impl_xored.ds : dstB Try.f66.ntmps (bodyOf Try.f66) = true := by kernel_rfl
theorem impl_xored.cb : callB E.P 66 = true := by kernel_rfl
theorem impl_xored.ok {R : Type} (B : Base) (k : Nat) : ConOk E.P B 66 (impl_xored.con (impl_xored.c (R := R) k)) := con_ok E_orders E_eqs GOk.nil Try.func66 (by kernel_rfl) impl_xored.ds rfl (impl_xored.run k)
theorem impl_MixMake.inn {R : Type} (f : impl_MixMake.T R) (a0 : ByteArray) (a1 : Int) (K : Ret → Option R) : (impl_MixMake.con f).run [.val false [.s (.string a0)], .val false [.s (.int .i64 a1)]] K = f a0 a1 (fun r1 => K ⟨[.val false [.s (.string r1)]], []⟩) := by kernel_rfl
theorem impl_MixMake.run {R : Type} (k : Nat) (args : List RV) (K : Ret → Option R) (o : R) (h : (impl_MixMake.con (impl_MixMake.c k)).run args K = some o) : ∃ args', All2 TyRV args args' ∧ evFunc E (impl_MixMake.G ⟨(), impl_MixCut.c k, impl_MixOf.c k, impl_xored.c k⟩) k impl_MixMake.H [] false Try.f36 args' K = some o := by
  unfold impl_MixMake.con at h
  simp only at h
  split at h
  · rename_i a0 a1
    exact ⟨_, (.cons (.val (.cons .s .nil)) (.cons (.val (.cons .s .nil)) .nil)), (impl_MixMake.evs ⟨(), impl_MixCut.c k, impl_MixOf.c k, impl_xored.c k⟩ k a0 a1 K).trans h⟩
  · cases h
theorem impl_MixMake.ds : dstB Try.f36.ntmps (bodyOf Try.f36) = true := by kernel_rfl
theorem impl_MixMake.cb : callB E.P 36 = true := by kernel_rfl
theorem impl_MixMake.ok {R : Type} (B : Base) (k : Nat) : ConOk E.P B 36 (impl_MixMake.con (impl_MixMake.c (R := R) k)) := con_ok E_orders E_eqs (GOk.cons impl_MixCut.cb (impl_MixCut.ok B k) (GOk.cons impl_MixOf.cb (impl_MixOf.ok B k) (GOk.cons impl_xored.cb (impl_xored.ok B k) GOk.nil))) Try.func36 (by kernel_rfl) impl_MixMake.ds rfl (impl_MixMake.run k)
theorem spec_l6Rd_pick.inn {R : Type} (f : spec_l6Rd_pick.T R) (a0_0 : List Int) (a0_1 : Int) (a1 : Int) (K : Ret → Option R) : (spec_l6Rd_pick.con f).run [.ref [.row .ro [.int .u8] a0_0, .s (.int .i64 a0_1)], .val false [.s (.int .i64 a1)]] K = f a0_0 a0_1 a1 (fun r1 r2 => K ⟨[.val false [.s (.int .i64 r1)]], [[.row .ro [.int .u8] a0_0, .s (.int .i64 r2)]]⟩) := by kernel_rfl
theorem spec_l6Rd_pick.run {R : Type} (k : Nat) (args : List RV) (K : Ret → Option R) (o : R) (h : (spec_l6Rd_pick.con (spec_l6Rd_pick.c k)).run args K = some o) : ∃ args', All2 TyRV args args' ∧ evFunc E (spec_l6Rd_pick.G ⟨()⟩) k spec_l6Rd_pick.H [] false Try.f67 args' K = some o := by
  unfold spec_l6Rd_pick.con at h
  simp only at h
  split at h
  · rename_i pa0_0 a0_1 a1
    obtain ⟨a0_0, ta0_0, h⟩ := withRow_some (by simp) h
    exact ⟨_, (.cons (.ref (.cons ta0_0 (.cons .s .nil))) (.cons (.val (.cons .s .nil)) .nil)), (spec_l6Rd_pick.evs ⟨()⟩ k a0_0 a0_1 a1 K).trans h⟩
  · cases h
theorem spec_l6Rd_pick.ds : dstB Try.f67.ntmps (bodyOf Try.f67) = true := by kernel_rfl
theorem spec_l6Rd_pick.cb : callB E.P 67 = true := by kernel_rfl
theorem spec_l6Rd_pick.ok {R : Type} (B : Base) (k : Nat) : ConOk E.P B 67 (spec_l6Rd_pick.con (spec_l6Rd_pick.c (R := R) k)) := con_ok E_orders E_eqs GOk.nil Try.func67 (by kernel_rfl) spec_l6Rd_pick.ds rfl (spec_l6Rd_pick.run k)
theorem spec_l6Rd_of.inn {R : Type} (f : spec_l6Rd_of.T R) (a0_0 : List Int) (a0_1 : Int) (a1 : List ByteArray) (K : Ret → Option R) : (spec_l6Rd_of.con f).run [.ref [.row .ro [.int .u8] a0_0, .s (.int .i64 a0_1)], .val false [.row .ro [.str] a1]] K = f a0_0 a0_1 a1 (fun r1 r2 => K ⟨[.val false [.s (.string r1)]], [[.row .ro [.int .u8] a0_0, .s (.int .i64 r2)]]⟩) := by kernel_rfl
theorem spec_l6Rd_of.run {R : Type} (k : Nat) (args : List RV) (K : Ret → Option R) (o : R) (h : (spec_l6Rd_of.con (spec_l6Rd_of.c k)).run args K = some o) : ∃ args', All2 TyRV args args' ∧ evFunc E (spec_l6Rd_of.G ⟨(), spec_l6Rd_pick.c k⟩) k spec_l6Rd_of.H [] false Try.f75 args' K = some o := by
  unfold spec_l6Rd_of.con at h
  simp only at h
  split at h
  · rename_i pa0_0 a0_1 pa1
    obtain ⟨a0_0, ta0_0, h⟩ := withRow_some (by simp) h
    obtain ⟨a1, ta1, h⟩ := withRow_some (by simp) h
    exact ⟨_, (.cons (.ref (.cons ta0_0 (.cons .s .nil))) (.cons (.val (.cons ta1 .nil)) .nil)), (spec_l6Rd_of.evs ⟨(), spec_l6Rd_pick.c k⟩ k a0_0 a0_1 a1 K).trans h⟩
  · cases h
theorem spec_l6Rd_of.ds : dstB Try.f75.ntmps (bodyOf Try.f75) = true := by kernel_rfl
theorem spec_l6Rd_of.cb : callB E.P 75 = true := by kernel_rfl
theorem spec_l6Rd_of.ok {R : Type} (B : Base) (k : Nat) : ConOk E.P B 75 (spec_l6Rd_of.con (spec_l6Rd_of.c (R := R) k)) := con_ok E_orders E_eqs (GOk.cons spec_l6Rd_pick.cb (spec_l6Rd_pick.ok B k) GOk.nil) Try.func75 (by kernel_rfl) spec_l6Rd_of.ds rfl (spec_l6Rd_of.run k)
theorem spec_l6Many.inn {R : Type} (f : spec_l6Many.T R) (a0 : ByteArray) (a1 : Int) (K : Ret → Option R) : (spec_l6Many.con f).run [.val false [.s (.string a0)], .val false [.s (.int .i64 a1)]] K = f a0 a1 (fun r1 => K ⟨[.val false [.s (.string r1)]], []⟩) := by kernel_rfl
theorem spec_l6Many.run {R : Type} (k : Nat) (args : List RV) (K : Ret → Option R) (o : R) (h : (spec_l6Many.con (spec_l6Many.c k)).run args K = some o) : ∃ args', All2 TyRV args args' ∧ evFunc E (spec_l6Many.G ⟨()⟩) k spec_l6Many.H [] false Try.f76 args' K = some o := by
  unfold spec_l6Many.con at h
  simp only at h
  split at h
  · rename_i a0 a1
    exact ⟨_, (.cons (.val (.cons .s .nil)) (.cons (.val (.cons .s .nil)) .nil)), (spec_l6Many.evs ⟨()⟩ k a0 a1 K).trans h⟩
  · cases h
theorem spec_l6Many.ds : dstB Try.f76.ntmps (bodyOf Try.f76) = true := by kernel_rfl
theorem spec_l6Many.cb : callB E.P 76 = true := by kernel_rfl
theorem spec_l6Many.ok {R : Type} (B : Base) (k : Nat) : ConOk E.P B 76 (spec_l6Many.con (spec_l6Many.c (R := R) k)) := con_ok E_orders E_eqs GOk.nil Try.func76 (by kernel_rfl) spec_l6Many.ds rfl (spec_l6Many.run k)
theorem spec_l72Text.inn {R : Type} (f : spec_l72Text.T R) (a0_0 : List Int) (a0_1 : Int) (K : Ret → Option R) : (spec_l72Text.con f).run [.ref [.row .ro [.int .u8] a0_0, .s (.int .i64 a0_1)]] K = f a0_0 a0_1 (fun r1 r2 => K ⟨[.val false [.s (.string r1)]], [[.row .ro [.int .u8] a0_0, .s (.int .i64 r2)]]⟩) := by kernel_rfl
theorem spec_l72Text.run {R : Type} (k : Nat) (args : List RV) (K : Ret → Option R) (o : R) (h : (spec_l72Text.con (spec_l72Text.c k)).run args K = some o) : ∃ args', All2 TyRV args args' ∧ evFunc E (spec_l72Text.G ⟨(), spec_l6Rd_pick.c k, spec_l6Many.c k, spec_l6Rd_of.c k⟩) k spec_l72Text.H [] false Try.f55 args' K = some o := by
  unfold spec_l72Text.con at h
  simp only at h
  split at h
  · rename_i pa0_0 a0_1
    obtain ⟨a0_0, ta0_0, h⟩ := withRow_some (by simp) h
    exact ⟨_, (.cons (.ref (.cons ta0_0 (.cons .s .nil))) .nil), (spec_l72Text.evs ⟨(), spec_l6Rd_pick.c k, spec_l6Many.c k, spec_l6Rd_of.c k⟩ k a0_0 a0_1 K).trans h⟩
  · cases h
theorem spec_l72Text.ds : dstB Try.f55.ntmps (bodyOf Try.f55) = true := by kernel_rfl
theorem spec_l72Text.cb : callB E.P 55 = true := by kernel_rfl
theorem spec_l72Text.ok {R : Type} (B : Base) (k : Nat) : ConOk E.P B 55 (spec_l72Text.con (spec_l72Text.c (R := R) k)) := con_ok E_orders E_eqs (GOk.cons spec_l6Rd_pick.cb (spec_l6Rd_pick.ok B k) (GOk.cons spec_l6Many.cb (spec_l6Many.ok B k) (GOk.cons spec_l6Rd_of.cb (spec_l6Rd_of.ok B k) GOk.nil))) Try.func55 (by kernel_rfl) spec_l72Text.ds rfl (spec_l72Text.run k)
theorem spec_l6Open.inn {R : Type} (f : spec_l6Open.T R) (a0 : List Int) (K : Ret → Option R) : (spec_l6Open.con f).run [.val false [.row .ro [.int .u8] a0]] K = f a0 (fun r1 r2 => K ⟨[.ref [.row .ro [.int .u8] r1, .s (.int .i64 r2)]], []⟩) := by kernel_rfl
theorem spec_l6Open.run {R : Type} (k : Nat) (args : List RV) (K : Ret → Option R) (o : R) (h : (spec_l6Open.con (spec_l6Open.c k)).run args K = some o) : ∃ args', All2 TyRV args args' ∧ evFunc E (spec_l6Open.G ⟨()⟩) k spec_l6Open.H [] false Try.f56 args' K = some o := by
  unfold spec_l6Open.con at h
  simp only at h
  split at h
  · rename_i pa0
    obtain ⟨a0, ta0, h⟩ := withRow_some (by simp) h
    exact ⟨_, (.cons (.val (.cons ta0 .nil)) .nil), (spec_l6Open.evs ⟨()⟩ k a0 K).trans h⟩
  · cases h
theorem spec_l6Open.ds : dstB Try.f56.ntmps (bodyOf Try.f56) = true := by kernel_rfl
theorem spec_l6Open.cb : callB E.P 56 = true := by kernel_rfl
theorem spec_l6Open.ok {R : Type} (B : Base) (k : Nat) : ConOk E.P B 56 (spec_l6Open.con (spec_l6Open.c (R := R) k)) := con_ok E_orders E_eqs GOk.nil Try.func56 (by kernel_rfl) spec_l6Open.ds rfl (spec_l6Open.run k)
theorem spec_DrawMixCut.inn {R : Type} (f : spec_DrawMixCut.T R) (a0 : List Int) (K : Ret → Option R) : (spec_DrawMixCut.con f).run [.val false [.row .ro [.int .u8] a0]] K = f a0 (fun r1 => K ⟨[.val false [.s (.string r1)]], []⟩) := by kernel_rfl
theorem spec_DrawMixCut.run {R : Type} (k : Nat) (args : List RV) (K : Ret → Option R) (o : R) (h : (spec_DrawMixCut.con (spec_DrawMixCut.c k)).run args K = some o) : ∃ args', All2 TyRV args args' ∧ evFunc E (spec_DrawMixCut.G ⟨(), spec_l6Open.c k, spec_l72Text.c k⟩) k spec_DrawMixCut.H [] false Try.f25 args' K = some o := by
  unfold spec_DrawMixCut.con at h
  simp only at h
  split at h
  · rename_i pa0
    obtain ⟨a0, ta0, h⟩ := withRow_some (by simp) h
    exact ⟨_, (.cons (.val (.cons ta0 .nil)) .nil), (spec_DrawMixCut.evs ⟨(), spec_l6Open.c k, spec_l72Text.c k⟩ k a0 K).trans h⟩
  · cases h
theorem spec_DrawMixCut.ds : dstB Try.f25.ntmps (bodyOf Try.f25) = true := by kernel_rfl
theorem spec_DrawMixCut.cb : callB E.P 25 = true := by kernel_rfl
theorem spec_DrawMixCut.ok {R : Type} (B : Base) (k : Nat) : ConOk E.P B 25 (spec_DrawMixCut.con (spec_DrawMixCut.c (R := R) k)) := con_ok E_orders E_eqs (GOk.cons spec_l6Open.cb (spec_l6Open.ok B k) (GOk.cons spec_l72Text.cb (spec_l72Text.ok B k) GOk.nil)) Try.func25 (by kernel_rfl) spec_DrawMixCut.ds rfl (spec_DrawMixCut.run k)
theorem laws_lbText.inn {R : Type} (f : laws_lbText.T R) (a0 : List Int) (K : Ret → Option R) : (laws_lbText.con f).run [.val false [.row .ro [.int .u8] a0]] K = f a0 (fun r1 => K ⟨[.val false [.s (.string r1)]], []⟩) := by kernel_rfl
theorem laws_lbText.run {R : Type} (k : Nat) (args : List RV) (K : Ret → Option R) (o : R) (h : (laws_lbText.con (laws_lbText.c k)).run args K = some o) : ∃ args', All2 TyRV args args' ∧ evFunc E (laws_lbText.G ⟨(), spec_DrawMixCut.c k⟩) k laws_lbText.H [] false Try.f37 args' K = some o := by
  unfold laws_lbText.con at h
  simp only at h
  split at h
  · rename_i pa0
    obtain ⟨a0, ta0, h⟩ := withRow_some (by simp) h
    exact ⟨_, (.cons (.val (.cons ta0 .nil)) .nil), (laws_lbText.evs ⟨(), spec_DrawMixCut.c k⟩ k a0 K).trans h⟩
  · cases h
theorem laws_lbText.ds : dstB Try.f37.ntmps (bodyOf Try.f37) = true := by kernel_rfl
theorem laws_lbText.cb : callB E.P 37 = true := by kernel_rfl
theorem laws_lbText.ok {R : Type} (B : Base) (k : Nat) : ConOk E.P B 37 (laws_lbText.con (laws_lbText.c (R := R) k)) := con_ok E_orders E_eqs (GOk.cons spec_DrawMixCut.cb (spec_DrawMixCut.ok B k) GOk.nil) Try.func37 (by kernel_rfl) laws_lbText.ds rfl (laws_lbText.run k)
theorem impl_MixPeel.inn {R : Type} (f : impl_MixPeel.T R) (a0 : Int) (a1 : List (Int × ByteArray)) (K : Ret → Option R) : (impl_MixPeel.con f).run [.val false [.s (.int .i64 a0)], .val false [.row .ro [.int .i64, .str] a1]] K = f a0 a1 (fun r1 => K ⟨[.val false [.row .own [.str] r1]], []⟩) := by kernel_rfl
theorem impl_MixPeel.run {R : Type} (k : Nat) (args : List RV) (K : Ret → Option R) (o : R) (h : (impl_MixPeel.con (impl_MixPeel.c k)).run args K = some o) : ∃ args', All2 TyRV args args' ∧ evFunc E (impl_MixPeel.G ⟨(), impl_in.c k, impl_MixOf.c k, impl_xored.c k⟩) k impl_MixPeel.H [] false Try.f46 args' K = some o := by
  unfold impl_MixPeel.con at h
  simp only at h
  split at h
  · rename_i a0 pa1
    obtain ⟨a1, ta1, h⟩ := withRow_some (by simp) h
    exact ⟨_, (.cons (.val (.cons .s .nil)) (.cons (.val (.cons ta1 .nil)) .nil)), (impl_MixPeel.evs ⟨(), impl_in.c k, impl_MixOf.c k, impl_xored.c k⟩ k a0 a1 K).trans h⟩
  · cases h
theorem impl_MixPeel.ds : dstB Try.f46.ntmps (bodyOf Try.f46) = true := by kernel_rfl
theorem impl_MixPeel.cb : callB E.P 46 = true := by kernel_rfl
theorem impl_MixPeel.ok {R : Type} (B : Base) (k : Nat) : ConOk E.P B 46 (impl_MixPeel.con (impl_MixPeel.c (R := R) k)) := con_ok E_orders E_eqs (GOk.cons impl_in.cb (impl_in.ok B k) (GOk.cons impl_MixOf.cb (impl_MixOf.ok B k) (GOk.cons impl_xored.cb (impl_xored.ok B k) GOk.nil))) Try.func46 (by kernel_rfl) impl_MixPeel.ds rfl (impl_MixPeel.run k)
theorem impl_MixText.inn {R : Type} (f : impl_MixText.T R) (a0 : Int) (a1 : List (Int × ByteArray)) (K : Ret → Option R) : (impl_MixText.con f).run [.val false [.s (.int .i64 a0)], .val false [.row .ro [.int .i64, .str] a1]] K = f a0 a1 (fun r1 r2 => K ⟨[.val false [.s (.string r1)], .val false [.s (.bool r2)]], []⟩) := by kernel_rfl
theorem impl_MixText.run {R : Type} (k : Nat) (args : List RV) (K : Ret → Option R) (o : R) (h : (impl_MixText.con (impl_MixText.c k)).run args K = some o) : ∃ args', All2 TyRV args args' ∧ evFunc E (impl_MixText.G ⟨(), impl_in.c k, impl_MixPeel.c k⟩) k impl_MixText.H [] false Try.f38 args' K = some o := by
  unfold impl_MixText.con at h
  simp only at h
  split at h
  · rename_i a0 pa1
    obtain ⟨a1, ta1, h⟩ := withRow_some (by simp) h
    exact ⟨_, (.cons (.val (.cons .s .nil)) (.cons (.val (.cons ta1 .nil)) .nil)), (impl_MixText.evs ⟨(), impl_in.c k, impl_MixPeel.c k⟩ k a0 a1 K).trans h⟩
  · cases h
theorem impl_MixText.ds : dstB Try.f38.ntmps (bodyOf Try.f38) = true := by kernel_rfl
theorem impl_MixText.cb : callB E.P 38 = true := by kernel_rfl
theorem impl_MixText.ok {R : Type} (B : Base) (k : Nat) : ConOk E.P B 38 (impl_MixText.con (impl_MixText.c (R := R) k)) := con_ok E_orders E_eqs (GOk.cons impl_in.cb (impl_in.ok B k) (GOk.cons impl_MixPeel.cb (impl_MixPeel.ok B k) GOk.nil)) Try.func38 (by kernel_rfl) impl_MixText.ds rfl (impl_MixText.run k)
theorem spec_DrawMixMake.inn {R : Type} (f : spec_DrawMixMake.T R) (a0 : List Int) (K : Ret → Option R) : (spec_DrawMixMake.con f).run [.val false [.row .ro [.int .u8] a0]] K = f a0 (fun r1 r2 => K ⟨[.val false [.s (.string r1)], .val false [.s (.int .i64 r2)]], []⟩) := by kernel_rfl
theorem spec_DrawMixMake.run {R : Type} (k : Nat) (args : List RV) (K : Ret → Option R) (o : R) (h : (spec_DrawMixMake.con (spec_DrawMixMake.c k)).run args K = some o) : ∃ args', All2 TyRV args args' ∧ evFunc E (spec_DrawMixMake.G ⟨(), spec_l6Open.c k, spec_l72Text.c k, spec_l6Rd_pick.c k⟩) k spec_DrawMixMake.H [] false Try.f39 args' K = some o := by
  unfold spec_DrawMixMake.con at h
  simp only at h
  split at h
  · rename_i pa0
    obtain ⟨a0, ta0, h⟩ := withRow_some (by simp) h
    exact ⟨_, (.cons (.val (.cons ta0 .nil)) .nil), (spec_DrawMixMake.evs ⟨(), spec_l6Open.c k, spec_l72Text.c k, spec_l6Rd_pick.c k⟩ k a0 K).trans h⟩
  · cases h
theorem spec_DrawMixMake.ds : dstB Try.f39.ntmps (bodyOf Try.f39) = true := by kernel_rfl
theorem spec_DrawMixMake.cb : callB E.P 39 = true := by kernel_rfl
theorem spec_DrawMixMake.ok {R : Type} (B : Base) (k : Nat) : ConOk E.P B 39 (spec_DrawMixMake.con (spec_DrawMixMake.c (R := R) k)) := con_ok E_orders E_eqs (GOk.cons spec_l6Open.cb (spec_l6Open.ok B k) (GOk.cons spec_l72Text.cb (spec_l72Text.ok B k) (GOk.cons spec_l6Rd_pick.cb (spec_l6Rd_pick.ok B k) GOk.nil))) Try.func39 (by kernel_rfl) spec_DrawMixMake.ds rfl (spec_DrawMixMake.run k)
theorem laws_FnMixOne.inn {R : Type} (f : laws_FnMixOne.T R) (a0 : List Int) (a1 : List Int) (K : Ret → Option R) : (laws_FnMixOne.con f).run [.val false [.row .ro [.int .u8] a0], .val false [.row .ro [.int .u8] a1]] K = f a0 a1 (fun r1 => K ⟨[.val false [.s (.bool r1)]], []⟩) := by kernel_rfl
theorem laws_FnMixOne.run {R : Type} (k : Nat) (args : List RV) (K : Ret → Option R) (o : R) (h : (laws_FnMixOne.con (laws_FnMixOne.c k)).run args K = some o) : ∃ args', All2 TyRV args args' ∧ evFunc E (laws_FnMixOne.G ⟨(), laws_lbText.c k, spec_DrawMixMake.c k, spec_MixCut.c k, spec_MixOf.c k, impl_MixOf.c k, impl_MixMake.c k, impl_MixText.c k⟩) k laws_FnMixOne.H [] false Try.f13 args' K = some o := by
  unfold laws_FnMixOne.con at h
  simp only at h
  split at h
  · rename_i pa0 pa1
    obtain ⟨a0, ta0, h⟩ := withRow_some (by simp) h
    obtain ⟨a1, ta1, h⟩ := withRow_some (by simp) h
    exact ⟨_, (.cons (.val (.cons ta0 .nil)) (.cons (.val (.cons ta1 .nil)) .nil)), (laws_FnMixOne.evs ⟨(), laws_lbText.c k, spec_DrawMixMake.c k, spec_MixCut.c k, spec_MixOf.c k, impl_MixOf.c k, impl_MixMake.c k, impl_MixText.c k⟩ k a0 a1 K).trans h⟩
  · cases h
theorem laws_FnMixOne.ds : dstB Try.f13.ntmps (bodyOf Try.f13) = true := by kernel_rfl
theorem laws_FnMixOne.cb : callB E.P 13 = true := by kernel_rfl
theorem laws_FnMixOne.ok {R : Type} (B : Base) (k : Nat) : ConOk E.P B 13 (laws_FnMixOne.con (laws_FnMixOne.c (R := R) k)) := con_ok E_orders E_eqs (GOk.cons laws_lbText.cb (laws_lbText.ok B k) (GOk.cons spec_DrawMixMake.cb (spec_DrawMixMake.ok B k) (GOk.cons spec_MixCut.cb (spec_MixCut.ok B k) (GOk.cons spec_MixOf.cb (spec_MixOf.ok B k) (GOk.cons impl_MixOf.cb (impl_MixOf.ok B k) (GOk.cons impl_MixMake.cb (impl_MixMake.ok B k) (GOk.cons impl_MixText.cb (impl_MixText.ok B k) GOk.nil))))))) Try.func13 (by kernel_rfl) laws_FnMixOne.ds rfl (laws_FnMixOne.run k)
end Go.Ev.F
