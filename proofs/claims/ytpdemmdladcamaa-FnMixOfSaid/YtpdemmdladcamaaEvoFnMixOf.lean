/- What the Go functions compute is what the machine does. No condition. Written by a program of this session. -/
import Derived.Test.YtpdemmdladcamaaEvtFnMixOf
import Derived.Test.YtpdemmdladcamaaSoE
namespace Go.Ev.F
open Go.Proofs
set_option linter.unusedVariables false
set_option maxRecDepth 100000
theorem E_orders : E.P.follows .mixedOrders = true := by kernel_rfl
theorem E_eqs : ∀ t ∈ E.eqs, eqFree E.P t = true := List.all_eq_true.mp (by kernel_rfl)
theorem spec_l6In.inn {R : Type} (f : spec_l6In.T R) (a0 : Int) (a1 : Int) (a2 : Int) (K : Ret → Option R) : (spec_l6In.con f).run [.val false [.s (.int .i64 a0)], .val false [.s (.int .i64 a1)], .val false [.s (.int .i64 a2)]] K = f a0 a1 a2 (fun r1 => K ⟨[.val false [.s (.bool r1)]], []⟩) := by kernel_rfl
theorem spec_l6In.run {R : Type} (k : Nat) (args : List RV) (K : Ret → Option R) (o : R) (h : (spec_l6In.con (spec_l6In.c k)).run args K = some o) : ∃ args', All2 TyRV args args' ∧ evFunc E (spec_l6In.G ⟨()⟩) k spec_l6In.H [] false Try.f69 args' K = some o := by
  unfold spec_l6In.con at h
  simp only at h
  split at h
  · rename_i a0 a1 a2
    exact ⟨_, (.cons (.val (.cons .s .nil)) (.cons (.val (.cons .s .nil)) (.cons (.val (.cons .s .nil)) .nil))), (spec_l6In.evs ⟨()⟩ k a0 a1 a2 K).trans h⟩
  · cases h
theorem spec_l6In.ds : dstB Try.f69.ntmps (bodyOf Try.f69) = true := by kernel_rfl
theorem spec_l6In.cb : callB E.P 69 = true := by kernel_rfl
theorem spec_l6In.ok {R : Type} (B : Base) (k : Nat) : ConOk E.P B 69 (spec_l6In.con (spec_l6In.c (R := R) k)) := con_ok E_orders E_eqs GOk.nil Try.func69 (by kernel_rfl) spec_l6In.ds rfl (spec_l6In.run k)
theorem spec_l1Ok.inn {R : Type} (f : spec_l1Ok.T R) (a0 : Int) (a1 : Int) (K : Ret → Option R) : (spec_l1Ok.con f).run [.val false [.s (.int .i64 a0)], .val false [.s (.int .i64 a1)]] K = f a0 a1 (fun r1 => K ⟨[.val false [.s (.bool r1)]], []⟩) := by kernel_rfl
theorem spec_l1Ok.run {R : Type} (k : Nat) (args : List RV) (K : Ret → Option R) (o : R) (h : (spec_l1Ok.con (spec_l1Ok.c k)).run args K = some o) : ∃ args', All2 TyRV args args' ∧ evFunc E (spec_l1Ok.G ⟨(), spec_l6In.c k⟩) k spec_l1Ok.H [] false Try.f57 args' K = some o := by
  unfold spec_l1Ok.con at h
  simp only at h
  split at h
  · rename_i a0 a1
    exact ⟨_, (.cons (.val (.cons .s .nil)) (.cons (.val (.cons .s .nil)) .nil)), (spec_l1Ok.evs ⟨(), spec_l6In.c k⟩ k a0 a1 K).trans h⟩
  · cases h
theorem spec_l1Ok.ds : dstB Try.f57.ntmps (bodyOf Try.f57) = true := by kernel_rfl
theorem spec_l1Ok.cb : callB E.P 57 = true := by kernel_rfl
theorem spec_l1Ok.ok {R : Type} (B : Base) (k : Nat) : ConOk E.P B 57 (spec_l1Ok.con (spec_l1Ok.c (R := R) k)) := con_ok E_orders E_eqs (GOk.cons spec_l6In.cb (spec_l6In.ok B k) GOk.nil) Try.func57 (by kernel_rfl) spec_l1Ok.ds rfl (spec_l1Ok.run k)
theorem spec_RandNext.inn {R : Type} (f : spec_RandNext.T R) (a0 : Int) (K : Ret → Option R) : (spec_RandNext.con f).run [.val false [.s (.int .i64 a0)]] K = f a0 (fun r1 => K ⟨[.val false [.s (.int .i64 r1)]], []⟩) := by kernel_rfl
theorem spec_RandNext.run {R : Type} (k : Nat) (args : List RV) (K : Ret → Option R) (o : R) (h : (spec_RandNext.con (spec_RandNext.c k)).run args K = some o) : ∃ args', All2 TyRV args args' ∧ evFunc E (spec_RandNext.G ⟨(), spec_l6In.c k⟩) k spec_RandNext.H [] false Try.f58 args' K = some o := by
  unfold spec_RandNext.con at h
  simp only at h
  split at h
  · rename_i a0
    exact ⟨_, (.cons (.val (.cons .s .nil)) .nil), (spec_RandNext.evs ⟨(), spec_l6In.c k⟩ k a0 K).trans h⟩
  · cases h
theorem spec_RandNext.ds : dstB Try.f58.ntmps (bodyOf Try.f58) = true := by kernel_rfl
theorem spec_RandNext.cb : callB E.P 58 = true := by kernel_rfl
theorem spec_RandNext.ok {R : Type} (B : Base) (k : Nat) : ConOk E.P B 58 (spec_RandNext.con (spec_RandNext.c (R := R) k)) := con_ok E_orders E_eqs (GOk.cons spec_l6In.cb (spec_l6In.ok B k) GOk.nil) Try.func58 (by kernel_rfl) spec_RandNext.ds rfl (spec_RandNext.run k)
theorem spec_l1Weight.inn {R : Type} (f : spec_l1Weight.T R) (a0 : Int) (a1 : Int) (K : Ret → Option R) : (spec_l1Weight.con f).run [.val false [.s (.int .i64 a0)], .val false [.s (.int .i64 a1)]] K = f a0 a1 (fun r1 => K ⟨[.val false [.s (.int .i64 r1)]], []⟩) := by kernel_rfl
theorem spec_l1Weight.run {R : Type} (k : Nat) (args : List RV) (K : Ret → Option R) (o : R) (h : (spec_l1Weight.con (spec_l1Weight.c k)).run args K = some o) : ∃ args', All2 TyRV args args' ∧ evFunc E (spec_l1Weight.G ⟨()⟩) k spec_l1Weight.H [] false Try.f77 args' K = some o := by
  unfold spec_l1Weight.con at h
  simp only at h
  split at h
  · rename_i a0 a1
    exact ⟨_, (.cons (.val (.cons .s .nil)) (.cons (.val (.cons .s .nil)) .nil)), (spec_l1Weight.evs ⟨()⟩ k a0 a1 K).trans h⟩
  · cases h
theorem spec_l1Weight.ds : dstB Try.f77.ntmps (bodyOf Try.f77) = true := by kernel_rfl
theorem spec_l1Weight.cb : callB E.P 77 = true := by kernel_rfl
theorem spec_l1Weight.ok {R : Type} (B : Base) (k : Nat) : ConOk E.P B 77 (spec_l1Weight.con (spec_l1Weight.c (R := R) k)) := con_ok E_orders E_eqs GOk.nil Try.func77 (by kernel_rfl) spec_l1Weight.ds rfl (spec_l1Weight.run k)
theorem spec_MixDegree.inn {R : Type} (f : spec_MixDegree.T R) (a0 : Int) (a1 : Int) (K : Ret → Option R) : (spec_MixDegree.con f).run [.val false [.s (.int .i64 a0)], .val false [.s (.int .i64 a1)]] K = f a0 a1 (fun r1 => K ⟨[.val false [.s (.int .i64 r1)]], []⟩) := by kernel_rfl
theorem spec_MixDegree.run {R : Type} (k : Nat) (args : List RV) (K : Ret → Option R) (o : R) (h : (spec_MixDegree.con (spec_MixDegree.c k)).run args K = some o) : ∃ args', All2 TyRV args args' ∧ evFunc E (spec_MixDegree.G ⟨(), spec_l1Ok.c k, spec_l1Weight.c k, spec_RandNext.c k⟩) k spec_MixDegree.H [] false Try.f59 args' K = some o := by
  unfold spec_MixDegree.con at h
  simp only at h
  split at h
  · rename_i a0 a1
    exact ⟨_, (.cons (.val (.cons .s .nil)) (.cons (.val (.cons .s .nil)) .nil)), (spec_MixDegree.evs ⟨(), spec_l1Ok.c k, spec_l1Weight.c k, spec_RandNext.c k⟩ k a0 a1 K).trans h⟩
  · cases h
theorem spec_MixDegree.ds : dstB Try.f59.ntmps (bodyOf Try.f59) = true := by kernel_rfl
theorem spec_MixDegree.cb : callB E.P 59 = true := by kernel_rfl
theorem spec_MixDegree.ok {R : Type} (B : Base) (k : Nat) : ConOk E.P B 59 (spec_MixDegree.con (spec_MixDegree.c (R := R) k)) := con_ok E_orders E_eqs (GOk.cons spec_l1Ok.cb (spec_l1Ok.ok B k) (GOk.cons spec_l1Weight.cb (spec_l1Weight.ok B k) (GOk.cons spec_RandNext.cb (spec_RandNext.ok B k) GOk.nil))) Try.func59 (by kernel_rfl) spec_MixDegree.ds rfl (spec_MixDegree.run k)
theorem spec_MixOf.inn {R : Type} (f : spec_MixOf.T R) (a0 : Int) (a1 : Int) (K : Ret → Option R) : (spec_MixOf.con f).run [.val false [.s (.int .i64 a0)], .val false [.s (.int .i64 a1)]] K = f a0 a1 (fun r1 => K ⟨[.val false [.row .own [.int .i64] r1]], []⟩) := by kernel_rfl
theorem spec_MixOf.run {R : Type} (k : Nat) (args : List RV) (K : Ret → Option R) (o : R) (h : (spec_MixOf.con (spec_MixOf.c k)).run args K = some o) : ∃ args', All2 TyRV args args' ∧ evFunc E (spec_MixOf.G ⟨(), spec_l1Ok.c k, spec_RandNext.c k, spec_MixDegree.c k⟩) k spec_MixOf.H [] false Try.f27 args' K = some o := by
  unfold spec_MixOf.con at h
  simp only at h
  split at h
  · rename_i a0 a1
    exact ⟨_, (.cons (.val (.cons .s .nil)) (.cons (.val (.cons .s .nil)) .nil)), (spec_MixOf.evs ⟨(), spec_l1Ok.c k, spec_RandNext.c k, spec_MixDegree.c k⟩ k a0 a1 K).trans h⟩
  · cases h
theorem spec_MixOf.ds : dstB Try.f27.ntmps (bodyOf Try.f27) = true := by kernel_rfl
theorem spec_MixOf.cb : callB E.P 27 = true := by kernel_rfl
theorem spec_MixOf.ok {R : Type} (B : Base) (k : Nat) : ConOk E.P B 27 (spec_MixOf.con (spec_MixOf.c (R := R) k)) := con_ok E_orders E_eqs (GOk.cons spec_l1Ok.cb (spec_l1Ok.ok B k) (GOk.cons spec_RandNext.cb (spec_RandNext.ok B k) (GOk.cons spec_MixDegree.cb (spec_MixDegree.ok B k) GOk.nil))) Try.func27 (by kernel_rfl) spec_MixOf.ds rfl (spec_MixOf.run k)
theorem impl_in.inn {R : Type} (f : impl_in.T R) (a0 : Int) (a1 : Int) (a2 : Int) (K : Ret → Option R) : (impl_in.con f).run [.val false [.s (.int .i64 a0)], .val false [.s (.int .i64 a1)], .val false [.s (.int .i64 a2)]] K = f a0 a1 a2 (fun r1 => K ⟨[.val false [.s (.bool r1)]], []⟩) := by kernel_rfl
theorem impl_in.run {R : Type} (k : Nat) (args : List RV) (K : Ret → Option R) (o : R) (h : (impl_in.con (impl_in.c k)).run args K = some o) : ∃ args', All2 TyRV args args' ∧ evFunc E (impl_in.G ⟨()⟩) k impl_in.H [] false Try.f52 args' K = some o := by
  unfold impl_in.con at h
  simp only at h
  split at h
  · rename_i a0 a1 a2
    exact ⟨_, (.cons (.val (.cons .s .nil)) (.cons (.val (.cons .s .nil)) (.cons (.val (.cons .s .nil)) .nil))), (impl_in.evs ⟨()⟩ k a0 a1 a2 K).trans h⟩
  · cases h
theorem impl_in.ds : dstB Try.f52.ntmps (bodyOf Try.f52) = true := by kernel_rfl
theorem impl_in.cb : callB E.P 52 = true := by kernel_rfl
theorem impl_in.ok {R : Type} (B : Base) (k : Nat) : ConOk E.P B 52 (impl_in.con (impl_in.c (R := R) k)) := con_ok E_orders E_eqs GOk.nil Try.func52 (by kernel_rfl) impl_in.ds rfl (impl_in.run k)
theorem impl_mixOk.inn {R : Type} (f : impl_mixOk.T R) (a0 : Int) (a1 : Int) (K : Ret → Option R) : (impl_mixOk.con f).run [.val false [.s (.int .i64 a0)], .val false [.s (.int .i64 a1)]] K = f a0 a1 (fun r1 => K ⟨[.val false [.s (.bool r1)]], []⟩) := by kernel_rfl
theorem impl_mixOk.run {R : Type} (k : Nat) (args : List RV) (K : Ret → Option R) (o : R) (h : (impl_mixOk.con (impl_mixOk.c k)).run args K = some o) : ∃ args', All2 TyRV args args' ∧ evFunc E (impl_mixOk.G ⟨(), impl_in.c k⟩) k impl_mixOk.H [] false Try.f60 args' K = some o := by
  unfold impl_mixOk.con at h
  simp only at h
  split at h
  · rename_i a0 a1
    exact ⟨_, (.cons (.val (.cons .s .nil)) (.cons (.val (.cons .s .nil)) .nil)), (impl_mixOk.evs ⟨(), impl_in.c k⟩ k a0 a1 K).trans h⟩
  · cases h
theorem impl_mixOk.ds : dstB Try.f60.ntmps (bodyOf Try.f60) = true := by kernel_rfl
theorem impl_mixOk.cb : callB E.P 60 = true := by kernel_rfl
theorem impl_mixOk.ok {R : Type} (B : Base) (k : Nat) : ConOk E.P B 60 (impl_mixOk.con (impl_mixOk.c (R := R) k)) := con_ok E_orders E_eqs (GOk.cons impl_in.cb (impl_in.ok B k) GOk.nil) Try.func60 (by kernel_rfl) impl_mixOk.ds rfl (impl_mixOk.run k)
theorem impl_RandNext.inn {R : Type} (f : impl_RandNext.T R) (a0 : Int) (K : Ret → Option R) : (impl_RandNext.con f).run [.val false [.s (.int .i64 a0)]] K = f a0 (fun r1 => K ⟨[.val false [.s (.int .i64 r1)]], []⟩) := by kernel_rfl
theorem impl_RandNext.run {R : Type} (k : Nat) (args : List RV) (K : Ret → Option R) (o : R) (h : (impl_RandNext.con (impl_RandNext.c k)).run args K = some o) : ∃ args', All2 TyRV args args' ∧ evFunc E (impl_RandNext.G ⟨(), impl_in.c k⟩) k impl_RandNext.H [] false Try.f61 args' K = some o := by
  unfold impl_RandNext.con at h
  simp only at h
  split at h
  · rename_i a0
    exact ⟨_, (.cons (.val (.cons .s .nil)) .nil), (impl_RandNext.evs ⟨(), impl_in.c k⟩ k a0 K).trans h⟩
  · cases h
theorem impl_RandNext.ds : dstB Try.f61.ntmps (bodyOf Try.f61) = true := by kernel_rfl
theorem impl_RandNext.cb : callB E.P 61 = true := by kernel_rfl
theorem impl_RandNext.ok {R : Type} (B : Base) (k : Nat) : ConOk E.P B 61 (impl_RandNext.con (impl_RandNext.c (R := R) k)) := con_ok E_orders E_eqs (GOk.cons impl_in.cb (impl_in.ok B k) GOk.nil) Try.func61 (by kernel_rfl) impl_RandNext.ds rfl (impl_RandNext.run k)
theorem impl_MixDegree.inn {R : Type} (f : impl_MixDegree.T R) (a0 : Int) (a1 : Int) (K : Ret → Option R) : (impl_MixDegree.con f).run [.val false [.s (.int .i64 a0)], .val false [.s (.int .i64 a1)]] K = f a0 a1 (fun r1 => K ⟨[.val false [.s (.int .i64 r1)]], []⟩) := by kernel_rfl
theorem impl_MixDegree.run {R : Type} (k : Nat) (args : List RV) (K : Ret → Option R) (o : R) (h : (impl_MixDegree.con (impl_MixDegree.c k)).run args K = some o) : ∃ args', All2 TyRV args args' ∧ evFunc E (impl_MixDegree.G ⟨(), impl_mixOk.c k, impl_RandNext.c k⟩) k impl_MixDegree.H [] false Try.f34 args' K = some o := by
  unfold impl_MixDegree.con at h
  simp only at h
  split at h
  · rename_i a0 a1
    exact ⟨_, (.cons (.val (.cons .s .nil)) (.cons (.val (.cons .s .nil)) .nil)), (impl_MixDegree.evs ⟨(), impl_mixOk.c k, impl_RandNext.c k⟩ k a0 a1 K).trans h⟩
  · cases h
theorem impl_MixDegree.ds : dstB Try.f34.ntmps (bodyOf Try.f34) = true := by kernel_rfl
theorem impl_MixDegree.cb : callB E.P 34 = true := by kernel_rfl
theorem impl_MixDegree.ok {R : Type} (B : Base) (k : Nat) : ConOk E.P B 34 (impl_MixDegree.con (impl_MixDegree.c (R := R) k)) := con_ok E_orders E_eqs (GOk.cons impl_mixOk.cb (impl_mixOk.ok B k) (GOk.cons impl_RandNext.cb (impl_RandNext.ok B k) GOk.nil)) Try.func34 (by kernel_rfl) impl_MixDegree.ds rfl (impl_MixDegree.run k)
theorem impl_copied_int.inn {R : Type} (f : impl_copied_int.T R) (a0 : List Int) (K : Ret → Option R) : (impl_copied_int.con f).run [.val false [.row .ro [.int .i64] a0]] K = f a0 (fun r1 => K ⟨[.val false [.row .own [.int .i64] r1]], []⟩) := by kernel_rfl
theorem impl_copied_int.run {R : Type} (k : Nat) (args : List RV) (K : Ret → Option R) (o : R) (h : (impl_copied_int.con (impl_copied_int.c k)).run args K = some o) : ∃ args', All2 TyRV args args' ∧ evFunc E (impl_copied_int.G ⟨()⟩) k impl_copied_int.H [] false Try.f62 args' K = some o := by
  unfold impl_copied_int.con at h
  simp only at h
  split at h
  · rename_i pa0
    obtain ⟨a0, ta0, h⟩ := withRow_some (by simp) h
    exact ⟨_, (.cons (.val (.cons ta0 .nil)) .nil), (impl_copied_int.evs ⟨()⟩ k a0 K).trans h⟩
  · cases h
theorem impl_copied_int.ds : dstB Try.f62.ntmps (bodyOf Try.f62) = true := by kernel_rfl
theorem impl_copied_int.cb : callB E.P 62 = true := by kernel_rfl
theorem impl_copied_int.ok {R : Type} (B : Base) (k : Nat) : ConOk E.P B 62 (impl_copied_int.con (impl_copied_int.c (R := R) k)) := con_ok E_orders E_eqs GOk.nil Try.func62 (by kernel_rfl) impl_copied_int.ds rfl (impl_copied_int.run k)
theorem impl_MixOf.inn {R : Type} (f : impl_MixOf.T R) (a0 : Int) (a1 : Int) (K : Ret → Option R) : (impl_MixOf.con f).run [.val false [.s (.int .i64 a0)], .val false [.s (.int .i64 a1)]] K = f a0 a1 (fun r1 => K ⟨[.val false [.row .own [.int .i64] r1]], []⟩) := by kernel_rfl
theorem impl_MixOf.run {R : Type} (k : Nat) (args : List RV) (K : Ret → Option R) (o : R) (h : (impl_MixOf.con (impl_MixOf.c k)).run args K = some o) : ∃ args', All2 TyRV args args' ∧ evFunc E (impl_MixOf.G ⟨(), impl_mixOk.c k, impl_RandNext.c k, impl_MixDegree.c k, impl_copied_int.c k⟩) k impl_MixOf.H [] false Try.f28 args' K = some o := by
  unfold impl_MixOf.con at h
  simp only at h
  split at h
  · rename_i a0 a1
    exact ⟨_, (.cons (.val (.cons .s .nil)) (.cons (.val (.cons .s .nil)) .nil)), (impl_MixOf.evs ⟨(), impl_mixOk.c k, impl_RandNext.c k, impl_MixDegree.c k, impl_copied_int.c k⟩ k a0 a1 K).trans h⟩
  · cases h
theorem impl_MixOf.ds : dstB Try.f28.ntmps (bodyOf Try.f28) = true := by kernel_rfl
theorem impl_MixOf.cb : callB E.P 28 = true := by kernel_rfl
theorem impl_MixOf.ok {R : Type} (B : Base) (k : Nat) : ConOk E.P B 28 (impl_MixOf.con (impl_MixOf.c (R := R) k)) := con_ok E_orders E_eqs (GOk.cons impl_mixOk.cb (impl_mixOk.ok B k) (GOk.cons impl_RandNext.cb (impl_RandNext.ok B k) (GOk.cons impl_MixDegree.cb (impl_MixDegree.ok B k) (GOk.cons impl_copied_int.cb (impl_copied_int.ok B k) GOk.nil)))) Try.func28 (by kernel_rfl) impl_MixOf.ds rfl (impl_MixOf.run k)
theorem spec_l6Open.inn {R : Type} (f : spec_l6Open.T R) (a0 : List Int) (K : Ret → Option R) : (spec_l6Open.con f).run [.val false [.row .ro [.int .u8] a0]] K = f a0 (fun r1 r2 => K ⟨[.ref [.row .ro [.int .u8] r1, .s (.int .i64 r2)]], []⟩) := by kernel_rfl
theorem spec_l6Open.run {R : Type} (k : Nat) (args : List RV) (K : Ret → Option R) (o : R) (h : (spec_l6Open.con (spec_l6Open.c k)).run args K = some o) : ∃ args', All2 TyRV args args' ∧ evFunc E (spec_l6Open.G ⟨()⟩) k spec_l6Open.H [] false Try.f56 args' K = some o := by
  unfold spec_l6Open.con at h
  simp only at h
  split at h
  · rename_i pa0
    obtain ⟨a0, ta0, h⟩ := withRow_some (by simp) h
    exact ⟨_, (.cons (.val (.cons ta0 .nil)) .nil), (spec_l6Open.evs ⟨()⟩ k a0 K).trans h⟩
  · cases h
theorem spec_l6Open.ds : dstB Try.f56.ntmps (bodyOf Try.f56) = true := by kernel_rfl
theorem spec_l6Open.cb : callB E.P 56 = true := by kernel_rfl
theorem spec_l6Open.ok {R : Type} (B : Base) (k : Nat) : ConOk E.P B 56 (spec_l6Open.con (spec_l6Open.c (R := R) k)) := con_ok E_orders E_eqs GOk.nil Try.func56 (by kernel_rfl) spec_l6Open.ds rfl (spec_l6Open.run k)
theorem spec_l6Rd_pick.inn {R : Type} (f : spec_l6Rd_pick.T R) (a0_0 : List Int) (a0_1 : Int) (a1 : Int) (K : Ret → Option R) : (spec_l6Rd_pick.con f).run [.ref [.row .ro [.int .u8] a0_0, .s (.int .i64 a0_1)], .val false [.s (.int .i64 a1)]] K = f a0_0 a0_1 a1 (fun r1 r2 => K ⟨[.val false [.s (.int .i64 r1)]], [[.row .ro [.int .u8] a0_0, .s (.int .i64 r2)]]⟩) := by kernel_rfl
theorem spec_l6Rd_pick.run {R : Type} (k : Nat) (args : List RV) (K : Ret → Option R) (o : R) (h : (spec_l6Rd_pick.con (spec_l6Rd_pick.c k)).run args K = some o) : ∃ args', All2 TyRV args args' ∧ evFunc E (spec_l6Rd_pick.G ⟨()⟩) k spec_l6Rd_pick.H [] false Try.f67 args' K = some o := by
  unfold spec_l6Rd_pick.con at h
  simp only at h
  split at h
  · rename_i pa0_0 a0_1 a1
    obtain ⟨a0_0, ta0_0, h⟩ := withRow_some (by simp) h
    exact ⟨_, (.cons (.ref (.cons ta0_0 (.cons .s .nil))) (.cons (.val (.cons .s .nil)) .nil)), (spec_l6Rd_pick.evs ⟨()⟩ k a0_0 a0_1 a1 K).trans h⟩
  · cases h
theorem spec_l6Rd_pick.ds : dstB Try.f67.ntmps (bodyOf Try.f67) = true := by kernel_rfl
theorem spec_l6Rd_pick.cb : callB E.P 67 = true := by kernel_rfl
theorem spec_l6Rd_pick.ok {R : Type} (B : Base) (k : Nat) : ConOk E.P B 67 (spec_l6Rd_pick.con (spec_l6Rd_pick.c (R := R) k)) := con_ok E_orders E_eqs GOk.nil Try.func67 (by kernel_rfl) spec_l6Rd_pick.ds rfl (spec_l6Rd_pick.run k)
theorem spec_DrawMixDegree.inn {R : Type} (f : spec_DrawMixDegree.T R) (a0 : List Int) (K : Ret → Option R) : (spec_DrawMixDegree.con f).run [.val false [.row .ro [.int .u8] a0]] K = f a0 (fun r1 r2 => K ⟨[.val false [.s (.int .i64 r1)], .val false [.s (.int .i64 r2)]], []⟩) := by kernel_rfl
theorem spec_DrawMixDegree.run {R : Type} (k : Nat) (args : List RV) (K : Ret → Option R) (o : R) (h : (spec_DrawMixDegree.con (spec_DrawMixDegree.c k)).run args K = some o) : ∃ args', All2 TyRV args args' ∧ evFunc E (spec_DrawMixDegree.G ⟨(), spec_l6Open.c k, spec_l6Rd_pick.c k⟩) k spec_DrawMixDegree.H [] false Try.f63 args' K = some o := by
  unfold spec_DrawMixDegree.con at h
  simp only at h
  split at h
  · rename_i pa0
    obtain ⟨a0, ta0, h⟩ := withRow_some (by simp) h
    exact ⟨_, (.cons (.val (.cons ta0 .nil)) .nil), (spec_DrawMixDegree.evs ⟨(), spec_l6Open.c k, spec_l6Rd_pick.c k⟩ k a0 K).trans h⟩
  · cases h
theorem spec_DrawMixDegree.ds : dstB Try.f63.ntmps (bodyOf Try.f63) = true := by kernel_rfl
theorem spec_DrawMixDegree.cb : callB E.P 63 = true := by kernel_rfl
theorem spec_DrawMixDegree.ok {R : Type} (B : Base) (k : Nat) : ConOk E.P B 63 (spec_DrawMixDegree.con (spec_DrawMixDegree.c (R := R) k)) := con_ok E_orders E_eqs (GOk.cons spec_l6Open.cb (spec_l6Open.ok B k) (GOk.cons spec_l6Rd_pick.cb (spec_l6Rd_pick.ok B k) GOk.nil)) Try.func63 (by kernel_rfl) spec_DrawMixDegree.ds rfl (spec_DrawMixDegree.run k)
theorem spec_DrawMixOf.inn {R : Type} (f : spec_DrawMixOf.T R) (a0 : List Int) (K : Ret → Option R) : (spec_DrawMixOf.con f).run [.val false [.row .ro [.int .u8] a0]] K = f a0 (fun r1 r2 => K ⟨[.val false [.s (.int .i64 r1)], .val false [.s (.int .i64 r2)]], []⟩) := by kernel_rfl
theorem spec_DrawMixOf.run {R : Type} (k : Nat) (args : List RV) (K : Ret → Option R) (o : R) (h : (spec_DrawMixOf.con (spec_DrawMixOf.c k)).run args K = some o) : ∃ args', All2 TyRV args args' ∧ evFunc E (spec_DrawMixOf.G ⟨(), spec_DrawMixDegree.c k⟩) k spec_DrawMixOf.H [] false Try.f32 args' K = some o := by
  unfold spec_DrawMixOf.con at h
  simp only at h
  split at h
  · rename_i pa0
    obtain ⟨a0, ta0, h⟩ := withRow_some (by simp) h
    exact ⟨_, (.cons (.val (.cons ta0 .nil)) .nil), (spec_DrawMixOf.evs ⟨(), spec_DrawMixDegree.c k⟩ k a0 K).trans h⟩
  · cases h
theorem spec_DrawMixOf.ds : dstB Try.f32.ntmps (bodyOf Try.f32) = true := by kernel_rfl
theorem spec_DrawMixOf.cb : callB E.P 32 = true := by kernel_rfl
theorem spec_DrawMixOf.ok {R : Type} (B : Base) (k : Nat) : ConOk E.P B 32 (spec_DrawMixOf.con (spec_DrawMixOf.c (R := R) k)) := con_ok E_orders E_eqs (GOk.cons spec_DrawMixDegree.cb (spec_DrawMixDegree.ok B k) GOk.nil) Try.func32 (by kernel_rfl) spec_DrawMixOf.ds rfl (spec_DrawMixOf.run k)
theorem laws_lbInts.inn {R : Type} (f : laws_lbInts.T R) (a0 : List Int) (a1 : List Int) (K : Ret → Option R) : (laws_lbInts.con f).run [.val false [.row .ro [.int .i64] a0], .val false [.row .ro [.int .i64] a1]] K = f a0 a1 (fun r1 => K ⟨[.val false [.s (.bool r1)]], []⟩) := by kernel_rfl
theorem laws_lbInts.run {R : Type} (k : Nat) (args : List RV) (K : Ret → Option R) (o : R) (h : (laws_lbInts.con (laws_lbInts.c k)).run args K = some o) : ∃ args', All2 TyRV args args' ∧ evFunc E (laws_lbInts.G ⟨()⟩) k laws_lbInts.H [] false Try.f33 args' K = some o := by
  unfold laws_lbInts.con at h
  simp only at h
  split at h
  · rename_i pa0 pa1
    obtain ⟨a0, ta0, h⟩ := withRow_some (by simp) h
    obtain ⟨a1, ta1, h⟩ := withRow_some (by simp) h
    exact ⟨_, (.cons (.val (.cons ta0 .nil)) (.cons (.val (.cons ta1 .nil)) .nil)), (laws_lbInts.evs ⟨()⟩ k a0 a1 K).trans h⟩
  · cases h
theorem laws_lbInts.ds : dstB Try.f33.ntmps (bodyOf Try.f33) = true := by kernel_rfl
theorem laws_lbInts.cb : callB E.P 33 = true := by kernel_rfl
theorem laws_lbInts.ok {R : Type} (B : Base) (k : Nat) : ConOk E.P B 33 (laws_lbInts.con (laws_lbInts.c (R := R) k)) := con_ok E_orders E_eqs GOk.nil Try.func33 (by kernel_rfl) laws_lbInts.ds rfl (laws_lbInts.run k)
theorem laws_FnMixOf.inn {R : Type} (f : laws_FnMixOf.T R) (a0 : List Int) (K : Ret → Option R) : (laws_FnMixOf.con f).run [.val false [.row .ro [.int .u8] a0]] K = f a0 (fun r1 => K ⟨[.val false [.s (.bool r1)]], []⟩) := by kernel_rfl
theorem laws_FnMixOf.run {R : Type} (k : Nat) (args : List RV) (K : Ret → Option R) (o : R) (h : (laws_FnMixOf.con (laws_FnMixOf.c k)).run args K = some o) : ∃ args', All2 TyRV args args' ∧ evFunc E (laws_FnMixOf.G ⟨(), spec_DrawMixOf.c k, spec_MixOf.c k, impl_MixOf.c k, laws_lbInts.c k, impl_MixDegree.c k⟩) k laws_FnMixOf.H [] false Try.f7 args' K = some o := by
  unfold laws_FnMixOf.con at h
  simp only at h
  split at h
  · rename_i pa0
    obtain ⟨a0, ta0, h⟩ := withRow_some (by simp) h
    exact ⟨_, (.cons (.val (.cons ta0 .nil)) .nil), (laws_FnMixOf.evs ⟨(), spec_DrawMixOf.c k, spec_MixOf.c k, impl_MixOf.c k, laws_lbInts.c k, impl_MixDegree.c k⟩ k a0 K).trans h⟩
  · cases h
theorem laws_FnMixOf.ds : dstB Try.f7.ntmps (bodyOf Try.f7) = true := by kernel_rfl
theorem laws_FnMixOf.cb : callB E.P 7 = true := by kernel_rfl
theorem laws_FnMixOf.ok {R : Type} (B : Base) (k : Nat) : ConOk E.P B 7 (laws_FnMixOf.con (laws_FnMixOf.c (R := R) k)) := con_ok E_orders E_eqs (GOk.cons spec_DrawMixOf.cb (spec_DrawMixOf.ok B k) (GOk.cons spec_MixOf.cb (spec_MixOf.ok B k) (GOk.cons impl_MixOf.cb (impl_MixOf.ok B k) (GOk.cons laws_lbInts.cb (laws_lbInts.ok B k) (GOk.cons impl_MixDegree.cb (impl_MixDegree.ok B k) GOk.nil))))) Try.func7 (by kernel_rfl) laws_FnMixOf.ds rfl (laws_FnMixOf.run k)
end Go.Ev.F
