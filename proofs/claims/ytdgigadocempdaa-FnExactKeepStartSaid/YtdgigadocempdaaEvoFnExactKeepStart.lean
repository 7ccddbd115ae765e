/- What the Go functions compute is what the machine does. No condition. Written by a program of this session. -/
import Derived.Test.YtdgigadocempdaaEvtFnExactKeepStart
import Derived.Test.YtdgigadocempdaaSoE
namespace Go.Ev.F
open Go.Proofs
set_option linter.unusedVariables false
set_option maxRecDepth 100000
theorem E_orders : E.P.follows .mixedOrders = true := by kernel_rfl
theorem E_eqs : ∀ t ∈ E.eqs, eqFree E.P t = true := List.all_eq_true.mp (by kernel_rfl)
theorem spec_l6In.inn {R : Type} (f : spec_l6In.T R) (a0 : Int) (a1 : Int) (a2 : Int) (K : Ret → Option R) : (spec_l6In.con f).run [.val false [.s (.int .i64 a0)], .val false [.s (.int .i64 a1)], .val false [.s (.int .i64 a2)]] K = f a0 a1 a2 (fun r1 => K ⟨[.val false [.s (.bool r1)]], []⟩) := by kernel_rfl
theorem spec_l6In.run {R : Type} (k : Nat) (args : List RV) (K : Ret → Option R) (o : R) (h : (spec_l6In.con (spec_l6In.c k)).run args K = some o) : ∃ args', All2 TyRV args args' ∧ evFunc E (spec_l6In.G ⟨()⟩) k spec_l6In.H [] false Try.f36 args' K = some o := by
  unfold spec_l6In.con at h
  simp only at h
  split at h
  · rename_i a0 a1 a2
    exact ⟨_, (.cons (.val (.cons .s .nil)) (.cons (.val (.cons .s .nil)) (.cons (.val (.cons .s .nil)) .nil))), (spec_l6In.evs ⟨()⟩ k a0 a1 a2 K).trans h⟩
  · cases h
theorem spec_l6In.ds : dstB Try.f36.ntmps (bodyOf Try.f36) = true := by kernel_rfl
theorem spec_l6In.cb : callB E.P 36 = true := by kernel_rfl
theorem spec_l6In.ok {R : Type} (B : Base) (k : Nat) : ConOk E.P B 36 (spec_l6In.con (spec_l6In.c (R := R) k)) := con_ok E_orders E_eqs GOk.nil Try.func36 (by kernel_rfl) spec_l6In.ds rfl (spec_l6In.run k)
theorem spec_l3Keeper.inn {R : Type} (f : spec_l3Keeper.T R) (a0 : Int) (K : Ret → Option R) : (spec_l3Keeper.con f).run [.val false [.s (.int .i64 a0)]] K = f a0 (fun r1 => K ⟨[.val false [.s (.bool r1)]], []⟩) := by kernel_rfl
theorem spec_l3Keeper.run {R : Type} (k : Nat) (args : List RV) (K : Ret → Option R) (o : R) (h : (spec_l3Keeper.con (spec_l3Keeper.c k)).run args K = some o) : ∃ args', All2 TyRV args args' ∧ evFunc E (spec_l3Keeper.G ⟨(), spec_l6In.c k⟩) k spec_l3Keeper.H [] false Try.f42 args' K = some o := by
  unfold spec_l3Keeper.con at h
  simp only at h
  split at h
  · rename_i a0
    exact ⟨_, (.cons (.val (.cons .s .nil)) .nil), (spec_l3Keeper.evs ⟨(), spec_l6In.c k⟩ k a0 K).trans h⟩
  · cases h
theorem spec_l3Keeper.ds : dstB Try.f42.ntmps (bodyOf Try.f42) = true := by kernel_rfl
theorem spec_l3Keeper.cb : callB E.P 42 = true := by kernel_rfl
theorem spec_l3Keeper.ok {R : Type} (B : Base) (k : Nat) : ConOk E.P B 42 (spec_l3Keeper.con (spec_l3Keeper.c (R := R) k)) := con_ok E_orders E_eqs (GOk.cons spec_l6In.cb (spec_l6In.ok B k) GOk.nil) Try.func42 (by kernel_rfl) spec_l3Keeper.ds rfl (spec_l3Keeper.run k)
theorem spec_KeepStart.inn {R : Type} (f : spec_KeepStart.T R) (a0 : Int) (K : Ret → Option R) : (spec_KeepStart.con f).run [.val false [.s (.int .i64 a0)]] K = f a0 (fun r1 r2 r3 r4 r5 r6 => K ⟨[.val true [.s (.int .i64 r1), .s (.int .i64 r2), .s (.int .i64 r3), .row .own [.int .i64, .int .i64, .int .i64, .int .i64, .str] r4, .row .own [.int .i64, .int .i64, .int .i64] r5, .row .own [.int .i64, .int .i64, .int .i64, .int .i64, .str] r6]], []⟩) := by kernel_rfl
theorem spec_KeepStart.run {R : Type} (k : Nat) (args : List RV) (K : Ret → Option R) (o : R) (h : (spec_KeepStart.con (spec_KeepStart.c k)).run args K = some o) : ∃ args', All2 TyRV args args' ∧ evFunc E (spec_KeepStart.G ⟨(), spec_l3Keeper.c k⟩) k spec_KeepStart.H [] false Try.f26 args' K = some o := by
  unfold spec_KeepStart.con at h
  simp only at h
  split at h
  · rename_i a0
    exact ⟨_, (.cons (.val (.cons .s .nil)) .nil), (spec_KeepStart.evs ⟨(), spec_l3Keeper.c k⟩ k a0 K).trans h⟩
  · cases h
theorem spec_KeepStart.ds : dstB Try.f26.ntmps (bodyOf Try.f26) = true := by kernel_rfl
theorem spec_KeepStart.cb : callB E.P 26 = true := by kernel_rfl
theorem spec_KeepStart.ok {R : Type} (B : Base) (k : Nat) : ConOk E.P B 26 (spec_KeepStart.con (spec_KeepStart.c (R := R) k)) := con_ok E_orders E_eqs (GOk.cons spec_l3Keeper.cb (spec_l3Keeper.ok B k) GOk.nil) Try.func26 (by kernel_rfl) spec_KeepStart.ds rfl (spec_KeepStart.run k)
theorem impl_in.inn {R : Type} (f : impl_in.T R) (a0 : Int) (a1 : Int) (a2 : Int) (K : Ret → Option R) : (impl_in.con f).run [.val false [.s (.int .i64 a0)], .val false [.s (.int .i64 a1)], .val false [.s (.int .i64 a2)]] K = f a0 a1 a2 (fun r1 => K ⟨[.val false [.s (.bool r1)]], []⟩) := by kernel_rfl
theorem impl_in.run {R : Type} (k : Nat) (args : List RV) (K : Ret → Option R) (o : R) (h : (impl_in.con (impl_in.c k)).run args K = some o) : ∃ args', All2 TyRV args args' ∧ evFunc E (impl_in.G ⟨()⟩) k impl_in.H [] false Try.f37 args' K = some o := by
  unfold impl_in.con at h
  simp only at h
  split at h
  · rename_i a0 a1 a2
    exact ⟨_, (.cons (.val (.cons .s .nil)) (.cons (.val (.cons .s .nil)) (.cons (.val (.cons .s .nil)) .nil))), (impl_in.evs ⟨()⟩ k a0 a1 a2 K).trans h⟩
  · cases h
theorem impl_in.ds : dstB Try.f37.ntmps (bodyOf Try.f37) = true := by kernel_rfl
theorem impl_in.cb : callB E.P 37 = true := by kernel_rfl
theorem impl_in.ok {R : Type} (B : Base) (k : Nat) : ConOk E.P B 37 (impl_in.con (impl_in.c (R := R) k)) := con_ok E_orders E_eqs GOk.nil Try.func37 (by kernel_rfl) impl_in.ds rfl (impl_in.run k)
theorem impl_isNode.inn {R : Type} (f : impl_isNode.T R) (a0 : Int) (K : Ret → Option R) : (impl_isNode.con f).run [.val false [.s (.int .i64 a0)]] K = f a0 (fun r1 => K ⟨[.val false [.s (.bool r1)]], []⟩) := by kernel_rfl
theorem impl_isNode.run {R : Type} (k : Nat) (args : List RV) (K : Ret → Option R) (o : R) (h : (impl_isNode.con (impl_isNode.c k)).run args K = some o) : ∃ args', All2 TyRV args args' ∧ evFunc E (impl_isNode.G ⟨(), impl_in.c k⟩) k impl_isNode.H [] false Try.f43 args' K = some o := by
  unfold impl_isNode.con at h
  simp only at h
  split at h
  · rename_i a0
    exact ⟨_, (.cons (.val (.cons .s .nil)) .nil), (impl_isNode.evs ⟨(), impl_in.c k⟩ k a0 K).trans h⟩
  · cases h
theorem impl_isNode.ds : dstB Try.f43.ntmps (bodyOf Try.f43) = true := by kernel_rfl
theorem impl_isNode.cb : callB E.P 43 = true := by kernel_rfl
theorem impl_isNode.ok {R : Type} (B : Base) (k : Nat) : ConOk E.P B 43 (impl_isNode.con (impl_isNode.c (R := R) k)) := con_ok E_orders E_eqs (GOk.cons impl_in.cb (impl_in.ok B k) GOk.nil) Try.func43 (by kernel_rfl) impl_isNode.ds rfl (impl_isNode.run k)
theorem impl_KeepStart.inn {R : Type} (f : impl_KeepStart.T R) (a0 : Int) (K : Ret → Option R) : (impl_KeepStart.con f).run [.val false [.s (.int .i64 a0)]] K = f a0 (fun r1 r2 r3 r4 r5 r6 => K ⟨[.val true [.s (.int .i64 r1), .s (.int .i64 r2), .s (.int .i64 r3), .row .own [.int .i64, .int .i64, .int .i64, .int .i64, .str] r4, .row .own [.int .i64, .int .i64, .int .i64] r5, .row .own [.int .i64, .int .i64, .int .i64, .int .i64, .str] r6]], []⟩) := by kernel_rfl
theorem impl_KeepStart.run {R : Type} (k : Nat) (args : List RV) (K : Ret → Option R) (o : R) (h : (impl_KeepStart.con (impl_KeepStart.c k)).run args K = some o) : ∃ args', All2 TyRV args args' ∧ evFunc E (impl_KeepStart.G ⟨(), impl_isNode.c k⟩) k impl_KeepStart.H [] false Try.f27 args' K = some o := by
  unfold impl_KeepStart.con at h
  simp only at h
  split at h
  · rename_i a0
    exact ⟨_, (.cons (.val (.cons .s .nil)) .nil), (impl_KeepStart.evs ⟨(), impl_isNode.c k⟩ k a0 K).trans h⟩
  · cases h
theorem impl_KeepStart.ds : dstB Try.f27.ntmps (bodyOf Try.f27) = true := by kernel_rfl
theorem impl_KeepStart.cb : callB E.P 27 = true := by kernel_rfl
theorem impl_KeepStart.ok {R : Type} (B : Base) (k : Nat) : ConOk E.P B 27 (impl_KeepStart.con (impl_KeepStart.c (R := R) k)) := con_ok E_orders E_eqs (GOk.cons impl_isNode.cb (impl_isNode.ok B k) GOk.nil) Try.func27 (by kernel_rfl) impl_KeepStart.ds rfl (impl_KeepStart.run k)
theorem laws_eqNote.inn {R : Type} (f : laws_eqNote.T R) (a0_0 : Int) (a0_1 : Int) (a0_2 : Int) (a0_3 : Int) (a0_4 : ByteArray) (a1_0 : Int) (a1_1 : Int) (a1_2 : Int) (a1_3 : Int) (a1_4 : ByteArray) (K : Ret → Option R) : (laws_eqNote.con f).run [.val true [.s (.int .i64 a0_0), .s (.int .i64 a0_1), .s (.int .i64 a0_2), .s (.int .i64 a0_3), .s (.string a0_4)], .val true [.s (.int .i64 a1_0), .s (.int .i64 a1_1), .s (.int .i64 a1_2), .s (.int .i64 a1_3), .s (.string a1_4)]] K = f a0_0 a0_1 a0_2 a0_3 a0_4 a1_0 a1_1 a1_2 a1_3 a1_4 (fun r1 => K ⟨[.val false [.s (.bool r1)]], []⟩) := by kernel_rfl
theorem laws_eqNote.run {R : Type} (k : Nat) (args : List RV) (K : Ret → Option R) (o : R) (h : (laws_eqNote.con (laws_eqNote.c k)).run args K = some o) : ∃ args', All2 TyRV args args' ∧ evFunc E (laws_eqNote.G ⟨()⟩) k laws_eqNote.H [] false Try.f55 args' K = some o := by
  unfold laws_eqNote.con at h
  simp only at h
  split at h
  · rename_i a0_0 a0_1 a0_2 a0_3 a0_4 a1_0 a1_1 a1_2 a1_3 a1_4
    exact ⟨_, (.cons (.val (.cons .s (.cons .s (.cons .s (.cons .s (.cons .s .nil)))))) (.cons (.val (.cons .s (.cons .s (.cons .s (.cons .s (.cons .s .nil)))))) .nil)), (laws_eqNote.evs ⟨()⟩ k a0_0 a0_1 a0_2 a0_3 a0_4 a1_0 a1_1 a1_2 a1_3 a1_4 K).trans h⟩
  · cases h
theorem laws_eqNote.ds : dstB Try.f55.ntmps (bodyOf Try.f55) = true := by kernel_rfl
theorem laws_eqNote.cb : callB E.P 55 = true := by kernel_rfl
theorem laws_eqNote.ok {R : Type} (B : Base) (k : Nat) : ConOk E.P B 55 (laws_eqNote.con (laws_eqNote.c (R := R) k)) := con_ok E_orders E_eqs GOk.nil Try.func55 (by kernel_rfl) laws_eqNote.ds rfl (laws_eqNote.run k)
theorem laws_eqNoteS.inn {R : Type} (f : laws_eqNoteS.T R) (a0 : List (Int × Int × Int × Int × ByteArray)) (a1 : List (Int × Int × Int × Int × ByteArray)) (K : Ret → Option R) : (laws_eqNoteS.con f).run [.val false [.row .ro [.int .i64, .int .i64, .int .i64, .int .i64, .str] a0], .val false [.row .ro [.int .i64, .int .i64, .int .i64, .int .i64, .str] a1]] K = f a0 a1 (fun r1 => K ⟨[.val false [.s (.bool r1)]], []⟩) := by kernel_rfl
theorem laws_eqNoteS.run {R : Type} (k : Nat) (args : List RV) (K : Ret → Option R) (o : R) (h : (laws_eqNoteS.con (laws_eqNoteS.c k)).run args K = some o) : ∃ args', All2 TyRV args args' ∧ evFunc E (laws_eqNoteS.G ⟨(), laws_eqNote.c k⟩) k laws_eqNoteS.H [] false Try.f44 args' K = some o := by
  unfold laws_eqNoteS.con at h
  simp only at h
  split at h
  · rename_i pa0 pa1
    obtain ⟨a0, ta0, h⟩ := withRow_some (by simp) h
    obtain ⟨a1, ta1, h⟩ := withRow_some (by simp) h
    exact ⟨_, (.cons (.val (.cons ta0 .nil)) (.cons (.val (.cons ta1 .nil)) .nil)), (laws_eqNoteS.evs ⟨(), laws_eqNote.c k⟩ k a0 a1 K).trans h⟩
  · cases h
theorem laws_eqNoteS.ds : dstB Try.f44.ntmps (bodyOf Try.f44) = true := by kernel_rfl
theorem laws_eqNoteS.cb : callB E.P 44 = true := by kernel_rfl
theorem laws_eqNoteS.ok {R : Type} (B : Base) (k : Nat) : ConOk E.P B 44 (laws_eqNoteS.con (laws_eqNoteS.c (R := R) k)) := con_ok E_orders E_eqs (GOk.cons laws_eqNote.cb (laws_eqNote.ok B k) GOk.nil) Try.func44 (by kernel_rfl) laws_eqNoteS.ds rfl (laws_eqNoteS.run k)
theorem laws_eqMark.inn {R : Type} (f : laws_eqMark.T R) (a0_0 : Int) (a0_1 : Int) (a0_2 : Int) (a1_0 : Int) (a1_1 : Int) (a1_2 : Int) (K : Ret → Option R) : (laws_eqMark.con f).run [.val true [.s (.int .i64 a0_0), .s (.int .i64 a0_1), .s (.int .i64 a0_2)], .val true [.s (.int .i64 a1_0), .s (.int .i64 a1_1), .s (.int .i64 a1_2)]] K = f a0_0 a0_1 a0_2 a1_0 a1_1 a1_2 (fun r1 => K ⟨[.val false [.s (.bool r1)]], []⟩) := by kernel_rfl
theorem laws_eqMark.run {R : Type} (k : Nat) (args : List RV) (K : Ret → Option R) (o : R) (h : (laws_eqMark.con (laws_eqMark.c k)).run args K = some o) : ∃ args', All2 TyRV args args' ∧ evFunc E (laws_eqMark.G ⟨()⟩) k laws_eqMark.H [] false Try.f56 args' K = some o := by
  unfold laws_eqMark.con at h
  simp only at h
  split at h
  · rename_i a0_0 a0_1 a0_2 a1_0 a1_1 a1_2
    exact ⟨_, (.cons (.val (.cons .s (.cons .s (.cons .s .nil)))) (.cons (.val (.cons .s (.cons .s (.cons .s .nil)))) .nil)), (laws_eqMark.evs ⟨()⟩ k a0_0 a0_1 a0_2 a1_0 a1_1 a1_2 K).trans h⟩
  · cases h
theorem laws_eqMark.ds : dstB Try.f56.ntmps (bodyOf Try.f56) = true := by kernel_rfl
theorem laws_eqMark.cb : callB E.P 56 = true := by kernel_rfl
theorem laws_eqMark.ok {R : Type} (B : Base) (k : Nat) : ConOk E.P B 56 (laws_eqMark.con (laws_eqMark.c (R := R) k)) := con_ok E_orders E_eqs GOk.nil Try.func56 (by kernel_rfl) laws_eqMark.ds rfl (laws_eqMark.run k)
theorem laws_eqMarkS.inn {R : Type} (f : laws_eqMarkS.T R) (a0 : List (Int × Int × Int)) (a1 : List (Int × Int × Int)) (K : Ret → Option R) : (laws_eqMarkS.con f).run [.val false [.row .ro [.int .i64, .int .i64, .int .i64] a0], .val false [.row .ro [.int .i64, .int .i64, .int .i64] a1]] K = f a0 a1 (fun r1 => K ⟨[.val false [.s (.bool r1)]], []⟩) := by kernel_rfl
theorem laws_eqMarkS.run {R : Type} (k : Nat) (args : List RV) (K : Ret → Option R) (o : R) (h : (laws_eqMarkS.con (laws_eqMarkS.c k)).run args K = some o) : ∃ args', All2 TyRV args args' ∧ evFunc E (laws_eqMarkS.G ⟨(), laws_eqMark.c k⟩) k laws_eqMarkS.H [] false Try.f45 args' K = some o := by
  unfold laws_eqMarkS.con at h
  simp only at h
  split at h
  · rename_i pa0 pa1
    obtain ⟨a0, ta0, h⟩ := withRow_some (by simp) h
    obtain ⟨a1, ta1, h⟩ := withRow_some (by simp) h
    exact ⟨_, (.cons (.val (.cons ta0 .nil)) (.cons (.val (.cons ta1 .nil)) .nil)), (laws_eqMarkS.evs ⟨(), laws_eqMark.c k⟩ k a0 a1 K).trans h⟩
  · cases h
theorem laws_eqMarkS.ds : dstB Try.f45.ntmps (bodyOf Try.f45) = true := by kernel_rfl
theorem laws_eqMarkS.cb : callB E.P 45 = true := by kernel_rfl
theorem laws_eqMarkS.ok {R : Type} (B : Base) (k : Nat) : ConOk E.P B 45 (laws_eqMarkS.con (laws_eqMarkS.c (R := R) k)) := con_ok E_orders E_eqs (GOk.cons laws_eqMark.cb (laws_eqMark.ok B k) GOk.nil) Try.func45 (by kernel_rfl) laws_eqMarkS.ds rfl (laws_eqMarkS.run k)
theorem laws_eqKeep.inn {R : Type} (f : laws_eqKeep.T R) (a0_0 : Int) (a0_1 : Int) (a0_2 : Int) (a0_3 : List (Int × Int × Int × Int × ByteArray)) (a0_4 : List (Int × Int × Int)) (a0_5 : List (Int × Int × Int × Int × ByteArray)) (a1_0 : Int) (a1_1 : Int) (a1_2 : Int) (a1_3 : List (Int × Int × Int × Int × ByteArray)) (a1_4 : List (Int × Int × Int)) (a1_5 : List (Int × Int × Int × Int × ByteArray)) (K : Ret → Option R) : (laws_eqKeep.con f).run [.val true [.s (.int .i64 a0_0), .s (.int .i64 a0_1), .s (.int .i64 a0_2), .row .ro [.int .i64, .int .i64, .int .i64, .int .i64, .str] a0_3, .row .ro [.int .i64, .int .i64, .int .i64] a0_4, .row .ro [.int .i64, .int .i64, .int .i64, .int .i64, .str] a0_5], .val true [.s (.int .i64 a1_0), .s (.int .i64 a1_1), .s (.int .i64 a1_2), .row .ro [.int .i64, .int .i64, .int .i64, .int .i64, .str] a1_3, .row .ro [.int .i64, .int .i64, .int .i64] a1_4, .row .ro [.int .i64, .int .i64, .int .i64, .int .i64, .str] a1_5]] K = f a0_0 a0_1 a0_2 a0_3 a0_4 a0_5 a1_0 a1_1 a1_2 a1_3 a1_4 a1_5 (fun r1 => K ⟨[.val false [.s (.bool r1)]], []⟩) := by kernel_rfl
theorem laws_eqKeep.run {R : Type} (k : Nat) (args : List RV) (K : Ret → Option R) (o : R) (h : (laws_eqKeep.con (laws_eqKeep.c k)).run args K = some o) : ∃ args', All2 TyRV args args' ∧ evFunc E (laws_eqKeep.G ⟨(), laws_eqNoteS.c k, laws_eqMarkS.c k⟩) k laws_eqKeep.H [] false Try.f28 args' K = some o := by
  unfold laws_eqKeep.con at h
  simp only at h
  split at h
  · rename_i a0_0 a0_1 a0_2 pa0_3 pa0_4 pa0_5 a1_0 a1_1 a1_2 pa1_3 pa1_4 pa1_5
    obtain ⟨a0_3, ta0_3, h⟩ := withRow_some (by simp) h
    obtain ⟨a0_4, ta0_4, h⟩ := withRow_some (by simp) h
    obtain ⟨a0_5, ta0_5, h⟩ := withRow_some (by simp) h
    obtain ⟨a1_3, ta1_3, h⟩ := withRow_some (by simp) h
    obtain ⟨a1_4, ta1_4, h⟩ := withRow_some (by simp) h
    obtain ⟨a1_5, ta1_5, h⟩ := withRow_some (by simp) h
    exact ⟨_, (.cons (.val (.cons .s (.cons .s (.cons .s (.cons ta0_3 (.cons ta0_4 (.cons ta0_5 .nil))))))) (.cons (.val (.cons .s (.cons .s (.cons .s (.cons ta1_3 (.cons ta1_4 (.cons ta1_5 .nil))))))) .nil)), (laws_eqKeep.evs ⟨(), laws_eqNoteS.c k, laws_eqMarkS.c k⟩ k a0_0 a0_1 a0_2 a0_3 a0_4 a0_5 a1_0 a1_1 a1_2 a1_3 a1_4 a1_5 K).trans h⟩
  · cases h
theorem laws_eqKeep.ds : dstB Try.f28.ntmps (bodyOf Try.f28) = true := by kernel_rfl
theorem laws_eqKeep.cb : callB E.P 28 = true := by kernel_rfl
theorem laws_eqKeep.ok {R : Type} (B : Base) (k : Nat) : ConOk E.P B 28 (laws_eqKeep.con (laws_eqKeep.c (R := R) k)) := con_ok E_orders E_eqs (GOk.cons laws_eqNoteS.cb (laws_eqNoteS.ok B k) (GOk.cons laws_eqMarkS.cb (laws_eqMarkS.ok B k) GOk.nil)) Try.func28 (by kernel_rfl) laws_eqKeep.ds rfl (laws_eqKeep.run k)
theorem laws_markText.inn {R : Type} (f : laws_markText.T R) (a0 : Int) (K : Ret → Option R) : (laws_markText.con f).run [.val false [.s (.int .i64 a0)]] K = f a0 (fun r1 => K ⟨[.val false [.s (.string r1)]], []⟩) := by kernel_rfl
theorem laws_markText.run {R : Type} (k : Nat) (args : List RV) (K : Ret → Option R) (o : R) (h : (laws_markText.con (laws_markText.c k)).run args K = some o) : ∃ args', All2 TyRV args args' ∧ evFunc E (laws_markText.G ⟨()⟩) k laws_markText.H [] false Try.f41 args' K = some o := by
  unfold laws_markText.con at h
  simp only at h
  split at h
  · rename_i a0
    exact ⟨_, (.cons (.val (.cons .s .nil)) .nil), (laws_markText.evs ⟨()⟩ k a0 K).trans h⟩
  · cases h
theorem laws_markText.ds : dstB Try.f41.ntmps (bodyOf Try.f41) = true := by kernel_rfl
theorem laws_markText.cb : callB E.P 41 = true := by kernel_rfl
theorem laws_markText.ok {R : Type} (B : Base) (k : Nat) : ConOk E.P B 41 (laws_markText.con (laws_markText.c (R := R) k)) := con_ok E_orders E_eqs GOk.nil Try.func41 (by kernel_rfl) laws_markText.ds rfl (laws_markText.run k)
theorem laws_markNoteS.inn {R : Type} (f : laws_markNoteS.T R) (a0 : List (Int × Int × Int × Int × ByteArray)) (a1 : Int) (K : Ret → Option R) : (laws_markNoteS.con f).run [.val false [.row .ro [.int .i64, .int .i64, .int .i64, .int .i64, .str] a0], .val false [.s (.int .i64 a1)]] K = f a0 a1 (fun r1 r2 => K ⟨[.val false [.s (.int .i64 r1)]], [[.row .fix [.int .i64, .int .i64, .int .i64, .int .i64, .str] r2]]⟩) := by kernel_rfl
theorem laws_markNoteS.run {R : Type} (k : Nat) (args : List RV) (K : Ret → Option R) (o : R) (h : (laws_markNoteS.con (laws_markNoteS.c k)).run args K = some o) : ∃ args', All2 TyRV args args' ∧ evFunc E (laws_markNoteS.G ⟨(), laws_markText.c k⟩) k laws_markNoteS.H [0] false Try.f46 args' K = some o := by
  unfold laws_markNoteS.con at h
  simp only at h
  split at h
  · rename_i pa0 a1
    obtain ⟨a0, ta0, h⟩ := withRow_some (by simp) h
    exact ⟨_, (.cons (.val (.cons ta0 .nil)) (.cons (.val (.cons .s .nil)) .nil)), (laws_markNoteS.evs ⟨(), laws_markText.c k⟩ k a0 a1 K).trans h⟩
  · cases h
theorem laws_markNoteS.ds : dstB Try.f46.ntmps (bodyOf Try.f46) = true := by kernel_rfl
theorem laws_markNoteS.cb : callB E.P 46 = true := by kernel_rfl
theorem laws_markNoteS.ok {R : Type} (B : Base) (k : Nat) : ConOk E.P B 46 (laws_markNoteS.con (laws_markNoteS.c (R := R) k)) := con_ok E_orders E_eqs (GOk.cons laws_markText.cb (laws_markText.ok B k) GOk.nil) Try.func46 (by kernel_rfl) laws_markNoteS.ds rfl (laws_markNoteS.run k)
theorem laws_markMarkS.inn {R : Type} (f : laws_markMarkS.T R) (a0 : List (Int × Int × Int)) (a1 : Int) (K : Ret → Option R) : (laws_markMarkS.con f).run [.val false [.row .ro [.int .i64, .int .i64, .int .i64] a0], .val false [.s (.int .i64 a1)]] K = f a0 a1 (fun r1 r2 => K ⟨[.val false [.s (.int .i64 r1)]], [[.row .fix [.int .i64, .int .i64, .int .i64] r2]]⟩) := by kernel_rfl
theorem laws_markMarkS.run {R : Type} (k : Nat) (args : List RV) (K : Ret → Option R) (o : R) (h : (laws_markMarkS.con (laws_markMarkS.c k)).run args K = some o) : ∃ args', All2 TyRV args args' ∧ evFunc E (laws_markMarkS.G ⟨()⟩) k laws_markMarkS.H [0] false Try.f47 args' K = some o := by
  unfold laws_markMarkS.con at h
  simp only at h
  split at h
  · rename_i pa0 a1
    obtain ⟨a0, ta0, h⟩ := withRow_some (by simp) h
    exact ⟨_, (.cons (.val (.cons ta0 .nil)) (.cons (.val (.cons .s .nil)) .nil)), (laws_markMarkS.evs ⟨()⟩ k a0 a1 K).trans h⟩
  · cases h
theorem laws_markMarkS.ds : dstB Try.f47.ntmps (bodyOf Try.f47) = true := by kernel_rfl
theorem laws_markMarkS.cb : callB E.P 47 = true := by kernel_rfl
theorem laws_markMarkS.ok {R : Type} (B : Base) (k : Nat) : ConOk E.P B 47 (laws_markMarkS.con (laws_markMarkS.c (R := R) k)) := con_ok E_orders E_eqs GOk.nil Try.func47 (by kernel_rfl) laws_markMarkS.ds rfl (laws_markMarkS.run k)
theorem laws_markKeep.inn {R : Type} (f : laws_markKeep.T R) (a0_0 : Int) (a0_1 : Int) (a0_2 : Int) (a0_3 : List (Int × Int × Int × Int × ByteArray)) (a0_4 : List (Int × Int × Int)) (a0_5 : List (Int × Int × Int × Int × ByteArray)) (a1 : Int) (K : Ret → Option R) : (laws_markKeep.con f).run [.val true [.s (.int .i64 a0_0), .s (.int .i64 a0_1), .s (.int .i64 a0_2), .row .ro [.int .i64, .int .i64, .int .i64, .int .i64, .str] a0_3, .row .ro [.int .i64, .int .i64, .int .i64] a0_4, .row .ro [.int .i64, .int .i64, .int .i64, .int .i64, .str] a0_5], .val false [.s (.int .i64 a1)]] K = f a0_0 a0_1 a0_2 a0_3 a0_4 a0_5 a1 (fun r1 r2 r3 r4 => K ⟨[.val false [.s (.int .i64 r1)]], [[.row .fix [.int .i64, .int .i64, .int .i64, .int .i64, .str] r2], [.row .fix [.int .i64, .int .i64, .int .i64] r3], [.row .fix [.int .i64, .int .i64, .int .i64, .int .i64, .str] r4]]⟩) := by kernel_rfl
theorem laws_markKeep.run {R : Type} (k : Nat) (args : List RV) (K : Ret → Option R) (o : R) (h : (laws_markKeep.con (laws_markKeep.c k)).run args K = some o) : ∃ args', All2 TyRV args args' ∧ evFunc E (laws_markKeep.G ⟨(), laws_markNoteS.c k, laws_markMarkS.c k⟩) k laws_markKeep.H [0] false Try.f29 args' K = some o := by
  unfold laws_markKeep.con at h
  simp only at h
  split at h
  · rename_i a0_0 a0_1 a0_2 pa0_3 pa0_4 pa0_5 a1
    obtain ⟨a0_3, ta0_3, h⟩ := withRow_some (by simp) h
    obtain ⟨a0_4, ta0_4, h⟩ := withRow_some (by simp) h
    obtain ⟨a0_5, ta0_5, h⟩ := withRow_some (by simp) h
    exact ⟨_, (.cons (.val (.cons .s (.cons .s (.cons .s (.cons ta0_3 (.cons ta0_4 (.cons ta0_5 .nil))))))) (.cons (.val (.cons .s .nil)) .nil)), (laws_markKeep.evs ⟨(), laws_markNoteS.c k, laws_markMarkS.c k⟩ k a0_0 a0_1 a0_2 a0_3 a0_4 a0_5 a1 K).trans h⟩
  · cases h
theorem laws_markKeep.ds : dstB Try.f29.ntmps (bodyOf Try.f29) = true := by kernel_rfl
theorem laws_markKeep.cb : callB E.P 29 = true := by kernel_rfl
theorem laws_markKeep.ok {R : Type} (B : Base) (k : Nat) : ConOk E.P B 29 (laws_markKeep.con (laws_markKeep.c (R := R) k)) := con_ok E_orders E_eqs (GOk.cons laws_markNoteS.cb (laws_markNoteS.ok B k) (GOk.cons laws_markMarkS.cb (laws_markMarkS.ok B k) GOk.nil)) Try.func29 (by kernel_rfl) laws_markKeep.ds rfl (laws_markKeep.run k)
theorem laws_heldNoteS.inn {R : Type} (f : laws_heldNoteS.T R) (a0 : List (Int × Int × Int × Int × ByteArray)) (a1 : Int) (K : Ret → Option R) : (laws_heldNoteS.con f).run [.val false [.row .ro [.int .i64, .int .i64, .int .i64, .int .i64, .str] a0], .val false [.s (.int .i64 a1)]] K = f a0 a1 (fun r1 => K ⟨[.val false [.s (.int .i64 r1)]], []⟩) := by kernel_rfl
theorem laws_heldNoteS.run {R : Type} (k : Nat) (args : List RV) (K : Ret → Option R) (o : R) (h : (laws_heldNoteS.con (laws_heldNoteS.c k)).run args K = some o) : ∃ args', All2 TyRV args args' ∧ evFunc E (laws_heldNoteS.G ⟨(), laws_markText.c k⟩) k laws_heldNoteS.H [] false Try.f48 args' K = some o := by
  unfold laws_heldNoteS.con at h
  simp only at h
  split at h
  · rename_i pa0 a1
    obtain ⟨a0, ta0, h⟩ := withRow_some (by simp) h
    exact ⟨_, (.cons (.val (.cons ta0 .nil)) (.cons (.val (.cons .s .nil)) .nil)), (laws_heldNoteS.evs ⟨(), laws_markText.c k⟩ k a0 a1 K).trans h⟩
  · cases h
theorem laws_heldNoteS.ds : dstB Try.f48.ntmps (bodyOf Try.f48) = true := by kernel_rfl
theorem laws_heldNoteS.cb : callB E.P 48 = true := by kernel_rfl
theorem laws_heldNoteS.ok {R : Type} (B : Base) (k : Nat) : ConOk E.P B 48 (laws_heldNoteS.con (laws_heldNoteS.c (R := R) k)) := con_ok E_orders E_eqs (GOk.cons laws_markText.cb (laws_markText.ok B k) GOk.nil) Try.func48 (by kernel_rfl) laws_heldNoteS.ds rfl (laws_heldNoteS.run k)
theorem laws_heldMarkS.inn {R : Type} (f : laws_heldMarkS.T R) (a0 : List (Int × Int × Int)) (a1 : Int) (K : Ret → Option R) : (laws_heldMarkS.con f).run [.val false [.row .ro [.int .i64, .int .i64, .int .i64] a0], .val false [.s (.int .i64 a1)]] K = f a0 a1 (fun r1 => K ⟨[.val false [.s (.int .i64 r1)]], []⟩) := by kernel_rfl
theorem laws_heldMarkS.run {R : Type} (k : Nat) (args : List RV) (K : Ret → Option R) (o : R) (h : (laws_heldMarkS.con (laws_heldMarkS.c k)).run args K = some o) : ∃ args', All2 TyRV args args' ∧ evFunc E (laws_heldMarkS.G ⟨()⟩) k laws_heldMarkS.H [] false Try.f49 args' K = some o := by
  unfold laws_heldMarkS.con at h
  simp only at h
  split at h
  · rename_i pa0 a1
    obtain ⟨a0, ta0, h⟩ := withRow_some (by simp) h
    exact ⟨_, (.cons (.val (.cons ta0 .nil)) (.cons (.val (.cons .s .nil)) .nil)), (laws_heldMarkS.evs ⟨()⟩ k a0 a1 K).trans h⟩
  · cases h
theorem laws_heldMarkS.ds : dstB Try.f49.ntmps (bodyOf Try.f49) = true := by kernel_rfl
theorem laws_heldMarkS.cb : callB E.P 49 = true := by kernel_rfl
theorem laws_heldMarkS.ok {R : Type} (B : Base) (k : Nat) : ConOk E.P B 49 (laws_heldMarkS.con (laws_heldMarkS.c (R := R) k)) := con_ok E_orders E_eqs GOk.nil Try.func49 (by kernel_rfl) laws_heldMarkS.ds rfl (laws_heldMarkS.run k)
theorem laws_heldKeep.inn {R : Type} (f : laws_heldKeep.T R) (a0_0 : Int) (a0_1 : Int) (a0_2 : Int) (a0_3 : List (Int × Int × Int × Int × ByteArray)) (a0_4 : List (Int × Int × Int)) (a0_5 : List (Int × Int × Int × Int × ByteArray)) (a1 : Int) (K : Ret → Option R) : (laws_heldKeep.con f).run [.val true [.s (.int .i64 a0_0), .s (.int .i64 a0_1), .s (.int .i64 a0_2), .row .ro [.int .i64, .int .i64, .int .i64, .int .i64, .str] a0_3, .row .ro [.int .i64, .int .i64, .int .i64] a0_4, .row .ro [.int .i64, .int .i64, .int .i64, .int .i64, .str] a0_5], .val false [.s (.int .i64 a1)]] K = f a0_0 a0_1 a0_2 a0_3 a0_4 a0_5 a1 (fun r1 => K ⟨[.val false [.s (.int .i64 r1)]], []⟩) := by kernel_rfl
theorem laws_heldKeep.run {R : Type} (k : Nat) (args : List RV) (K : Ret → Option R) (o : R) (h : (laws_heldKeep.con (laws_heldKeep.c k)).run args K = some o) : ∃ args', All2 TyRV args args' ∧ evFunc E (laws_heldKeep.G ⟨(), laws_heldNoteS.c k, laws_heldMarkS.c k⟩) k laws_heldKeep.H [] false Try.f30 args' K = some o := by
  unfold laws_heldKeep.con at h
  simp only at h
  split at h
  · rename_i a0_0 a0_1 a0_2 pa0_3 pa0_4 pa0_5 a1
    obtain ⟨a0_3, ta0_3, h⟩ := withRow_some (by simp) h
    obtain ⟨a0_4, ta0_4, h⟩ := withRow_some (by simp) h
    obtain ⟨a0_5, ta0_5, h⟩ := withRow_some (by simp) h
    exact ⟨_, (.cons (.val (.cons .s (.cons .s (.cons .s (.cons ta0_3 (.cons ta0_4 (.cons ta0_5 .nil))))))) (.cons (.val (.cons .s .nil)) .nil)), (laws_heldKeep.evs ⟨(), laws_heldNoteS.c k, laws_heldMarkS.c k⟩ k a0_0 a0_1 a0_2 a0_3 a0_4 a0_5 a1 K).trans h⟩
  · cases h
theorem laws_heldKeep.ds : dstB Try.f30.ntmps (bodyOf Try.f30) = true := by kernel_rfl
theorem laws_heldKeep.cb : callB E.P 30 = true := by kernel_rfl
theorem laws_heldKeep.ok {R : Type} (B : Base) (k : Nat) : ConOk E.P B 30 (laws_heldKeep.con (laws_heldKeep.c (R := R) k)) := con_ok E_orders E_eqs (GOk.cons laws_heldNoteS.cb (laws_heldNoteS.ok B k) (GOk.cons laws_heldMarkS.cb (laws_heldMarkS.ok B k) GOk.nil)) Try.func30 (by kernel_rfl) laws_heldKeep.ds rfl (laws_heldKeep.run k)
theorem laws_FnExactKeepStart.inn {R : Type} (f : laws_FnExactKeepStart.T R) (a0 : Int) (K : Ret → Option R) : (laws_FnExactKeepStart.con f).run [.val false [.s (.int .i64 a0)]] K = f a0 (fun r1 => K ⟨[.val false [.s (.bool r1)]], []⟩) := by kernel_rfl
theorem laws_FnExactKeepStart.run {R : Type} (k : Nat) (args : List RV) (K : Ret → Option R) (o : R) (h : (laws_FnExactKeepStart.con (laws_FnExactKeepStart.c k)).run args K = some o) : ∃ args', All2 TyRV args args' ∧ evFunc E (laws_FnExactKeepStart.G ⟨(), spec_KeepStart.c k, impl_KeepStart.c k, laws_eqKeep.c k, laws_markKeep.c k, laws_heldKeep.c k⟩) k laws_FnExactKeepStart.H [] false Try.f7 args' K = some o := by
  unfold laws_FnExactKeepStart.con at h
  simp only at h
  split at h
  · rename_i a0
    exact ⟨_, (.cons (.val (.cons .s .nil)) .nil), (laws_FnExactKeepStart.evs ⟨(), spec_KeepStart.c k, impl_KeepStart.c k, laws_eqKeep.c k, laws_markKeep.c k, laws_heldKeep.c k⟩ k a0 K).trans h⟩
  · cases h
theorem laws_FnExactKeepStart.ds : dstB Try.f7.ntmps (bodyOf Try.f7) = true := by kernel_rfl
theorem laws_FnExactKeepStart.cb : callB E.P 7 = true := by kernel_rfl
theorem laws_FnExactKeepStart.ok {R : Type} (B : Base) (k : Nat) : ConOk E.P B 7 (laws_FnExactKeepStart.con (laws_FnExactKeepStart.c (R := R) k)) := con_ok E_orders E_eqs (GOk.cons spec_KeepStart.cb (spec_KeepStart.ok B k) (GOk.cons impl_KeepStart.cb (impl_KeepStart.ok B k) (GOk.cons laws_eqKeep.cb (laws_eqKeep.ok B k) (GOk.cons laws_markKeep.cb (laws_markKeep.ok B k) (GOk.cons laws_heldKeep.cb (laws_heldKeep.ok B k) GOk.nil))))) Try.func7 (by kernel_rfl) laws_FnExactKeepStart.ds rfl (laws_FnExactKeepStart.run k)
end Go.Ev.F
