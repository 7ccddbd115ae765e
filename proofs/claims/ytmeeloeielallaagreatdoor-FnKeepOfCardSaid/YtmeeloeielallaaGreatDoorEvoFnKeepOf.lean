/- What the Go functions compute is what the machine does. No condition. Written by a program of this session. -/
import Derived.Test.YtmeeloeielallaaGreatDoorEvtFnKeepOf
import Derived.Test.YtmeeloeielallaaGreatDoorSoE
import Derived.Test.YtmeeloeielallaaGreatDoorExt
import Derived.Test.YtmeeloeielallaaGreatDoorShf
namespace Go.Ev.F
open Go.Proofs
set_option linter.unusedVariables false
set_option maxRecDepth 100000
variable {R : Type}
theorem E_orders : E.P.follows .mixedOrders = true := by kernel_rfl
theorem E_eqs : ∀ t ∈ E.eqs, eqFree E.P t = true := List.all_eq_true.mp (by kernel_rfl)
theorem spec_l6In.run (k : Nat) (args : List RV) (K : Ret → Option R) (o : R) (h : (spec_l6In.con (spec_l6In.c k)).run args K = some o) : ∃ args', All2 TyRV args args' ∧ evFunc E (spec_l6In.G (spec_l6In.g k)) k spec_l6In.H [] false Tryz.f52 args' K = some o := by
  unfold spec_l6In.con at h
  simp only at h
  split at h
  · rename_i a0 a1 a2
    exact ⟨_, (.cons (.val (.cons .s .nil)) (.cons (.val (.cons .s .nil)) (.cons (.val (.cons .s .nil)) .nil))), (spec_l6In.evs (spec_l6In.g k) k a0 a1 a2 K).trans h⟩
  · cases h
theorem spec_l6In.ds : dstB Tryz.f52.ntmps (bodyOf Tryz.f52) = true := by kernel_rfl
theorem spec_l6In.cb : callB E.P 52 = true := by kernel_rfl
theorem spec_l6In.ok (B : Base) (k : Nat) : ConOk E.P B 52 (spec_l6In.con (spec_l6In.c (R := R) k)) := con_ok E_orders E_eqs GOk.nil Tryz.func52 (by kernel_rfl) spec_l6In.ds rfl (spec_l6In.run k)
theorem spec_l3Keeper.run (k : Nat) (args : List RV) (K : Ret → Option R) (o : R) (h : (spec_l3Keeper.con (spec_l3Keeper.c k)).run args K = some o) : ∃ args', All2 TyRV args args' ∧ evFunc E (spec_l3Keeper.G (spec_l3Keeper.g k)) k spec_l3Keeper.H [] false Tryz.f26 args' K = some o := by
  unfold spec_l3Keeper.con at h
  simp only at h
  split at h
  · rename_i a0
    exact ⟨_, (.cons (.val (.cons .s .nil)) .nil), (spec_l3Keeper.evs (spec_l3Keeper.g k) k a0 K).trans h⟩
  · cases h
theorem spec_l3Keeper.ds : dstB Tryz.f26.ntmps (bodyOf Tryz.f26) = true := by kernel_rfl
theorem spec_l3Keeper.cb : callB E.P 26 = true := by kernel_rfl
theorem spec_l3Keeper.ok (B : Base) (k : Nat) : ConOk E.P B 26 (spec_l3Keeper.con (spec_l3Keeper.c (R := R) k)) := con_ok E_orders E_eqs (GOk.cons spec_l6In.cb (spec_l6In.ok B k) GOk.nil) Tryz.func26 (by kernel_rfl) spec_l3Keeper.ds rfl (spec_l3Keeper.run k)
theorem spec_KeepStart.run (k : Nat) (args : List RV) (K : Ret → Option R) (o : R) (h : (spec_KeepStart.con (spec_KeepStart.c k)).run args K = some o) : ∃ args', All2 TyRV args args' ∧ evFunc E (spec_KeepStart.G (spec_KeepStart.g k)) k spec_KeepStart.H [] false Tryz.f12 args' K = some o := by
  unfold spec_KeepStart.con at h
  simp only at h
  split at h
  · rename_i a0
    exact ⟨_, (.cons (.val (.cons .s .nil)) .nil), (spec_KeepStart.evs (spec_KeepStart.g k) k a0 K).trans h⟩
  · cases h
theorem spec_KeepStart.ds : dstB Tryz.f12.ntmps (bodyOf Tryz.f12) = true := by kernel_rfl
theorem spec_KeepStart.cb : callB E.P 12 = true := by kernel_rfl
theorem spec_KeepStart.ok (B : Base) (k : Nat) : ConOk E.P B 12 (spec_KeepStart.con (spec_KeepStart.c (R := R) k)) := con_ok E_orders E_eqs (GOk.cons spec_l3Keeper.cb (spec_l3Keeper.ok B k) GOk.nil) Tryz.func12 (by kernel_rfl) spec_KeepStart.ds rfl (spec_KeepStart.run k)
theorem spec_NoteOk.run (k : Nat) (args : List RV) (K : Ret → Option R) (o : R) (h : (spec_NoteOk.con (spec_NoteOk.c k)).run args K = some o) : ∃ args', All2 TyRV args args' ∧ evFunc E (spec_NoteOk.G (spec_NoteOk.g k)) k spec_NoteOk.H [] false Tryz.f90 args' K = some o := by
  unfold spec_NoteOk.con at h
  simp only at h
  split at h
  · rename_i A B C D F
    exact ⟨_, (.cons (.val (.cons .s (.cons .s (.cons .s (.cons .s (.cons .s .nil)))))) .nil), (spec_NoteOk.evs (spec_NoteOk.g k) k A B C D F K).trans h⟩
  · cases h
theorem spec_NoteOk.ds : dstB Tryz.f90.ntmps (bodyOf Tryz.f90) = true := by kernel_rfl
theorem spec_NoteOk.cb : callB E.P 90 = true := by kernel_rfl
theorem spec_NoteOk.ok (B : Base) (k : Nat) : ConOk E.P B 90 (spec_NoteOk.con (spec_NoteOk.c (R := R) k)) := con_ok E_orders E_eqs (GOk.cons spec_l3Keeper.cb (spec_l3Keeper.ok B k) (GOk.cons spec_l6In.cb (spec_l6In.ok B k) GOk.nil)) Tryz.func90 (by kernel_rfl) spec_NoteOk.ds rfl (spec_NoteOk.run k)
theorem spec_l12Less.run (k : Nat) (args : List RV) (K : Ret → Option R) (o : R) (h : (spec_l12Less.con (spec_l12Less.c k)).run args K = some o) : ∃ args', All2 TyRV args args' ∧ evFunc E (spec_l12Less.G (spec_l12Less.g k)) k spec_l12Less.H [] false Tryz.f105 args' K = some o := by
  unfold spec_l12Less.con at h
  simp only at h
  split at h
  · rename_i a0 a1 a2 a3
    exact ⟨_, (.cons (.val (.cons .s .nil)) (.cons (.val (.cons .s .nil)) (.cons (.val (.cons .s .nil)) (.cons (.val (.cons .s .nil)) .nil)))), (spec_l12Less.evs (spec_l12Less.g k) k a0 a1 a2 a3 K).trans h⟩
  · cases h
theorem spec_l12Less.ds : dstB Tryz.f105.ntmps (bodyOf Tryz.f105) = true := by kernel_rfl
theorem spec_l12Less.cb : callB E.P 105 = true := by kernel_rfl
theorem spec_l12Less.ok (B : Base) (k : Nat) : ConOk E.P B 105 (spec_l12Less.con (spec_l12Less.c (R := R) k)) := con_ok E_orders E_eqs GOk.nil Tryz.func105 (by kernel_rfl) spec_l12Less.ds rfl (spec_l12Less.run k)
theorem spec_l12Notes.run (k : Nat) (args : List RV) (K : Ret → Option R) (o : R) (h : (spec_l12Notes.con (spec_l12Notes.c k)).run args K = some o) : ∃ args', All2 TyRV args args' ∧ evFunc E (spec_l12Notes.G (spec_l12Notes.g k)) k spec_l12Notes.H [] false Tryz.f71 args' K = some o := by
  unfold spec_l12Notes.con at h
  simp only at h
  split at h
  · rename_i pa0 a1
    obtain ⟨a0, ta0, h⟩ := withRow_some (by simp) h
    exact ⟨_, (.cons (.val (.cons ta0 .nil)) (.cons (.val (.cons .s .nil)) .nil)), (spec_l12Notes.evs (spec_l12Notes.g k) k a0 a1 K).trans h⟩
  · cases h
theorem spec_l12Notes.ds : dstB Tryz.f71.ntmps (bodyOf Tryz.f71) = true := by kernel_rfl
theorem spec_l12Notes.cb : callB E.P 71 = true := by kernel_rfl
theorem spec_l12Notes.ok (B : Base) (k : Nat) : ConOk E.P B 71 (spec_l12Notes.con (spec_l12Notes.c (R := R) k)) := con_ok E_orders E_eqs (GOk.cons spec_NoteOk.cb (spec_NoteOk.ok B k) (GOk.cons spec_l12Less.cb (spec_l12Less.ok B k) GOk.nil)) Tryz.func71 (by kernel_rfl) spec_l12Notes.ds rfl (spec_l12Notes.run k)
theorem spec_l12Marks.run (k : Nat) (args : List RV) (K : Ret → Option R) (o : R) (h : (spec_l12Marks.con (spec_l12Marks.c k)).run args K = some o) : ∃ args', All2 TyRV args args' ∧ evFunc E (spec_l12Marks.G (spec_l12Marks.g k)) k spec_l12Marks.H [] false Tryz.f72 args' K = some o := by
  unfold spec_l12Marks.con at h
  simp only at h
  split at h
  · rename_i pa0
    obtain ⟨a0, ta0, h⟩ := withRow_some (by simp) h
    exact ⟨_, (.cons (.val (.cons ta0 .nil)) .nil), (spec_l12Marks.evs (spec_l12Marks.g k) k a0 K).trans h⟩
  · cases h
theorem spec_l12Marks.ds : dstB Tryz.f72.ntmps (bodyOf Tryz.f72) = true := by kernel_rfl
theorem spec_l12Marks.cb : callB E.P 72 = true := by kernel_rfl
theorem spec_l12Marks.ok (B : Base) (k : Nat) : ConOk E.P B 72 (spec_l12Marks.con (spec_l12Marks.c (R := R) k)) := con_ok E_orders E_eqs (GOk.cons spec_l3Keeper.cb (spec_l3Keeper.ok B k) (GOk.cons spec_l6In.cb (spec_l6In.ok B k) (GOk.cons spec_l12Less.cb (spec_l12Less.ok B k) GOk.nil))) Tryz.func72 (by kernel_rfl) spec_l12Marks.ds rfl (spec_l12Marks.run k)
theorem spec_l12Way.run (k : Nat) (args : List RV) (K : Ret → Option R) (o : R) (h : (spec_l12Way.con (spec_l12Way.c k)).run args K = some o) : ∃ args', All2 TyRV args args' ∧ evFunc E (spec_l12Way.G (spec_l12Way.g k)) k spec_l12Way.H [] false Tryz.f73 args' K = some o := by
  unfold spec_l12Way.con at h
  simp only at h
  split at h
  · rename_i A B C D F a1
    exact ⟨_, (.cons (.val (.cons .s (.cons .s (.cons .s (.cons .s (.cons .s .nil)))))) (.cons (.val (.cons .s .nil)) .nil)), (spec_l12Way.evs (spec_l12Way.g k) k A B C D F a1 K).trans h⟩
  · cases h
theorem spec_l12Way.ds : dstB Tryz.f73.ntmps (bodyOf Tryz.f73) = true := by kernel_rfl
theorem spec_l12Way.cb : callB E.P 73 = true := by kernel_rfl
theorem spec_l12Way.ok (B : Base) (k : Nat) : ConOk E.P B 73 (spec_l12Way.con (spec_l12Way.c (R := R) k)) := con_ok E_orders E_eqs GOk.nil Tryz.func73 (by kernel_rfl) spec_l12Way.ds rfl (spec_l12Way.run k)
theorem spec_l12Mark.run (k : Nat) (args : List RV) (K : Ret → Option R) (o : R) (h : (spec_l12Mark.con (spec_l12Mark.c k)).run args K = some o) : ∃ args', All2 TyRV args args' ∧ evFunc E (spec_l12Mark.G (spec_l12Mark.g k)) k spec_l12Mark.H [] false Tryz.f74 args' K = some o := by
  unfold spec_l12Mark.con at h
  simp only at h
  split at h
  · rename_i pa0 a1 a2
    obtain ⟨a0, ta0, h⟩ := withRow_some (by simp) h
    exact ⟨_, (.cons (.val (.cons ta0 .nil)) (.cons (.val (.cons .s .nil)) (.cons (.val (.cons .s .nil)) .nil))), (spec_l12Mark.evs (spec_l12Mark.g k) k a0 a1 a2 K).trans h⟩
  · cases h
theorem spec_l12Mark.ds : dstB Tryz.f74.ntmps (bodyOf Tryz.f74) = true := by kernel_rfl
theorem spec_l12Mark.cb : callB E.P 74 = true := by kernel_rfl
theorem spec_l12Mark.ok (B : Base) (k : Nat) : ConOk E.P B 74 (spec_l12Mark.con (spec_l12Mark.c (R := R) k)) := con_ok E_orders E_eqs GOk.nil Tryz.func74 (by kernel_rfl) spec_l12Mark.ds rfl (spec_l12Mark.run k)
theorem spec_KeepOk.run (k : Nat) (args : List RV) (K : Ret → Option R) (o : R) (h : (spec_KeepOk.con (spec_KeepOk.c k)).run args K = some o) : ∃ args', All2 TyRV args args' ∧ evFunc E (spec_KeepOk.G (spec_KeepOk.g k)) k spec_KeepOk.H [] false Tryz.f42 args' K = some o := by
  unfold spec_KeepOk.con at h
  simp only at h
  split at h
  · rename_i A B C P Q S
    obtain ⟨D, F, h⟩ := withRow_some (by simp) h
    obtain ⟨J, M, h⟩ := withRow_some (by simp) h
    obtain ⟨N, O, h⟩ := withRow_some (by simp) h
    exact ⟨_, (.cons (.val (.cons .s (.cons .s (.cons .s (.cons F (.cons M (.cons O .nil))))))) .nil), (spec_KeepOk.evs (spec_KeepOk.g k) k A B C D J N K).trans h⟩
  · cases h
theorem spec_KeepOk.ds : dstB Tryz.f42.ntmps (bodyOf Tryz.f42) = true := by kernel_rfl
theorem spec_KeepOk.cb : callB E.P 42 = true := by kernel_rfl
theorem spec_KeepOk.ok (B : Base) (k : Nat) : ConOk E.P B 42 (spec_KeepOk.con (spec_KeepOk.c (R := R) k)) := con_ok E_orders E_eqs (GOk.cons spec_l3Keeper.cb (spec_l3Keeper.ok B k) (GOk.cons spec_l6In.cb (spec_l6In.ok B k) (GOk.cons spec_l12Notes.cb (spec_l12Notes.ok B k) (GOk.cons spec_l12Marks.cb (spec_l12Marks.ok B k) (GOk.cons spec_l12Way.cb (spec_l12Way.ok B k) (GOk.cons spec_l12Mark.cb (spec_l12Mark.ok B k) GOk.nil)))))) Tryz.func42 (by kernel_rfl) spec_KeepOk.ds rfl (spec_KeepOk.run k)
theorem spec_l6Dec.run (k : Nat) (args : List RV) (K : Ret → Option R) (o : R) (h : (spec_l6Dec.con (spec_l6Dec.c (k + 1))).run args K = some o) : ∃ args', All2 TyRV args args' ∧ evFunc E (spec_l6Dec.G ⟨(), spec_l6Dec.c k⟩) k spec_l6Dec.H [] false Tryz.f48 args' K = some o := by
  unfold spec_l6Dec.con at h
  simp only at h
  split at h
  · rename_i a0
    exact ⟨_, (.cons (.val (.cons .s .nil)) .nil), (spec_l6Dec.evs ⟨(), spec_l6Dec.c k⟩ k a0 K).trans h⟩
  · cases h
theorem spec_l6Dec.ds : dstB Tryz.f48.ntmps (bodyOf Tryz.f48) = true := by kernel_rfl
theorem spec_l6Dec.cb : callB E.P 48 = true := by kernel_rfl
theorem spec_l6Dec.ok (B : Base) : ∀ k, ConOk E.P B 48 (spec_l6Dec.con (spec_l6Dec.c (R := R) k))
  | 0 => by
    intro args K o h
    exfalso
    unfold spec_l6Dec.con at h
    simp only at h
    split at h
    · cases h
    · cases h
  | k + 1 => by
    have ih := spec_l6Dec.ok B k
    exact con_ok E_orders E_eqs (GOk.cons spec_l6Dec.cb ih GOk.nil) Tryz.func48 (by kernel_rfl) spec_l6Dec.ds rfl (spec_l6Dec.run k)
theorem spec_l3Word.run (k : Nat) (args : List RV) (K : Ret → Option R) (o : R) (h : (spec_l3Word.con (spec_l3Word.c k)).run args K = some o) : ∃ args', All2 TyRV args args' ∧ evFunc E (spec_l3Word.G (spec_l3Word.g k)) k spec_l3Word.H [] false Tryz.f75 args' K = some o := by
  unfold spec_l3Word.con at h
  simp only at h
  split at h
  · rename_i a0
    exact ⟨_, (.cons (.val (.cons .s .nil)) .nil), (spec_l3Word.evs (spec_l3Word.g k) k a0 K).trans h⟩
  · cases h
theorem spec_l3Word.ds : dstB Tryz.f75.ntmps (bodyOf Tryz.f75) = true := by kernel_rfl
theorem spec_l3Word.cb : callB E.P 75 = true := by kernel_rfl
theorem spec_l3Word.ok (B : Base) (k : Nat) : ConOk E.P B 75 (spec_l3Word.con (spec_l3Word.c (R := R) k)) := con_ok E_orders E_eqs GOk.nil Tryz.func75 (by kernel_rfl) spec_l3Word.ds rfl (spec_l3Word.run k)
theorem spec_l3Dec.run (k : Nat) (args : List RV) (K : Ret → Option R) (o : R) (h : (spec_l3Dec.con (spec_l3Dec.c k)).run args K = some o) : ∃ args', All2 TyRV args args' ∧ evFunc E (spec_l3Dec.G (spec_l3Dec.g k)) k spec_l3Dec.H [] false Tryz.f76 args' K = some o := by
  unfold spec_l3Dec.con at h
  simp only at h
  split at h
  · rename_i a0
    exact ⟨_, (.cons (.val (.cons .s .nil)) .nil), (spec_l3Dec.evs (spec_l3Dec.g k) k a0 K).trans h⟩
  · cases h
theorem spec_l3Dec.ds : dstB Tryz.f76.ntmps (bodyOf Tryz.f76) = true := by kernel_rfl
theorem spec_l3Dec.cb : callB E.P 76 = true := by kernel_rfl
theorem spec_l3Dec.ok (B : Base) (k : Nat) : ConOk E.P B 76 (spec_l3Dec.con (spec_l3Dec.c (R := R) k)) := con_ok E_orders E_eqs (GOk.cons spec_l6Dec.cb (spec_l6Dec.ok B k) GOk.nil) Tryz.func76 (by kernel_rfl) spec_l3Dec.ds rfl (spec_l3Dec.run k)
theorem spec_l12Time.run (k : Nat) (args : List RV) (K : Ret → Option R) (o : R) (h : (spec_l12Time.con (spec_l12Time.c k)).run args K = some o) : ∃ args', All2 TyRV args args' ∧ evFunc E (spec_l12Time.G (spec_l12Time.g k)) k spec_l12Time.H [] false Tryz.f77 args' K = some o := by
  unfold spec_l12Time.con at h
  simp only at h
  split at h
  · rename_i A B C P Q S a1
    obtain ⟨D, F, h⟩ := withRow_some (by simp) h
    obtain ⟨J, M, h⟩ := withRow_some (by simp) h
    obtain ⟨N, O, h⟩ := withRow_some (by simp) h
    exact ⟨_, (.cons (.val (.cons .s (.cons .s (.cons .s (.cons F (.cons M (.cons O .nil))))))) (.cons (.val (.cons .s .nil)) .nil)), (spec_l12Time.evs (spec_l12Time.g k) k A B C D J N a1 K).trans h⟩
  · cases h
theorem spec_l12Time.ds : dstB Tryz.f77.ntmps (bodyOf Tryz.f77) = true := by kernel_rfl
theorem spec_l12Time.cb : callB E.P 77 = true := by kernel_rfl
theorem spec_l12Time.ok (B : Base) (k : Nat) : ConOk E.P B 77 (spec_l12Time.con (spec_l12Time.c (R := R) k)) := con_ok E_orders E_eqs GOk.nil Tryz.func77 (by kernel_rfl) spec_l12Time.ds rfl (spec_l12Time.run k)
theorem spec_NoteWrite.run (k : Nat) (args : List RV) (K : Ret → Option R) (o : R) (h : (spec_NoteWrite.con (spec_NoteWrite.c k)).run args K = some o) : ∃ args', All2 TyRV args args' ∧ evFunc E (spec_NoteWrite.G (spec_NoteWrite.g k)) k spec_NoteWrite.H [] false Tryz.f49 args' K = some o := by
  unfold spec_NoteWrite.con at h
  simp only at h
  split at h
  · rename_i A B C D F
    exact ⟨_, (.cons (.val (.cons .s (.cons .s (.cons .s (.cons .s (.cons .s .nil)))))) .nil), (spec_NoteWrite.evs (spec_NoteWrite.g k) k A B C D F K).trans h⟩
  · cases h
theorem spec_NoteWrite.ds : dstB Tryz.f49.ntmps (bodyOf Tryz.f49) = true := by kernel_rfl
theorem spec_NoteWrite.cb : callB E.P 49 = true := by kernel_rfl
theorem spec_NoteWrite.ok (B : Base) (k : Nat) : ConOk E.P B 49 (spec_NoteWrite.con (spec_NoteWrite.c (R := R) k)) := con_ok E_orders E_eqs (GOk.cons spec_NoteOk.cb (spec_NoteOk.ok B k) (GOk.cons spec_l6Dec.cb (spec_l6Dec.ok B k) GOk.nil)) Tryz.func49 (by kernel_rfl) spec_NoteWrite.ds rfl (spec_NoteWrite.run k)
theorem spec_l3Nums.run (k : Nat) (args : List RV) (K : Ret → Option R) (o : R) (h : (spec_l3Nums.con (spec_l3Nums.c k)).run args K = some o) : ∃ args', All2 TyRV args args' ∧ evFunc E (spec_l3Nums.G (spec_l3Nums.g k)) k spec_l3Nums.H [] false Tryz.f82 args' K = some o := by
  unfold spec_l3Nums.con at h
  simp only at h
  split at h
  · rename_i a0 a1
    exact ⟨_, (.cons (.val (.cons .s .nil)) (.cons (.val (.cons .s .nil)) .nil)), (spec_l3Nums.evs (spec_l3Nums.g k) k a0 a1 K).trans h⟩
  · cases h
theorem spec_l3Nums.ds : dstB Tryz.f82.ntmps (bodyOf Tryz.f82) = true := by kernel_rfl
theorem spec_l3Nums.cb : callB E.P 82 = true := by kernel_rfl
theorem spec_l3Nums.ok (B : Base) (k : Nat) : ConOk E.P B 82 (spec_l3Nums.con (spec_l3Nums.c (R := R) k)) := con_ok E_orders E_eqs (GOk.cons spec_l3Word.cb (spec_l3Word.ok B k) (GOk.cons spec_l3Dec.cb (spec_l3Dec.ok B k) GOk.nil)) Tryz.func82 (by kernel_rfl) spec_l3Nums.ds rfl (spec_l3Nums.run k)
theorem spec_NoteRead.run (k : Nat) (args : List RV) (K : Ret → Option R) (o : R) (h : (spec_NoteRead.con (spec_NoteRead.c k)).run args K = some o) : ∃ args', All2 TyRV args args' ∧ evFunc E (spec_NoteRead.G (spec_NoteRead.g k)) k spec_NoteRead.H [] false Tryz.f78 args' K = some o := by
  unfold spec_NoteRead.con at h
  simp only at h
  split at h
  · rename_i a0
    exact ⟨_, (.cons (.val (.cons .s .nil)) .nil), (spec_NoteRead.evs (spec_NoteRead.g k) k a0 K).trans h⟩
  · cases h
theorem spec_NoteRead.ds : dstB Tryz.f78.ntmps (bodyOf Tryz.f78) = true := by kernel_rfl
theorem spec_NoteRead.cb : callB E.P 78 = true := by kernel_rfl
theorem spec_NoteRead.ok (B : Base) (k : Nat) : ConOk E.P B 78 (spec_NoteRead.con (spec_NoteRead.c (R := R) k)) := con_ok E_orders E_eqs (GOk.cons spec_l3Nums.cb (spec_l3Nums.ok B k) (GOk.cons spec_NoteWrite.cb (spec_NoteWrite.ok B k) GOk.nil)) Tryz.func78 (by kernel_rfl) spec_NoteRead.ds rfl (spec_NoteRead.run k)
theorem spec_l12PutNote.run (k : Nat) (args : List RV) (K : Ret → Option R) (o : R) (h : (spec_l12PutNote.con (spec_l12PutNote.c k)).run args K = some o) : ∃ args', All2 TyRV args args' ∧ evFunc E (spec_l12PutNote.G (spec_l12PutNote.g k)) k spec_l12PutNote.H [] false Tryz.f81 args' K = some o := by
  unfold spec_l12PutNote.con at h
  simp only at h
  split at h
  · rename_i pa0 A B C D F
    obtain ⟨a0, ta0, h⟩ := withRow_some (by simp) h
    exact ⟨_, (.cons (.val (.cons ta0 .nil)) (.cons (.val (.cons .s (.cons .s (.cons .s (.cons .s (.cons .s .nil)))))) .nil)), (spec_l12PutNote.evs (spec_l12PutNote.g k) k a0 A B C D F K).trans h⟩
  · cases h
theorem spec_l12PutNote.ds : dstB Tryz.f81.ntmps (bodyOf Tryz.f81) = true := by kernel_rfl
theorem spec_l12PutNote.cb : callB E.P 81 = true := by kernel_rfl
theorem spec_l12PutNote.ok (B : Base) (k : Nat) : ConOk E.P B 81 (spec_l12PutNote.con (spec_l12PutNote.c (R := R) k)) := con_ok E_orders E_eqs (GOk.cons spec_l12Less.cb (spec_l12Less.ok B k) GOk.nil) Tryz.func81 (by kernel_rfl) spec_l12PutNote.ds rfl (spec_l12PutNote.run k)
theorem spec_l12PutMark.run (k : Nat) (args : List RV) (K : Ret → Option R) (o : R) (h : (spec_l12PutMark.con (spec_l12PutMark.c k)).run args K = some o) : ∃ args', All2 TyRV args args' ∧ evFunc E (spec_l12PutMark.G (spec_l12PutMark.g k)) k spec_l12PutMark.H [] false Tryz.f85 args' K = some o := by
  unfold spec_l12PutMark.con at h
  simp only at h
  split at h
  · rename_i pa0 A B C
    obtain ⟨a0, ta0, h⟩ := withRow_some (by simp) h
    exact ⟨_, (.cons (.val (.cons ta0 .nil)) (.cons (.val (.cons .s (.cons .s (.cons .s .nil)))) .nil)), (spec_l12PutMark.evs (spec_l12PutMark.g k) k a0 A B C K).trans h⟩
  · cases h
theorem spec_l12PutMark.ds : dstB Tryz.f85.ntmps (bodyOf Tryz.f85) = true := by kernel_rfl
theorem spec_l12PutMark.cb : callB E.P 85 = true := by kernel_rfl
theorem spec_l12PutMark.ok (B : Base) (k : Nat) : ConOk E.P B 85 (spec_l12PutMark.con (spec_l12PutMark.c (R := R) k)) := con_ok E_orders E_eqs (GOk.cons spec_l12Less.cb (spec_l12Less.ok B k) GOk.nil) Tryz.func85 (by kernel_rfl) spec_l12PutMark.ds rfl (spec_l12PutMark.run k)
theorem spec_l12Held.run (k : Nat) (args : List RV) (K : Ret → Option R) (o : R) (h : (spec_l12Held.con (spec_l12Held.c k)).run args K = some o) : ∃ args', All2 TyRV args args' ∧ evFunc E (spec_l12Held.G (spec_l12Held.g k)) k spec_l12Held.H [] false Tryz.f80 args' K = some o := by
  unfold spec_l12Held.con at h
  simp only at h
  split at h
  · rename_i pa0 a1 a2
    obtain ⟨a0, ta0, h⟩ := withRow_some (by simp) h
    exact ⟨_, (.cons (.val (.cons ta0 .nil)) (.cons (.val (.cons .s .nil)) (.cons (.val (.cons .s .nil)) .nil))), (spec_l12Held.evs (spec_l12Held.g k) k a0 a1 a2 K).trans h⟩
  · cases h
theorem spec_l12Held.ds : dstB Tryz.f80.ntmps (bodyOf Tryz.f80) = true := by kernel_rfl
theorem spec_l12Held.cb : callB E.P 80 = true := by kernel_rfl
theorem spec_l12Held.ok (B : Base) (k : Nat) : ConOk E.P B 80 (spec_l12Held.con (spec_l12Held.c (R := R) k)) := con_ok E_orders E_eqs GOk.nil Tryz.func80 (by kernel_rfl) spec_l12Held.ds rfl (spec_l12Held.run k)
theorem spec_l12Fresh.run (k : Nat) (args : List RV) (K : Ret → Option R) (o : R) (h : (spec_l12Fresh.con (spec_l12Fresh.c k)).run args K = some o) : ∃ args', All2 TyRV args args' ∧ evFunc E (spec_l12Fresh.G (spec_l12Fresh.g k)) k spec_l12Fresh.H [] false Tryz.f106 args' K = some o := by
  unfold spec_l12Fresh.con at h
  simp only at h
  split at h
  · rename_i A B C X Y Z D F J M N
    obtain ⟨O, P, h⟩ := withRow_some (by simp) h
    obtain ⟨Q, S, h⟩ := withRow_some (by simp) h
    obtain ⟨U, W, h⟩ := withRow_some (by simp) h
    exact ⟨_, (.cons (.val (.cons .s (.cons .s (.cons .s (.cons P (.cons S (.cons W .nil))))))) (.cons (.val (.cons .s (.cons .s (.cons .s (.cons .s (.cons .s .nil)))))) .nil)), (spec_l12Fresh.evs (spec_l12Fresh.g k) k A B C O Q U D F J M N K).trans h⟩
  · cases h
theorem spec_l12Fresh.ds : dstB Tryz.f106.ntmps (bodyOf Tryz.f106) = true := by kernel_rfl
theorem spec_l12Fresh.cb : callB E.P 106 = true := by kernel_rfl
theorem spec_l12Fresh.ok (B : Base) (k : Nat) : ConOk E.P B 106 (spec_l12Fresh.con (spec_l12Fresh.c (R := R) k)) := con_ok E_orders E_eqs (GOk.cons spec_NoteOk.cb (spec_NoteOk.ok B k) (GOk.cons spec_l12Held.cb (spec_l12Held.ok B k) (GOk.cons spec_l12Mark.cb (spec_l12Mark.ok B k) GOk.nil))) Tryz.func106 (by kernel_rfl) spec_l12Fresh.ds rfl (spec_l12Fresh.run k)
theorem spec_l12Take.run (k : Nat) (args : List RV) (K : Ret → Option R) (o : R) (h : (spec_l12Take.con (spec_l12Take.c k)).run args K = some o) : ∃ args', All2 TyRV args args' ∧ evFunc E (spec_l12Take.G (spec_l12Take.g k)) k spec_l12Take.H [] true Tryz.f79 args' K = some o := by
  unfold spec_l12Take.con at h
  simp only at h
  split at h
  · rename_i A B C X Y Z D F J M N
    obtain ⟨O, P, h⟩ := withRow_some (by simp) h
    obtain ⟨Q, S, h⟩ := withRow_some (by simp) h
    obtain ⟨U, W, h⟩ := withRow_some (by simp) h
    exact ⟨_, (.cons (.val (.cons .s (.cons .s (.cons .s (.cons P (.cons S (.cons W .nil))))))) (.cons (.val (.cons .s (.cons .s (.cons .s (.cons .s (.cons .s .nil)))))) .nil)), (spec_l12Take.evs (spec_l12Take.g k) k A B C O Q U D F J M N K).trans h⟩
  · cases h
theorem spec_l12Take.ds : dstB Tryz.f79.ntmps (bodyOf Tryz.f79) = true := by kernel_rfl
theorem spec_l12Take.cb : callB E.P 79 = true := by kernel_rfl
theorem spec_l12Take.ok (B : Base) (k : Nat) : ConOk E.P B 79 (spec_l12Take.con (spec_l12Take.c (R := R) k)) := con_ok E_orders E_eqs (GOk.cons spec_l12Fresh.cb (spec_l12Fresh.ok B k) (GOk.cons spec_l12PutNote.cb (spec_l12PutNote.ok B k) (GOk.cons spec_l12PutMark.cb (spec_l12PutMark.ok B k) GOk.nil))) Tryz.func79 (by kernel_rfl) spec_l12Take.ds rfl (spec_l12Take.run k)
theorem spec_l12Let.run (k : Nat) (args : List RV) (K : Ret → Option R) (o : R) (h : (spec_l12Let.con (spec_l12Let.c k)).run args K = some o) : ∃ args', All2 TyRV args args' ∧ evFunc E (spec_l12Let.G (spec_l12Let.g k)) k spec_l12Let.H [] true Tryz.f83 args' K = some o := by
  unfold spec_l12Let.con at h
  simp only at h
  split at h
  · rename_i A B C P Q S a1 a2
    obtain ⟨D, F, h⟩ := withRow_some (by simp) h
    obtain ⟨J, M, h⟩ := withRow_some (by simp) h
    obtain ⟨N, O, h⟩ := withRow_some (by simp) h
    exact ⟨_, (.cons (.val (.cons .s (.cons .s (.cons .s (.cons F (.cons M (.cons O .nil))))))) (.cons (.val (.cons .s .nil)) (.cons (.val (.cons .s .nil)) .nil))), (spec_l12Let.evs (spec_l12Let.g k) k A B C D J N a1 a2 K).trans h⟩
  · cases h
theorem spec_l12Let.ds : dstB Tryz.f83.ntmps (bodyOf Tryz.f83) = true := by kernel_rfl
theorem spec_l12Let.cb : callB E.P 83 = true := by kernel_rfl
theorem spec_l12Let.ok (B : Base) (k : Nat) : ConOk E.P B 83 (spec_l12Let.con (spec_l12Let.c (R := R) k)) := con_ok E_orders E_eqs (GOk.cons spec_l12Held.cb (spec_l12Held.ok B k) (GOk.cons spec_l12PutMark.cb (spec_l12PutMark.ok B k) GOk.nil)) Tryz.func83 (by kernel_rfl) spec_l12Let.ds rfl (spec_l12Let.run k)
theorem spec_l12Eat.run (k : Nat) (args : List RV) (K : Ret → Option R) (o : R) (h : (spec_l12Eat.con (spec_l12Eat.c k)).run args K = some o) : ∃ args', All2 TyRV args args' ∧ evFunc E (spec_l12Eat.G (spec_l12Eat.g k)) k spec_l12Eat.H [] true Tryz.f84 args' K = some o := by
  unfold spec_l12Eat.con at h
  simp only at h
  split at h
  · rename_i A B C P Q S a1 a2
    obtain ⟨D, F, h⟩ := withRow_some (by simp) h
    obtain ⟨J, M, h⟩ := withRow_some (by simp) h
    obtain ⟨N, O, h⟩ := withRow_some (by simp) h
    exact ⟨_, (.cons (.val (.cons .s (.cons .s (.cons .s (.cons F (.cons M (.cons O .nil))))))) (.cons (.val (.cons .s .nil)) (.cons (.val (.cons .s .nil)) .nil))), (spec_l12Eat.evs (spec_l12Eat.g k) k A B C D J N a1 a2 K).trans h⟩
  · cases h
theorem spec_l12Eat.ds : dstB Tryz.f84.ntmps (bodyOf Tryz.f84) = true := by kernel_rfl
theorem spec_l12Eat.cb : callB E.P 84 = true := by kernel_rfl
theorem spec_l12Eat.ok (B : Base) (k : Nat) : ConOk E.P B 84 (spec_l12Eat.con (spec_l12Eat.c (R := R) k)) := con_ok E_orders E_eqs (GOk.cons spec_l12Held.cb (spec_l12Held.ok B k) GOk.nil) Tryz.func84 (by kernel_rfl) spec_l12Eat.ds rfl (spec_l12Eat.run k)
theorem spec_l12Rec.run (k : Nat) (args : List RV) (K : Ret → Option R) (o : R) (h : (spec_l12Rec.con (spec_l12Rec.c k)).run args K = some o) : ∃ args', All2 TyRV args args' ∧ evFunc E (spec_l12Rec.G (spec_l12Rec.g k)) k spec_l12Rec.H [] true Tryz.f43 args' K = some o := by
  unfold spec_l12Rec.con at h
  simp only at h
  split at h
  · rename_i A B C P Q S a1
    obtain ⟨D, F, h⟩ := withRow_some (by simp) h
    obtain ⟨J, M, h⟩ := withRow_some (by simp) h
    obtain ⟨N, O, h⟩ := withRow_some (by simp) h
    exact ⟨_, (.cons (.val (.cons .s (.cons .s (.cons .s (.cons F (.cons M (.cons O .nil))))))) (.cons (.val (.cons .s .nil)) .nil)), (spec_l12Rec.evs (spec_l12Rec.g k) k A B C D J N a1 K).trans h⟩
  · cases h
theorem spec_l12Rec.ds : dstB Tryz.f43.ntmps (bodyOf Tryz.f43) = true := by kernel_rfl
theorem spec_l12Rec.cb : callB E.P 43 = true := by kernel_rfl
theorem spec_l12Rec.ok (B : Base) (k : Nat) : ConOk E.P B 43 (spec_l12Rec.con (spec_l12Rec.c (R := R) k)) := con_ok E_orders E_eqs (GOk.cons spec_l3Word.cb (spec_l3Word.ok B k) (GOk.cons spec_l3Dec.cb (spec_l3Dec.ok B k) (GOk.cons spec_l12Time.cb (spec_l12Time.ok B k) (GOk.cons spec_NoteRead.cb (spec_NoteRead.ok B k) (GOk.cons spec_l12Take.cb (spec_l12Take.ok B k) (GOk.cons spec_l12Held.cb (spec_l12Held.ok B k) (GOk.cons spec_l12PutNote.cb (spec_l12PutNote.ok B k) (GOk.cons spec_l3Nums.cb (spec_l3Nums.ok B k) (GOk.cons spec_l6Dec.cb (spec_l6Dec.ok B k) (GOk.cons spec_l12Let.cb (spec_l12Let.ok B k) (GOk.cons spec_l12Eat.cb (spec_l12Eat.ok B k) (GOk.cons spec_l12Mark.cb (spec_l12Mark.ok B k) (GOk.cons spec_l12PutMark.cb (spec_l12PutMark.ok B k) GOk.nil))))))))))))) Tryz.func43 (by kernel_rfl) spec_l12Rec.ds rfl (spec_l12Rec.run k)
theorem spec_l12Copy.run (k : Nat) (args : List RV) (K : Ret → Option R) (o : R) (h : (spec_l12Copy.con (spec_l12Copy.c k)).run args K = some o) : ∃ args', All2 TyRV args args' ∧ evFunc E (spec_l12Copy.G (spec_l12Copy.g k)) k spec_l12Copy.H [] false Tryz.f44 args' K = some o := by
  unfold spec_l12Copy.con at h
  simp only at h
  split at h
  · rename_i A B C P Q S
    obtain ⟨D, F, h⟩ := withRow_some (by simp) h
    obtain ⟨J, M, h⟩ := withRow_some (by simp) h
    obtain ⟨N, O, h⟩ := withRow_some (by simp) h
    exact ⟨_, (.cons (.val (.cons .s (.cons .s (.cons .s (.cons F (.cons M (.cons O .nil))))))) .nil), (spec_l12Copy.evs (spec_l12Copy.g k) k A B C D J N K).trans h⟩
  · cases h
theorem spec_l12Copy.ds : dstB Tryz.f44.ntmps (bodyOf Tryz.f44) = true := by kernel_rfl
theorem spec_l12Copy.cb : callB E.P 44 = true := by kernel_rfl
theorem spec_l12Copy.ok (B : Base) (k : Nat) : ConOk E.P B 44 (spec_l12Copy.con (spec_l12Copy.c (R := R) k)) := con_ok E_orders E_eqs GOk.nil Tryz.func44 (by kernel_rfl) spec_l12Copy.ds rfl (spec_l12Copy.run k)
theorem spec_KeepDo.run (k : Nat) (args : List RV) (K : Ret → Option R) (o : R) (h : (spec_KeepDo.con (spec_KeepDo.c k)).run args K = some o) : ∃ args', All2 TyRV args args' ∧ evFunc E (spec_KeepDo.G (spec_KeepDo.g k)) k spec_KeepDo.H [] false Tryz.f21 args' K = some o := by
  unfold spec_KeepDo.con at h
  simp only at h
  split at h
  · rename_i A B C P Q S a1
    obtain ⟨D, F, h⟩ := withRow_some (by simp) h
    obtain ⟨J, M, h⟩ := withRow_some (by simp) h
    obtain ⟨N, O, h⟩ := withRow_some (by simp) h
    exact ⟨_, (.cons (.val (.cons .s (.cons .s (.cons .s (.cons F (.cons M (.cons O .nil))))))) (.cons (.val (.cons .s .nil)) .nil)), (spec_KeepDo.evs (spec_KeepDo.g k) k A B C D J N a1 K).trans h⟩
  · cases h
theorem spec_KeepDo.ds : dstB Tryz.f21.ntmps (bodyOf Tryz.f21) = true := by kernel_rfl
theorem spec_KeepDo.cb : callB E.P 21 = true := by kernel_rfl
theorem spec_KeepDo.ok (B : Base) (k : Nat) : ConOk E.P B 21 (spec_KeepDo.con (spec_KeepDo.c (R := R) k)) := con_ok E_orders E_eqs (GOk.cons spec_KeepOk.cb (spec_KeepOk.ok B k) (GOk.cons spec_l12Copy.cb (spec_l12Copy.ok B k) (GOk.cons spec_l12Rec.cb (spec_l12Rec.ok B k) GOk.nil))) Tryz.func21 (by kernel_rfl) spec_KeepDo.ds rfl (spec_KeepDo.run k)
theorem spec_l6Open.run (k : Nat) (args : List RV) (K : Ret → Option R) (o : R) (h : (spec_l6Open.con (spec_l6Open.c k)).run args K = some o) : ∃ args', All2 TyRV args args' ∧ evFunc E (spec_l6Open.G (spec_l6Open.g k)) k spec_l6Open.H [] false Tryz.f23 args' K = some o := by
  unfold spec_l6Open.con at h
  simp only at h
  split at h
  · rename_i pa0
    obtain ⟨a0, ta0, h⟩ := withRow_some (by simp) h
    exact ⟨_, (.cons (.val (.cons ta0 .nil)) .nil), (spec_l6Open.evs (spec_l6Open.g k) k a0 K).trans h⟩
  · cases h
theorem spec_l6Open.ds : dstB Tryz.f23.ntmps (bodyOf Tryz.f23) = true := by kernel_rfl
theorem spec_l6Open.cb : callB E.P 23 = true := by kernel_rfl
theorem spec_l6Open.ok (B : Base) (k : Nat) : ConOk E.P B 23 (spec_l6Open.con (spec_l6Open.c (R := R) k)) := con_ok E_orders E_eqs GOk.nil Tryz.func23 (by kernel_rfl) spec_l6Open.ds rfl (spec_l6Open.run k)
theorem spec_l6Rd_pick.run (k : Nat) (args : List RV) (K : Ret → Option R) (o : R) (h : (spec_l6Rd_pick.con (spec_l6Rd_pick.c k)).run args K = some o) : ∃ args', All2 TyRV args args' ∧ evFunc E (spec_l6Rd_pick.G (spec_l6Rd_pick.g k)) k spec_l6Rd_pick.H [] false Tryz.f24 args' K = some o := by
  unfold spec_l6Rd_pick.con at h
  simp only at h
  split at h
  · rename_i D A a1
    obtain ⟨B, C, h⟩ := withRow_some (by simp) h
    exact ⟨_, (.cons (.ref (.cons C (.cons .s .nil))) (.cons (.val (.cons .s .nil)) .nil)), (spec_l6Rd_pick.evs (spec_l6Rd_pick.g k) k B A a1 K).trans h⟩
  · cases h
theorem spec_l6Rd_pick.ds : dstB Tryz.f24.ntmps (bodyOf Tryz.f24) = true := by kernel_rfl
theorem spec_l6Rd_pick.cb : callB E.P 24 = true := by kernel_rfl
theorem spec_l6Rd_pick.ok (B : Base) (k : Nat) : ConOk E.P B 24 (spec_l6Rd_pick.con (spec_l6Rd_pick.c (R := R) k)) := con_ok E_orders E_eqs GOk.nil Tryz.func24 (by kernel_rfl) spec_l6Rd_pick.ds rfl (spec_l6Rd_pick.run k)
theorem spec_l6Rd_of.run (k : Nat) (args : List RV) (K : Ret → Option R) (o : R) (h : (spec_l6Rd_of.con (spec_l6Rd_of.c k)).run args K = some o) : ∃ args', All2 TyRV args args' ∧ evFunc E (spec_l6Rd_of.G (spec_l6Rd_of.g k)) k spec_l6Rd_of.H [] false Tryz.f88 args' K = some o := by
  unfold spec_l6Rd_of.con at h
  simp only at h
  split at h
  · rename_i D A pa1
    obtain ⟨B, C, h⟩ := withRow_some (by simp) h
    obtain ⟨a1, ta1, h⟩ := withRow_some (by simp) h
    exact ⟨_, (.cons (.ref (.cons C (.cons .s .nil))) (.cons (.val (.cons ta1 .nil)) .nil)), (spec_l6Rd_of.evs (spec_l6Rd_of.g k) k B A a1 K).trans h⟩
  · cases h
theorem spec_l6Rd_of.ds : dstB Tryz.f88.ntmps (bodyOf Tryz.f88) = true := by kernel_rfl
theorem spec_l6Rd_of.cb : callB E.P 88 = true := by kernel_rfl
theorem spec_l6Rd_of.ok (B : Base) (k : Nat) : ConOk E.P B 88 (spec_l6Rd_of.con (spec_l6Rd_of.c (R := R) k)) := con_ok E_orders E_eqs (GOk.cons spec_l6Rd_pick.cb (spec_l6Rd_pick.ok B k) GOk.nil) Tryz.func88 (by kernel_rfl) spec_l6Rd_of.ds rfl (spec_l6Rd_of.run k)
theorem spec_l6Many.run (k : Nat) (args : List RV) (K : Ret → Option R) (o : R) (h : (spec_l6Many.con (spec_l6Many.c k)).run args K = some o) : ∃ args', All2 TyRV args args' ∧ evFunc E (spec_l6Many.G (spec_l6Many.g k)) k spec_l6Many.H [] false Tryz.f91 args' K = some o := by
  unfold spec_l6Many.con at h
  simp only at h
  split at h
  · rename_i a0 a1
    exact ⟨_, (.cons (.val (.cons .s .nil)) (.cons (.val (.cons .s .nil)) .nil)), (spec_l6Many.evs (spec_l6Many.g k) k a0 a1 K).trans h⟩
  · cases h
theorem spec_l6Many.ds : dstB Tryz.f91.ntmps (bodyOf Tryz.f91) = true := by kernel_rfl
theorem spec_l6Many.cb : callB E.P 91 = true := by kernel_rfl
theorem spec_l6Many.ok (B : Base) (k : Nat) : ConOk E.P B 91 (spec_l6Many.con (spec_l6Many.c (R := R) k)) := con_ok E_orders E_eqs GOk.nil Tryz.func91 (by kernel_rfl) spec_l6Many.ds rfl (spec_l6Many.run k)
theorem spec_l72Text.run (k : Nat) (args : List RV) (K : Ret → Option R) (o : R) (h : (spec_l72Text.con (spec_l72Text.c k)).run args K = some o) : ∃ args', All2 TyRV args args' ∧ evFunc E (spec_l72Text.G (spec_l72Text.g k)) k spec_l72Text.H [] false Tryz.f89 args' K = some o := by
  unfold spec_l72Text.con at h
  simp only at h
  split at h
  · rename_i D A
    obtain ⟨B, C, h⟩ := withRow_some (by simp) h
    exact ⟨_, (.cons (.ref (.cons C (.cons .s .nil))) .nil), (spec_l72Text.evs (spec_l72Text.g k) k B A K).trans h⟩
  · cases h
theorem spec_l72Text.ds : dstB Tryz.f89.ntmps (bodyOf Tryz.f89) = true := by kernel_rfl
theorem spec_l72Text.cb : callB E.P 89 = true := by kernel_rfl
theorem spec_l72Text.ok (B : Base) (k : Nat) : ConOk E.P B 89 (spec_l72Text.con (spec_l72Text.c (R := R) k)) := con_ok E_orders E_eqs (GOk.cons spec_l6Rd_pick.cb (spec_l6Rd_pick.ok B k) (GOk.cons spec_l6Many.cb (spec_l6Many.ok B k) (GOk.cons spec_l6Rd_of.cb (spec_l6Rd_of.ok B k) GOk.nil))) Tryz.func89 (by kernel_rfl) spec_l72Text.ds rfl (spec_l72Text.run k)
theorem spec_l72Note.run (k : Nat) (args : List RV) (K : Ret → Option R) (o : R) (h : (spec_l72Note.con (spec_l72Note.c k)).run args K = some o) : ∃ args', All2 TyRV args args' ∧ evFunc E (spec_l72Note.G (spec_l72Note.g k)) k spec_l72Note.H [] false Tryz.f47 args' K = some o := by
  unfold spec_l72Note.con at h
  simp only at h
  split at h
  · rename_i D A
    obtain ⟨B, C, h⟩ := withRow_some (by simp) h
    exact ⟨_, (.cons (.ref (.cons C (.cons .s .nil))) .nil), (spec_l72Note.evs (spec_l72Note.g k) k B A K).trans h⟩
  · cases h
theorem spec_l72Note.ds : dstB Tryz.f47.ntmps (bodyOf Tryz.f47) = true := by kernel_rfl
theorem spec_l72Note.cb : callB E.P 47 = true := by kernel_rfl
theorem spec_l72Note.ok (B : Base) (k : Nat) : ConOk E.P B 47 (spec_l72Note.con (spec_l72Note.c (R := R) k)) := con_ok E_orders E_eqs (GOk.cons spec_l6Rd_pick.cb (spec_l6Rd_pick.ok B k) (GOk.cons spec_l6Rd_of.cb (spec_l6Rd_of.ok B k) (GOk.cons spec_l72Text.cb (spec_l72Text.ok B k) GOk.nil))) Tryz.func47 (by kernel_rfl) spec_l72Note.ds rfl (spec_l72Note.run k)
theorem spec_l22Three.run (k : Nat) (args : List RV) (K : Ret → Option R) (o : R) (h : (spec_l22Three.con (spec_l22Three.c k)).run args K = some o) : ∃ args', All2 TyRV args args' ∧ evFunc E (spec_l22Three.G (spec_l22Three.g k)) k spec_l22Three.H [] false Tryz.f50 args' K = some o := by
  unfold spec_l22Three.con at h
  simp only at h
  split at h
  · rename_i a0 a1 a2
    exact ⟨_, (.cons (.val (.cons .s .nil)) (.cons (.val (.cons .s .nil)) (.cons (.val (.cons .s .nil)) .nil))), (spec_l22Three.evs (spec_l22Three.g k) k a0 a1 a2 K).trans h⟩
  · cases h
theorem spec_l22Three.ds : dstB Tryz.f50.ntmps (bodyOf Tryz.f50) = true := by kernel_rfl
theorem spec_l22Three.cb : callB E.P 50 = true := by kernel_rfl
theorem spec_l22Three.ok (B : Base) (k : Nat) : ConOk E.P B 50 (spec_l22Three.con (spec_l22Three.c (R := R) k)) := con_ok E_orders E_eqs (GOk.cons spec_l6Dec.cb (spec_l6Dec.ok B k) GOk.nil) Tryz.func50 (by kernel_rfl) spec_l22Three.ds rfl (spec_l22Three.run k)
theorem spec_l72Rec.run (k : Nat) (args : List RV) (K : Ret → Option R) (o : R) (h : (spec_l72Rec.con (spec_l72Rec.c k)).run args K = some o) : ∃ args', All2 TyRV args args' ∧ evFunc E (spec_l72Rec.G (spec_l72Rec.g k)) k spec_l72Rec.H [] false Tryz.f51 args' K = some o := by
  unfold spec_l72Rec.con at h
  simp only at h
  split at h
  · rename_i D A
    obtain ⟨B, C, h⟩ := withRow_some (by simp) h
    exact ⟨_, (.cons (.ref (.cons C (.cons .s .nil))) .nil), (spec_l72Rec.evs (spec_l72Rec.g k) k B A K).trans h⟩
  · cases h
theorem spec_l72Rec.ds : dstB Tryz.f51.ntmps (bodyOf Tryz.f51) = true := by kernel_rfl
theorem spec_l72Rec.cb : callB E.P 51 = true := by kernel_rfl
theorem spec_l72Rec.ok (B : Base) (k : Nat) : ConOk E.P B 51 (spec_l72Rec.con (spec_l72Rec.c (R := R) k)) := con_ok E_orders E_eqs (GOk.cons spec_l6Rd_pick.cb (spec_l6Rd_pick.ok B k) (GOk.cons spec_l6Dec.cb (spec_l6Dec.ok B k) (GOk.cons spec_l22Three.cb (spec_l22Three.ok B k) (GOk.cons spec_l6Many.cb (spec_l6Many.ok B k) (GOk.cons spec_l6Rd_of.cb (spec_l6Rd_of.ok B k) (GOk.cons spec_l72Note.cb (spec_l72Note.ok B k) (GOk.cons spec_NoteWrite.cb (spec_NoteWrite.ok B k) GOk.nil))))))) Tryz.func51 (by kernel_rfl) spec_l72Rec.ds rfl (spec_l72Rec.run k)
theorem spec_l72Near.run (k : Nat) (args : List RV) (K : Ret → Option R) (o : R) (h : (spec_l72Near.con (spec_l72Near.c k)).run args K = some o) : ∃ args', All2 TyRV args args' ∧ evFunc E (spec_l72Near.G (spec_l72Near.g k)) k spec_l72Near.H [] false Tryz.f25 args' K = some o := by
  unfold spec_l72Near.con at h
  simp only at h
  split at h
  · rename_i U A B C D W X Y
    obtain ⟨F, J, h⟩ := withRow_some (by simp) h
    obtain ⟨M, N, h⟩ := withRow_some (by simp) h
    obtain ⟨O, P, h⟩ := withRow_some (by simp) h
    obtain ⟨Q, S, h⟩ := withRow_some (by simp) h
    exact ⟨_, (.cons (.ref (.cons J (.cons .s .nil))) (.cons (.val (.cons .s (.cons .s (.cons .s (.cons N (.cons P (.cons S .nil))))))) .nil)), (spec_l72Near.evs (spec_l72Near.g k) k F A B C D M O Q K).trans h⟩
  · cases h
theorem spec_l72Near.ds : dstB Tryz.f25.ntmps (bodyOf Tryz.f25) = true := by kernel_rfl
theorem spec_l72Near.cb : callB E.P 25 = true := by kernel_rfl
theorem spec_l72Near.ok (B : Base) (k : Nat) : ConOk E.P B 25 (spec_l72Near.con (spec_l72Near.c (R := R) k)) := con_ok E_orders E_eqs (GOk.cons spec_l72Note.cb (spec_l72Note.ok B k) (GOk.cons spec_l6Rd_pick.cb (spec_l6Rd_pick.ok B k) (GOk.cons spec_l6Dec.cb (spec_l6Dec.ok B k) (GOk.cons spec_NoteWrite.cb (spec_NoteWrite.ok B k) (GOk.cons spec_l22Three.cb (spec_l22Three.ok B k) (GOk.cons spec_l72Rec.cb (spec_l72Rec.ok B k) GOk.nil)))))) Tryz.func25 (by kernel_rfl) spec_l72Near.ds rfl (spec_l72Near.run k)
theorem spec_DrawKeepOf.run (k : Nat) (args : List RV) (K : Ret → Option R) (o : R) (h : (spec_DrawKeepOf.con (spec_DrawKeepOf.c k)).run args K = some o) : ∃ args', All2 TyRV args args' ∧ evFunc E (spec_DrawKeepOf.G (spec_DrawKeepOf.g k)) k spec_DrawKeepOf.H [] false Tryz.f6 args' K = some o := by
  unfold spec_DrawKeepOf.con at h
  simp only at h
  split at h
  · rename_i pa0
    obtain ⟨a0, ta0, h⟩ := withRow_some (by simp) h
    exact ⟨_, (.cons (.val (.cons ta0 .nil)) .nil), (spec_DrawKeepOf.evs (spec_DrawKeepOf.g k) k a0 K).trans h⟩
  · cases h
theorem spec_DrawKeepOf.ds : dstB Tryz.f6.ntmps (bodyOf Tryz.f6) = true := by kernel_rfl
theorem spec_DrawKeepOf.cb : callB E.P 6 = true := by kernel_rfl
theorem spec_DrawKeepOf.ok (B : Base) (k : Nat) : ConOk E.P B 6 (spec_DrawKeepOf.con (spec_DrawKeepOf.c (R := R) k)) := con_ok E_orders E_eqs (GOk.cons spec_l6Open.cb (spec_l6Open.ok B k) (GOk.cons spec_l6Rd_pick.cb (spec_l6Rd_pick.ok B k) (GOk.cons spec_KeepStart.cb (spec_KeepStart.ok B k) (GOk.cons spec_l72Near.cb (spec_l72Near.ok B k) (GOk.cons spec_KeepDo.cb (spec_KeepDo.ok B k) GOk.nil))))) Tryz.func6 (by kernel_rfl) spec_DrawKeepOf.ds rfl (spec_DrawKeepOf.run k)
theorem spec_KeepOf.run (k : Nat) (args : List RV) (K : Ret → Option R) (o : R) (h : (spec_KeepOf.con (spec_KeepOf.c k)).run args K = some o) : ∃ args', All2 TyRV args args' ∧ evFunc E (spec_KeepOf.G (spec_KeepOf.g k)) k spec_KeepOf.H [] false Tryz.f7 args' K = some o := by
  unfold spec_KeepOf.con at h
  simp only at h
  split at h
  · rename_i a0 pa1
    obtain ⟨a1, ta1, h⟩ := withRow_some (by simp) h
    exact ⟨_, (.cons (.val (.cons .s .nil)) (.cons (.val (.cons ta1 .nil)) .nil)), (spec_KeepOf.evs (spec_KeepOf.g k) k a0 a1 K).trans h⟩
  · cases h
theorem spec_KeepOf.ds : dstB Tryz.f7.ntmps (bodyOf Tryz.f7) = true := by kernel_rfl
theorem spec_KeepOf.cb : callB E.P 7 = true := by kernel_rfl
theorem spec_KeepOf.ok (B : Base) (k : Nat) : ConOk E.P B 7 (spec_KeepOf.con (spec_KeepOf.c (R := R) k)) := con_ok E_orders E_eqs (GOk.cons spec_KeepStart.cb (spec_KeepStart.ok B k) (GOk.cons spec_l3Keeper.cb (spec_l3Keeper.ok B k) (GOk.cons spec_KeepDo.cb (spec_KeepDo.ok B k) GOk.nil))) Tryz.func7 (by kernel_rfl) spec_KeepOf.ds rfl (spec_KeepOf.run k)
theorem impl_in.run (k : Nat) (args : List RV) (K : Ret → Option R) (o : R) (h : (impl_in.con (impl_in.c k)).run args K = some o) : ∃ args', All2 TyRV args args' ∧ evFunc E (impl_in.G (impl_in.g k)) k impl_in.H [] false Tryz.f53 args' K = some o := by
  unfold impl_in.con at h
  simp only at h
  split at h
  · rename_i a0 a1 a2
    exact ⟨_, (.cons (.val (.cons .s .nil)) (.cons (.val (.cons .s .nil)) (.cons (.val (.cons .s .nil)) .nil))), (impl_in.evs (impl_in.g k) k a0 a1 a2 K).trans h⟩
  · cases h
theorem impl_in.ds : dstB Tryz.f53.ntmps (bodyOf Tryz.f53) = true := by kernel_rfl
theorem impl_in.cb : callB E.P 53 = true := by kernel_rfl
theorem impl_in.ok (B : Base) (k : Nat) : ConOk E.P B 53 (impl_in.con (impl_in.c (R := R) k)) := con_ok E_orders E_eqs GOk.nil Tryz.func53 (by kernel_rfl) impl_in.ds rfl (impl_in.run k)
theorem impl_isNode.run (k : Nat) (args : List RV) (K : Ret → Option R) (o : R) (h : (impl_isNode.con (impl_isNode.c k)).run args K = some o) : ∃ args', All2 TyRV args args' ∧ evFunc E (impl_isNode.G (impl_isNode.g k)) k impl_isNode.H [] false Tryz.f27 args' K = some o := by
  unfold impl_isNode.con at h
  simp only at h
  split at h
  · rename_i a0
    exact ⟨_, (.cons (.val (.cons .s .nil)) .nil), (impl_isNode.evs (impl_isNode.g k) k a0 K).trans h⟩
  · cases h
theorem impl_isNode.ds : dstB Tryz.f27.ntmps (bodyOf Tryz.f27) = true := by kernel_rfl
theorem impl_isNode.cb : callB E.P 27 = true := by kernel_rfl
theorem impl_isNode.ok (B : Base) (k : Nat) : ConOk E.P B 27 (impl_isNode.con (impl_isNode.c (R := R) k)) := con_ok E_orders E_eqs (GOk.cons impl_in.cb (impl_in.ok B k) GOk.nil) Tryz.func27 (by kernel_rfl) impl_isNode.ds rfl (impl_isNode.run k)
theorem impl_textOk.run (k : Nat) (args : List RV) (K : Ret → Option R) (o : R) (h : (impl_textOk.con (impl_textOk.c k)).run args K = some o) : ∃ args', All2 TyRV args args' ∧ evFunc E (impl_textOk.G (impl_textOk.g k)) k impl_textOk.H [] false Tryz.f107 args' K = some o := by
  unfold impl_textOk.con at h
  simp only at h
  split at h
  · rename_i a0
    exact ⟨_, (.cons (.val (.cons .s .nil)) .nil), (impl_textOk.evs (impl_textOk.g k) k a0 K).trans h⟩
  · cases h
theorem impl_textOk.ds : dstB Tryz.f107.ntmps (bodyOf Tryz.f107) = true := by kernel_rfl
theorem impl_textOk.cb : callB E.P 107 = true := by kernel_rfl
theorem impl_textOk.ok (B : Base) (k : Nat) : ConOk E.P B 107 (impl_textOk.con (impl_textOk.c (R := R) k)) := con_ok E_orders E_eqs (GOk.cons impl_in.cb (impl_in.ok B k) GOk.nil) Tryz.func107 (by kernel_rfl) impl_textOk.ds rfl (impl_textOk.run k)
theorem impl_NoteOk.run (k : Nat) (args : List RV) (K : Ret → Option R) (o : R) (h : (impl_NoteOk.con (impl_NoteOk.c k)).run args K = some o) : ∃ args', All2 TyRV args args' ∧ evFunc E (impl_NoteOk.G (impl_NoteOk.g k)) k impl_NoteOk.H [] false Tryz.f92 args' K = some o := by
  unfold impl_NoteOk.con at h
  simp only at h
  split at h
  · rename_i A B C D F
    exact ⟨_, (.cons (.val (.cons .s (.cons .s (.cons .s (.cons .s (.cons .s .nil)))))) .nil), (impl_NoteOk.evs (impl_NoteOk.g k) k A B C D F K).trans h⟩
  · cases h
theorem impl_NoteOk.ds : dstB Tryz.f92.ntmps (bodyOf Tryz.f92) = true := by kernel_rfl
theorem impl_NoteOk.cb : callB E.P 92 = true := by kernel_rfl
theorem impl_NoteOk.ok (B : Base) (k : Nat) : ConOk E.P B 92 (impl_NoteOk.con (impl_NoteOk.c (R := R) k)) := con_ok E_orders E_eqs (GOk.cons impl_isNode.cb (impl_isNode.ok B k) (GOk.cons impl_in.cb (impl_in.ok B k) (GOk.cons impl_textOk.cb (impl_textOk.ok B k) GOk.nil))) Tryz.func92 (by kernel_rfl) impl_NoteOk.ds rfl (impl_NoteOk.run k)
theorem impl_before.run (k : Nat) (args : List RV) (K : Ret → Option R) (o : R) (h : (impl_before.con (impl_before.c k)).run args K = some o) : ∃ args', All2 TyRV args args' ∧ evFunc E (impl_before.G (impl_before.g k)) k impl_before.H [] false Tryz.f93 args' K = some o := by
  unfold impl_before.con at h
  simp only at h
  split at h
  · rename_i a0 a1 a2 a3
    exact ⟨_, (.cons (.val (.cons .s .nil)) (.cons (.val (.cons .s .nil)) (.cons (.val (.cons .s .nil)) (.cons (.val (.cons .s .nil)) .nil)))), (impl_before.evs (impl_before.g k) k a0 a1 a2 a3 K).trans h⟩
  · cases h
theorem impl_before.ds : dstB Tryz.f93.ntmps (bodyOf Tryz.f93) = true := by kernel_rfl
theorem impl_before.cb : callB E.P 93 = true := by kernel_rfl
theorem impl_before.ok (B : Base) (k : Nat) : ConOk E.P B 93 (impl_before.con (impl_before.c (R := R) k)) := con_ok E_orders E_eqs GOk.nil Tryz.func93 (by kernel_rfl) impl_before.ds rfl (impl_before.run k)
theorem impl_notesOk.run (k : Nat) (args : List RV) (K : Ret → Option R) (o : R) (h : (impl_notesOk.con (impl_notesOk.c k)).run args K = some o) : ∃ args', All2 TyRV args args' ∧ evFunc E (impl_notesOk.G (impl_notesOk.g k)) k impl_notesOk.H [] false Tryz.f54 args' K = some o := by
  unfold impl_notesOk.con at h
  simp only at h
  split at h
  · rename_i pa0
    obtain ⟨a0, ta0, h⟩ := withRow_some (by simp) h
    exact ⟨_, (.cons (.val (.cons ta0 .nil)) .nil), (impl_notesOk.evs (impl_notesOk.g k) k a0 K).trans h⟩
  · cases h
theorem impl_notesOk.ds : dstB Tryz.f54.ntmps (bodyOf Tryz.f54) = true := by kernel_rfl
theorem impl_notesOk.cb : callB E.P 54 = true := by kernel_rfl
theorem impl_notesOk.ok (B : Base) (k : Nat) : ConOk E.P B 54 (impl_notesOk.con (impl_notesOk.c (R := R) k)) := con_ok E_orders E_eqs (GOk.cons impl_NoteOk.cb (impl_NoteOk.ok B k) (GOk.cons impl_before.cb (impl_before.ok B k) GOk.nil)) Tryz.func54 (by kernel_rfl) impl_notesOk.ds rfl (impl_notesOk.run k)
theorem impl_markOk.run (k : Nat) (args : List RV) (K : Ret → Option R) (o : R) (h : (impl_markOk.con (impl_markOk.c k)).run args K = some o) : ∃ args', All2 TyRV args args' ∧ evFunc E (impl_markOk.G (impl_markOk.g k)) k impl_markOk.H [] false Tryz.f94 args' K = some o := by
  unfold impl_markOk.con at h
  simp only at h
  split at h
  · rename_i A B C
    exact ⟨_, (.cons (.val (.cons .s (.cons .s (.cons .s .nil)))) .nil), (impl_markOk.evs (impl_markOk.g k) k A B C K).trans h⟩
  · cases h
theorem impl_markOk.ds : dstB Tryz.f94.ntmps (bodyOf Tryz.f94) = true := by kernel_rfl
theorem impl_markOk.cb : callB E.P 94 = true := by kernel_rfl
theorem impl_markOk.ok (B : Base) (k : Nat) : ConOk E.P B 94 (impl_markOk.con (impl_markOk.c (R := R) k)) := con_ok E_orders E_eqs (GOk.cons impl_isNode.cb (impl_isNode.ok B k) (GOk.cons impl_in.cb (impl_in.ok B k) GOk.nil)) Tryz.func94 (by kernel_rfl) impl_markOk.ds rfl (impl_markOk.run k)
theorem impl_marksOk.run (k : Nat) (args : List RV) (K : Ret → Option R) (o : R) (h : (impl_marksOk.con (impl_marksOk.c k)).run args K = some o) : ∃ args', All2 TyRV args args' ∧ evFunc E (impl_marksOk.G (impl_marksOk.g k)) k impl_marksOk.H [] false Tryz.f55 args' K = some o := by
  unfold impl_marksOk.con at h
  simp only at h
  split at h
  · rename_i pa0
    obtain ⟨a0, ta0, h⟩ := withRow_some (by simp) h
    exact ⟨_, (.cons (.val (.cons ta0 .nil)) .nil), (impl_marksOk.evs (impl_marksOk.g k) k a0 K).trans h⟩
  · cases h
theorem impl_marksOk.ds : dstB Tryz.f55.ntmps (bodyOf Tryz.f55) = true := by kernel_rfl
theorem impl_marksOk.cb : callB E.P 55 = true := by kernel_rfl
theorem impl_marksOk.ok (B : Base) (k : Nat) : ConOk E.P B 55 (impl_marksOk.con (impl_marksOk.c (R := R) k)) := con_ok E_orders E_eqs (GOk.cons impl_markOk.cb (impl_markOk.ok B k) (GOk.cons impl_before.cb (impl_before.ok B k) GOk.nil)) Tryz.func55 (by kernel_rfl) impl_marksOk.ds rfl (impl_marksOk.run k)
theorem impl_onWay.run (k : Nat) (args : List RV) (K : Ret → Option R) (o : R) (h : (impl_onWay.con (impl_onWay.c k)).run args K = some o) : ∃ args', All2 TyRV args args' ∧ evFunc E (impl_onWay.G (impl_onWay.g k)) k impl_onWay.H [] false Tryz.f56 args' K = some o := by
  unfold impl_onWay.con at h
  simp only at h
  split at h
  · rename_i a0 A B C D F
    exact ⟨_, (.cons (.val (.cons .s .nil)) (.cons (.val (.cons .s (.cons .s (.cons .s (.cons .s (.cons .s .nil)))))) .nil)), (impl_onWay.evs (impl_onWay.g k) k a0 A B C D F K).trans h⟩
  · cases h
theorem impl_onWay.ds : dstB Tryz.f56.ntmps (bodyOf Tryz.f56) = true := by kernel_rfl
theorem impl_onWay.cb : callB E.P 56 = true := by kernel_rfl
theorem impl_onWay.ok (B : Base) (k : Nat) : ConOk E.P B 56 (impl_onWay.con (impl_onWay.c (R := R) k)) := con_ok E_orders E_eqs (GOk.cons impl_in.cb (impl_in.ok B k) GOk.nil) Tryz.func56 (by kernel_rfl) impl_onWay.ds rfl (impl_onWay.run k)
theorem impl_markAt.run (k : Nat) (args : List RV) (K : Ret → Option R) (o : R) (h : (impl_markAt.con (impl_markAt.c k)).run args K = some o) : ∃ args', All2 TyRV args args' ∧ evFunc E (impl_markAt.G (impl_markAt.g k)) k impl_markAt.H [] false Tryz.f57 args' K = some o := by
  unfold impl_markAt.con at h
  simp only at h
  split at h
  · rename_i pa0 a1 a2
    obtain ⟨a0, ta0, h⟩ := withRow_some (by simp) h
    exact ⟨_, (.cons (.val (.cons ta0 .nil)) (.cons (.val (.cons .s .nil)) (.cons (.val (.cons .s .nil)) .nil))), (impl_markAt.evs (impl_markAt.g k) k a0 a1 a2 K).trans h⟩
  · cases h
theorem impl_markAt.ds : dstB Tryz.f57.ntmps (bodyOf Tryz.f57) = true := by kernel_rfl
theorem impl_markAt.cb : callB E.P 57 = true := by kernel_rfl
theorem impl_markAt.ok (B : Base) (k : Nat) : ConOk E.P B 57 (impl_markAt.con (impl_markAt.c (R := R) k)) := con_ok E_orders E_eqs GOk.nil Tryz.func57 (by kernel_rfl) impl_markAt.ds rfl (impl_markAt.run k)
theorem impl_KeepOk.run (k : Nat) (args : List RV) (K : Ret → Option R) (o : R) (h : (impl_KeepOk.con (impl_KeepOk.c k)).run args K = some o) : ∃ args', All2 TyRV args args' ∧ evFunc E (impl_KeepOk.G (impl_KeepOk.g k)) k impl_KeepOk.H [] false Tryz.f30 args' K = some o := by
  unfold impl_KeepOk.con at h
  simp only at h
  split at h
  · rename_i A B C P Q S
    obtain ⟨D, F, h⟩ := withRow_some (by simp) h
    obtain ⟨J, M, h⟩ := withRow_some (by simp) h
    obtain ⟨N, O, h⟩ := withRow_some (by simp) h
    exact ⟨_, (.cons (.val (.cons .s (.cons .s (.cons .s (.cons F (.cons M (.cons O .nil))))))) .nil), (impl_KeepOk.evs (impl_KeepOk.g k) k A B C D J N K).trans h⟩
  · cases h
theorem impl_KeepOk.ds : dstB Tryz.f30.ntmps (bodyOf Tryz.f30) = true := by kernel_rfl
theorem impl_KeepOk.cb : callB E.P 30 = true := by kernel_rfl
theorem impl_KeepOk.ok (B : Base) (k : Nat) : ConOk E.P B 30 (impl_KeepOk.con (impl_KeepOk.c (R := R) k)) := con_ok E_orders E_eqs (GOk.cons impl_isNode.cb (impl_isNode.ok B k) (GOk.cons impl_in.cb (impl_in.ok B k) (GOk.cons impl_notesOk.cb (impl_notesOk.ok B k) (GOk.cons impl_marksOk.cb (impl_marksOk.ok B k) (GOk.cons impl_onWay.cb (impl_onWay.ok B k) (GOk.cons impl_markAt.cb (impl_markAt.ok B k) GOk.nil)))))) Tryz.func30 (by kernel_rfl) impl_KeepOk.ds rfl (impl_KeepOk.run k)
theorem strings_Cut.cb : callB E.P 58 = true := by kernel_rfl
theorem strings_Cut.ok (B : Base) (hS : ExtS E.P B) (k : Nat) : ConOk E.P B 58 (strings_Cut.con (strings_Cut.c (R := R) k)) := by
  refine cut_conok (fun s sep h0 w hw => hS.elim fun m hm => Tryz.strings_Cut s sep m w h0 (hm w hw)) _ rfl fun args K o h => ?_
  unfold strings_Cut.con at h
  simp only at h
  split at h
  · rename_i a0 a1
    unfold strings_Cut.c at h
    cases hc : (decide (a0.size < 4294967281)) with
    | false => rw [hc] at h; cases h
    | true =>
      rw [hc] at h
      simp only [Bool.and_eq_true, decide_eq_true_eq] at hc
      exact ⟨a0, a1, rfl, hc, h⟩
  · cases h
theorem impl_natural.run (k : Nat) (args : List RV) (K : Ret → Option R) (o : R) (h : (impl_natural.con (impl_natural.c k)).run args K = some o) : ∃ args', All2 TyRV args args' ∧ evFunc E (impl_natural.G (impl_natural.g k)) k impl_natural.H [] false Tryz.f59 args' K = some o := by
  unfold impl_natural.con at h
  simp only at h
  split at h
  · rename_i a0
    exact ⟨_, (.cons (.val (.cons .s .nil)) .nil), (impl_natural.evs (impl_natural.g k) k a0 K).trans h⟩
  · cases h
theorem impl_natural.ds : dstB Tryz.f59.ntmps (bodyOf Tryz.f59) = true := by kernel_rfl
theorem impl_natural.cb : callB E.P 59 = true := by kernel_rfl
theorem impl_natural.ok (B : Base) (k : Nat) : ConOk E.P B 59 (impl_natural.con (impl_natural.c (R := R) k)) := con_ok E_orders E_eqs (GOk.cons impl_in.cb (impl_in.ok B k) GOk.nil) Tryz.func59 (by kernel_rfl) impl_natural.ds rfl (impl_natural.run k)
theorem impl_advance.run (k : Nat) (args : List RV) (K : Ret → Option R) (o : R) (h : (impl_advance.con (impl_advance.c k)).run args K = some o) : ∃ args', All2 TyRV args args' ∧ evFunc E (impl_advance.G (impl_advance.g k)) k impl_advance.H [] false Tryz.f96 args' K = some o := by
  unfold impl_advance.con at h
  simp only at h
  split at h
  · rename_i A B C P Q S a1
    obtain ⟨D, F, h⟩ := withRow_some (by simp) h
    obtain ⟨J, M, h⟩ := withRow_some (by simp) h
    obtain ⟨N, O, h⟩ := withRow_some (by simp) h
    exact ⟨_, (.cons (.val (.cons .s (.cons .s (.cons .s (.cons F (.cons M (.cons O .nil))))))) (.cons (.val (.cons .s .nil)) .nil)), (impl_advance.evs (impl_advance.g k) k A B C D J N a1 K).trans h⟩
  · cases h
theorem impl_advance.ds : dstB Tryz.f96.ntmps (bodyOf Tryz.f96) = true := by kernel_rfl
theorem impl_advance.cb : callB E.P 96 = true := by kernel_rfl
theorem impl_advance.ok (B : Base) (k : Nat) : ConOk E.P B 96 (impl_advance.con (impl_advance.c (R := R) k)) := con_ok E_orders E_eqs GOk.nil Tryz.func96 (by kernel_rfl) impl_advance.ds rfl (impl_advance.run k)
theorem impl_doNum.run (k : Nat) (args : List RV) (K : Ret → Option R) (o : R) (h : (impl_doNum.con (impl_doNum.c k)).run args K = some o) : ∃ args', All2 TyRV args args' ∧ evFunc E (impl_doNum.G (impl_doNum.g k)) k impl_doNum.H [] true Tryz.f60 args' K = some o := by
  unfold impl_doNum.con at h
  simp only at h
  split at h
  · rename_i A B C P Q S a1 a2
    obtain ⟨D, F, h⟩ := withRow_some (by simp) h
    obtain ⟨J, M, h⟩ := withRow_some (by simp) h
    obtain ⟨N, O, h⟩ := withRow_some (by simp) h
    exact ⟨_, (.cons (.val (.cons .s (.cons .s (.cons .s (.cons F (.cons M (.cons O .nil))))))) (.cons (.val (.cons .s .nil)) (.cons (.val (.cons .s .nil)) .nil))), (impl_doNum.evs (impl_doNum.g k) k A B C D J N a1 a2 K).trans h⟩
  · cases h
theorem impl_doNum.ds : dstB Tryz.f60.ntmps (bodyOf Tryz.f60) = true := by kernel_rfl
theorem impl_doNum.cb : callB E.P 60 = true := by kernel_rfl
theorem impl_doNum.ok (B : Base) (k : Nat) : ConOk E.P B 60 (impl_doNum.con (impl_doNum.c (R := R) k)) := con_ok E_orders E_eqs (GOk.cons impl_advance.cb (impl_advance.ok B k) GOk.nil) Tryz.func60 (by kernel_rfl) impl_doNum.ds rfl (impl_doNum.run k)
theorem impl_naturals.run (k : Nat) (args : List RV) (K : Ret → Option R) (o : R) (h : (impl_naturals.con (impl_naturals.c k)).run args K = some o) : ∃ args', All2 TyRV args args' ∧ evFunc E (impl_naturals.G (impl_naturals.g k)) k impl_naturals.H [] false Tryz.f63 args' K = some o := by
  unfold impl_naturals.con at h
  simp only at h
  split at h
  · rename_i pa0
    obtain ⟨a0, ta0, h⟩ := withRow_some (by simp) h
    exact ⟨_, (.cons (.val (.cons ta0 .nil)) .nil), (impl_naturals.evs (impl_naturals.g k) k a0 K).trans h⟩
  · cases h
theorem impl_naturals.ds : dstB Tryz.f63.ntmps (bodyOf Tryz.f63) = true := by kernel_rfl
theorem impl_naturals.cb : callB E.P 63 = true := by kernel_rfl
theorem impl_naturals.ok (B : Base) (k : Nat) : ConOk E.P B 63 (impl_naturals.con (impl_naturals.c (R := R) k)) := con_ok E_orders E_eqs (GOk.cons impl_natural.cb (impl_natural.ok B k) GOk.nil) Tryz.func63 (by kernel_rfl) impl_naturals.ds rfl (impl_naturals.run k)
theorem strings_SplitN.cb : callB E.P 97 = true := by kernel_rfl
theorem strings_SplitN.ok (B : Base) (hS : ExtS E.P B) (k : Nat) : ConOk E.P B 97 (strings_SplitN.con (strings_SplitN.c (R := R) k)) := by
  refine splitn_conok (fun s sep n h0 h1 h2 h3 w hw => hS.elim fun m hm => Tryz.strings_SplitN s sep n m w h0 (hm w hw) h1 h2 h3) _ rfl fun args K o h => ?_
  unfold strings_SplitN.con at h
  simp only at h
  split at h
  · rename_i a0 a1 a2
    unfold strings_SplitN.c at h
    cases hc : ((decide (a0.size < 4294967281) && decide (1 ≤ a1.size)) && (decide (1 ≤ a2) && decide (a2 ≤ 9223372036854775807))) with
    | false => rw [hc] at h; cases h
    | true =>
      rw [hc] at h
      simp only [Bool.and_eq_true, decide_eq_true_eq] at hc
      exact ⟨a0, a1, a2, rfl, ⟨hc.1.1, hc.1.2, hc.2.1, hc.2.2⟩, h⟩
  · cases h
theorem strconv_Itoa.cb : callB E.P 109 = true := by kernel_rfl
theorem strconv_Itoa.ok (B : Base) (hI : ExtI E.P B) (k : Nat) : ConOk E.P B 109 (strconv_Itoa.con (strconv_Itoa.c (R := R) k)) := by
  refine itoa_conok (fun n h0 h1 w hw => Tryz.strconv_Itoa n h0 h1 w (hI w hw)) _ rfl fun args K o h => ?_
  unfold strconv_Itoa.con at h
  simp only at h
  split at h
  · rename_i a0
    unfold strconv_Itoa.c at h
    cases hc : (decide (-9223372036854775808 ≤ a0) && decide (a0 ≤ 9223372036854775807)) with
    | false => rw [hc] at h; cases h
    | true =>
      rw [hc] at h
      simp only [Bool.and_eq_true, decide_eq_true_eq] at hc
      exact ⟨a0, rfl, hc, h⟩
  · cases h
theorem impl_NoteWrite.run (k : Nat) (args : List RV) (K : Ret → Option R) (o : R) (h : (impl_NoteWrite.con (impl_NoteWrite.c k)).run args K = some o) : ∃ args', All2 TyRV args args' ∧ evFunc E (impl_NoteWrite.G (impl_NoteWrite.g k)) k impl_NoteWrite.H [] false Tryz.f98 args' K = some o := by
  unfold impl_NoteWrite.con at h
  simp only at h
  split at h
  · rename_i A B C D F
    exact ⟨_, (.cons (.val (.cons .s (.cons .s (.cons .s (.cons .s (.cons .s .nil)))))) .nil), (impl_NoteWrite.evs (impl_NoteWrite.g k) k A B C D F K).trans h⟩
  · cases h
theorem impl_NoteWrite.ds : dstB Tryz.f98.ntmps (bodyOf Tryz.f98) = true := by kernel_rfl
theorem impl_NoteWrite.cb : callB E.P 98 = true := by kernel_rfl
theorem impl_NoteWrite.ok (B : Base) (hI : ExtI E.P B) (k : Nat) : ConOk E.P B 98 (impl_NoteWrite.con (impl_NoteWrite.c (R := R) k)) := con_ok E_orders E_eqs (GOk.cons impl_NoteOk.cb (impl_NoteOk.ok B k) (GOk.cons strconv_Itoa.cb (strconv_Itoa.ok B hI k) GOk.nil)) Tryz.func98 (by kernel_rfl) impl_NoteWrite.ds rfl (impl_NoteWrite.run k)
theorem impl_NoteRead.run (k : Nat) (args : List RV) (K : Ret → Option R) (o : R) (h : (impl_NoteRead.con (impl_NoteRead.c k)).run args K = some o) : ∃ args', All2 TyRV args args' ∧ evFunc E (impl_NoteRead.G (impl_NoteRead.g k)) k impl_NoteRead.H [] false Tryz.f61 args' K = some o := by
  unfold impl_NoteRead.con at h
  simp only at h
  split at h
  · rename_i a0
    exact ⟨_, (.cons (.val (.cons .s .nil)) .nil), (impl_NoteRead.evs (impl_NoteRead.g k) k a0 K).trans h⟩
  · cases h
theorem impl_NoteRead.ds : dstB Tryz.f61.ntmps (bodyOf Tryz.f61) = true := by kernel_rfl
theorem impl_NoteRead.cb : callB E.P 61 = true := by kernel_rfl
theorem impl_NoteRead.ok (B : Base) (hI : ExtI E.P B) (hS : ExtS E.P B) (k : Nat) : ConOk E.P B 61 (impl_NoteRead.con (impl_NoteRead.c (R := R) k)) := con_ok E_orders E_eqs (GOk.cons strings_SplitN.cb (strings_SplitN.ok B hS k) (GOk.cons impl_naturals.cb (impl_naturals.ok B k) (GOk.cons impl_NoteOk.cb (impl_NoteOk.ok B k) (GOk.cons impl_NoteWrite.cb (impl_NoteWrite.ok B hI k) GOk.nil)))) Tryz.func61 (by kernel_rfl) impl_NoteRead.ds rfl (impl_NoteRead.run k)
theorem impl_noteAt.run (k : Nat) (args : List RV) (K : Ret → Option R) (o : R) (h : (impl_noteAt.con (impl_noteAt.c k)).run args K = some o) : ∃ args', All2 TyRV args args' ∧ evFunc E (impl_noteAt.G (impl_noteAt.g k)) k impl_noteAt.H [] false Tryz.f100 args' K = some o := by
  unfold impl_noteAt.con at h
  simp only at h
  split at h
  · rename_i pa0 a1 a2
    obtain ⟨a0, ta0, h⟩ := withRow_some (by simp) h
    exact ⟨_, (.cons (.val (.cons ta0 .nil)) (.cons (.val (.cons .s .nil)) (.cons (.val (.cons .s .nil)) .nil))), (impl_noteAt.evs (impl_noteAt.g k) k a0 a1 a2 K).trans h⟩
  · cases h
theorem impl_noteAt.ds : dstB Tryz.f100.ntmps (bodyOf Tryz.f100) = true := by kernel_rfl
theorem impl_noteAt.cb : callB E.P 100 = true := by kernel_rfl
theorem impl_noteAt.ok (B : Base) (k : Nat) : ConOk E.P B 100 (impl_noteAt.con (impl_noteAt.c (R := R) k)) := con_ok E_orders E_eqs GOk.nil Tryz.func100 (by kernel_rfl) impl_noteAt.ds rfl (impl_noteAt.run k)
theorem impl_noteIn.run (k : Nat) (args : List RV) (K : Ret → Option R) (o : R) (h : (impl_noteIn.con (impl_noteIn.c k)).run args K = some o) : ∃ args', All2 TyRV args args' ∧ evFunc E (impl_noteIn.G (impl_noteIn.g k)) k impl_noteIn.H [] false Tryz.f101 args' K = some o := by
  unfold impl_noteIn.con at h
  simp only at h
  split at h
  · rename_i pa0 A B C D F
    obtain ⟨a0, ta0, h⟩ := withRow_some (by simp) h
    exact ⟨_, (.cons (.val (.cons ta0 .nil)) (.cons (.val (.cons .s (.cons .s (.cons .s (.cons .s (.cons .s .nil)))))) .nil)), (impl_noteIn.evs (impl_noteIn.g k) k a0 A B C D F K).trans h⟩
  · cases h
theorem impl_noteIn.ds : dstB Tryz.f101.ntmps (bodyOf Tryz.f101) = true := by kernel_rfl
theorem impl_noteIn.cb : callB E.P 101 = true := by kernel_rfl
theorem impl_noteIn.ok (B : Base) (k : Nat) : ConOk E.P B 101 (impl_noteIn.con (impl_noteIn.c (R := R) k)) := con_ok E_orders E_eqs (GOk.cons impl_before.cb (impl_before.ok B k) GOk.nil) Tryz.func101 (by kernel_rfl) impl_noteIn.ds rfl (impl_noteIn.run k)
theorem impl_markIn.run (k : Nat) (args : List RV) (K : Ret → Option R) (o : R) (h : (impl_markIn.con (impl_markIn.c k)).run args K = some o) : ∃ args', All2 TyRV args args' ∧ evFunc E (impl_markIn.G (impl_markIn.g k)) k impl_markIn.H [] false Tryz.f104 args' K = some o := by
  unfold impl_markIn.con at h
  simp only at h
  split at h
  · rename_i pa0 A B C
    obtain ⟨a0, ta0, h⟩ := withRow_some (by simp) h
    exact ⟨_, (.cons (.val (.cons ta0 .nil)) (.cons (.val (.cons .s (.cons .s (.cons .s .nil)))) .nil)), (impl_markIn.evs (impl_markIn.g k) k a0 A B C K).trans h⟩
  · cases h
theorem impl_markIn.ds : dstB Tryz.f104.ntmps (bodyOf Tryz.f104) = true := by kernel_rfl
theorem impl_markIn.cb : callB E.P 104 = true := by kernel_rfl
theorem impl_markIn.ok (B : Base) (k : Nat) : ConOk E.P B 104 (impl_markIn.con (impl_markIn.c (R := R) k)) := con_ok E_orders E_eqs (GOk.cons impl_before.cb (impl_before.ok B k) GOk.nil) Tryz.func104 (by kernel_rfl) impl_markIn.ds rfl (impl_markIn.run k)
theorem impl_accept.run (k : Nat) (args : List RV) (K : Ret → Option R) (o : R) (h : (impl_accept.con (impl_accept.c k)).run args K = some o) : ∃ args', All2 TyRV args args' ∧ evFunc E (impl_accept.G (impl_accept.g k)) k impl_accept.H [] true Tryz.f99 args' K = some o := by
  unfold impl_accept.con at h
  simp only at h
  split at h
  · rename_i A B C X Y Z D F J M N
    obtain ⟨O, P, h⟩ := withRow_some (by simp) h
    obtain ⟨Q, S, h⟩ := withRow_some (by simp) h
    obtain ⟨U, W, h⟩ := withRow_some (by simp) h
    exact ⟨_, (.cons (.val (.cons .s (.cons .s (.cons .s (.cons P (.cons S (.cons W .nil))))))) (.cons (.val (.cons .s (.cons .s (.cons .s (.cons .s (.cons .s .nil)))))) .nil)), (impl_accept.evs (impl_accept.g k) k A B C O Q U D F J M N K).trans h⟩
  · cases h
theorem impl_accept.ds : dstB Tryz.f99.ntmps (bodyOf Tryz.f99) = true := by kernel_rfl
theorem impl_accept.cb : callB E.P 99 = true := by kernel_rfl
theorem impl_accept.ok (B : Base) (k : Nat) : ConOk E.P B 99 (impl_accept.con (impl_accept.c (R := R) k)) := con_ok E_orders E_eqs (GOk.cons impl_NoteOk.cb (impl_NoteOk.ok B k) (GOk.cons impl_noteAt.cb (impl_noteAt.ok B k) (GOk.cons impl_markAt.cb (impl_markAt.ok B k) (GOk.cons impl_noteIn.cb (impl_noteIn.ok B k) (GOk.cons impl_markIn.cb (impl_markIn.ok B k) GOk.nil))))) Tryz.func99 (by kernel_rfl) impl_accept.ds rfl (impl_accept.run k)
theorem impl_doNote.run (k : Nat) (args : List RV) (K : Ret → Option R) (o : R) (h : (impl_doNote.con (impl_doNote.c k)).run args K = some o) : ∃ args', All2 TyRV args args' ∧ evFunc E (impl_doNote.G (impl_doNote.g k)) k impl_doNote.H [] true Tryz.f62 args' K = some o := by
  unfold impl_doNote.con at h
  simp only at h
  split at h
  · rename_i A B C X Y Z a1 D F J M N
    obtain ⟨O, P, h⟩ := withRow_some (by simp) h
    obtain ⟨Q, S, h⟩ := withRow_some (by simp) h
    obtain ⟨U, W, h⟩ := withRow_some (by simp) h
    exact ⟨_, (.cons (.val (.cons .s (.cons .s (.cons .s (.cons P (.cons S (.cons W .nil))))))) (.cons (.val (.cons .s .nil)) (.cons (.val (.cons .s (.cons .s (.cons .s (.cons .s (.cons .s .nil)))))) .nil))), (impl_doNote.evs (impl_doNote.g k) k A B C O Q U a1 D F J M N K).trans h⟩
  · cases h
theorem impl_doNote.ds : dstB Tryz.f62.ntmps (bodyOf Tryz.f62) = true := by kernel_rfl
theorem impl_doNote.cb : callB E.P 62 = true := by kernel_rfl
theorem impl_doNote.ok (B : Base) (k : Nat) : ConOk E.P B 62 (impl_doNote.con (impl_doNote.c (R := R) k)) := con_ok E_orders E_eqs (GOk.cons impl_accept.cb (impl_accept.ok B k) (GOk.cons impl_noteAt.cb (impl_noteAt.ok B k) (GOk.cons impl_noteIn.cb (impl_noteIn.ok B k) GOk.nil))) Tryz.func62 (by kernel_rfl) impl_doNote.ds rfl (impl_doNote.run k)
theorem strings_Split.cb : callB E.P 64 = true := by kernel_rfl
theorem strings_Split.ok (B : Base) (hS : ExtS E.P B) (k : Nat) : ConOk E.P B 64 (strings_Split.con (strings_Split.c (R := R) k)) := by
  refine split_conok (fun s sep h0 h1 w hw => hS.elim fun m hm => Tryz.strings_Split s sep m w h0 (hm w hw) h1) _ rfl fun args K o h => ?_
  unfold strings_Split.con at h
  simp only at h
  split at h
  · rename_i a0 a1
    unfold strings_Split.c at h
    cases hc : (decide (a0.size < 4294967281) && decide (1 ≤ a1.size)) with
    | false => rw [hc] at h; cases h
    | true =>
      rw [hc] at h
      simp only [Bool.and_eq_true, decide_eq_true_eq] at hc
      exact ⟨a0, a1, rfl, hc, h⟩
  · cases h
theorem impl_noteOut.run (k : Nat) (args : List RV) (K : Ret → Option R) (o : R) (h : (impl_noteOut.con (impl_noteOut.c k)).run args K = some o) : ∃ args', All2 TyRV args args' ∧ evFunc E (impl_noteOut.G (impl_noteOut.g k)) k impl_noteOut.H [] false Tryz.f103 args' K = some o := by
  unfold impl_noteOut.con at h
  simp only at h
  split at h
  · rename_i pa0 a1
    obtain ⟨a0, ta0, h⟩ := withRow_some (by simp) h
    exact ⟨_, (.cons (.val (.cons ta0 .nil)) (.cons (.val (.cons .s .nil)) .nil)), (impl_noteOut.evs (impl_noteOut.g k) k a0 a1 K).trans h⟩
  · cases h
theorem impl_noteOut.ds : dstB Tryz.f103.ntmps (bodyOf Tryz.f103) = true := by kernel_rfl
theorem impl_noteOut.cb : callB E.P 103 = true := by kernel_rfl
theorem impl_noteOut.ok (B : Base) (k : Nat) : ConOk E.P B 103 (impl_noteOut.con (impl_noteOut.c (R := R) k)) := con_ok E_orders E_eqs GOk.nil Tryz.func103 (by kernel_rfl) impl_noteOut.ds rfl (impl_noteOut.run k)
theorem impl_doMark.run (k : Nat) (args : List RV) (K : Ret → Option R) (o : R) (h : (impl_doMark.con (impl_doMark.c k)).run args K = some o) : ∃ args', All2 TyRV args args' ∧ evFunc E (impl_doMark.G (impl_doMark.g k)) k impl_doMark.H [] true Tryz.f65 args' K = some o := by
  unfold impl_doMark.con at h
  simp only at h
  split at h
  · rename_i A B C U W X a1 D F J
    obtain ⟨M, N, h⟩ := withRow_some (by simp) h
    obtain ⟨O, P, h⟩ := withRow_some (by simp) h
    obtain ⟨Q, S, h⟩ := withRow_some (by simp) h
    exact ⟨_, (.cons (.val (.cons .s (.cons .s (.cons .s (.cons N (.cons P (.cons S .nil))))))) (.cons (.val (.cons .s .nil)) (.cons (.val (.cons .s (.cons .s (.cons .s .nil)))) .nil))), (impl_doMark.evs (impl_doMark.g k) k A B C M O Q a1 D F J K).trans h⟩
  · cases h
theorem impl_doMark.ds : dstB Tryz.f65.ntmps (bodyOf Tryz.f65) = true := by kernel_rfl
theorem impl_doMark.cb : callB E.P 65 = true := by kernel_rfl
theorem impl_doMark.ok (B : Base) (k : Nat) : ConOk E.P B 65 (impl_doMark.con (impl_doMark.c (R := R) k)) := con_ok E_orders E_eqs (GOk.cons impl_noteAt.cb (impl_noteAt.ok B k) (GOk.cons impl_markAt.cb (impl_markAt.ok B k) (GOk.cons impl_noteOut.cb (impl_noteOut.ok B k) (GOk.cons impl_markIn.cb (impl_markIn.ok B k) GOk.nil)))) Tryz.func65 (by kernel_rfl) impl_doMark.ds rfl (impl_doMark.run k)
theorem impl_apply.run (k : Nat) (args : List RV) (K : Ret → Option R) (o : R) (h : (impl_apply.con (impl_apply.c k)).run args K = some o) : ∃ args', All2 TyRV args args' ∧ evFunc E (impl_apply.G (impl_apply.g k)) k impl_apply.H [] false Tryz.f31 args' K = some o := by
  unfold impl_apply.con at h
  simp only at h
  split at h
  · rename_i A B C P Q S a1
    obtain ⟨D, F, h⟩ := withRow_some (by simp) h
    obtain ⟨J, M, h⟩ := withRow_some (by simp) h
    obtain ⟨N, O, h⟩ := withRow_some (by simp) h
    exact ⟨_, (.cons (.val (.cons .s (.cons .s (.cons .s (.cons F (.cons M (.cons O .nil))))))) (.cons (.val (.cons .s .nil)) .nil)), (impl_apply.evs (impl_apply.g k) k A B C D J N a1 K).trans h⟩
  · cases h
theorem impl_apply.ds : dstB Tryz.f31.ntmps (bodyOf Tryz.f31) = true := by kernel_rfl
theorem impl_apply.cb : callB E.P 31 = true := by kernel_rfl
theorem impl_apply.ok (B : Base) (hI : ExtI E.P B) (hS : ExtS E.P B) (k : Nat) : ConOk E.P B 31 (impl_apply.con (impl_apply.c (R := R) k)) := con_ok E_orders E_eqs (GOk.cons strings_Cut.cb (strings_Cut.ok B hS k) (GOk.cons impl_natural.cb (impl_natural.ok B k) (GOk.cons impl_doNum.cb (impl_doNum.ok B k) (GOk.cons impl_NoteRead.cb (impl_NoteRead.ok B hI hS k) (GOk.cons impl_doNote.cb (impl_doNote.ok B k) (GOk.cons strings_Split.cb (strings_Split.ok B hS k) (GOk.cons impl_naturals.cb (impl_naturals.ok B k) (GOk.cons impl_doMark.cb (impl_doMark.ok B k) GOk.nil)))))))) Tryz.func31 (by kernel_rfl) impl_apply.ds rfl (impl_apply.run k)
theorem impl_Note.run (k : Nat) (args : List RV) (K : Ret → Option R) (o : R) (h : (impl_Note.con (impl_Note.c k)).run args K = some o) : ∃ args', All2 TyRV args args' ∧ evFunc E (impl_Note.G (impl_Note.g k)) k impl_Note.H [] false Tryz.f66 args' K = some o := by
  unfold impl_Note.con at h
  simp only at h
  split at h
  · rename_i pa0
    obtain ⟨a0, ta0, h⟩ := withRow_some (by simp) h
    exact ⟨_, (.cons (.val (.cons ta0 .nil)) .nil), (impl_Note.evs (impl_Note.g k) k a0 K).trans h⟩
  · cases h
theorem impl_Note.ds : dstB Tryz.f66.ntmps (bodyOf Tryz.f66) = true := by kernel_rfl
theorem impl_Note.cb : callB E.P 66 = true := by kernel_rfl
theorem impl_Note.ok (B : Base) (k : Nat) : ConOk E.P B 66 (impl_Note.con (impl_Note.c (R := R) k)) := con_ok E_orders E_eqs GOk.nil Tryz.func66 (by kernel_rfl) impl_Note.ds rfl (impl_Note.run k)
theorem impl_Mark.run (k : Nat) (args : List RV) (K : Ret → Option R) (o : R) (h : (impl_Mark.con (impl_Mark.c k)).run args K = some o) : ∃ args', All2 TyRV args args' ∧ evFunc E (impl_Mark.G (impl_Mark.g k)) k impl_Mark.H [] false Tryz.f67 args' K = some o := by
  unfold impl_Mark.con at h
  simp only at h
  split at h
  · rename_i pa0
    obtain ⟨a0, ta0, h⟩ := withRow_some (by simp) h
    exact ⟨_, (.cons (.val (.cons ta0 .nil)) .nil), (impl_Mark.evs (impl_Mark.g k) k a0 K).trans h⟩
  · cases h
theorem impl_Mark.ds : dstB Tryz.f67.ntmps (bodyOf Tryz.f67) = true := by kernel_rfl
theorem impl_Mark.cb : callB E.P 67 = true := by kernel_rfl
theorem impl_Mark.ok (B : Base) (k : Nat) : ConOk E.P B 67 (impl_Mark.con (impl_Mark.c (R := R) k)) := con_ok E_orders E_eqs GOk.nil Tryz.func67 (by kernel_rfl) impl_Mark.ds rfl (impl_Mark.run k)
theorem impl_keepCopy.run (k : Nat) (args : List RV) (K : Ret → Option R) (o : R) (h : (impl_keepCopy.con (impl_keepCopy.c k)).run args K = some o) : ∃ args', All2 TyRV args args' ∧ evFunc E (impl_keepCopy.G (impl_keepCopy.g k)) k impl_keepCopy.H [] false Tryz.f32 args' K = some o := by
  unfold impl_keepCopy.con at h
  simp only at h
  split at h
  · rename_i A B C P Q S
    obtain ⟨D, F, h⟩ := withRow_some (by simp) h
    obtain ⟨J, M, h⟩ := withRow_some (by simp) h
    obtain ⟨N, O, h⟩ := withRow_some (by simp) h
    exact ⟨_, (.cons (.val (.cons .s (.cons .s (.cons .s (.cons F (.cons M (.cons O .nil))))))) .nil), (impl_keepCopy.evs (impl_keepCopy.g k) k A B C D J N K).trans h⟩
  · cases h
theorem impl_keepCopy.ds : dstB Tryz.f32.ntmps (bodyOf Tryz.f32) = true := by kernel_rfl
theorem impl_keepCopy.cb : callB E.P 32 = true := by kernel_rfl
theorem impl_keepCopy.ok (B : Base) (k : Nat) : ConOk E.P B 32 (impl_keepCopy.con (impl_keepCopy.c (R := R) k)) := con_ok E_orders E_eqs (GOk.cons impl_Note.cb (impl_Note.ok B k) (GOk.cons impl_Mark.cb (impl_Mark.ok B k) GOk.nil)) Tryz.func32 (by kernel_rfl) impl_keepCopy.ds rfl (impl_keepCopy.run k)
theorem impl_KeepDo.run (k : Nat) (args : List RV) (K : Ret → Option R) (o : R) (h : (impl_KeepDo.con (impl_KeepDo.c k)).run args K = some o) : ∃ args', All2 TyRV args args' ∧ evFunc E (impl_KeepDo.G (impl_KeepDo.g k)) k impl_KeepDo.H [] false Tryz.f10 args' K = some o := by
  unfold impl_KeepDo.con at h
  simp only at h
  split at h
  · rename_i A B C P Q S a1
    obtain ⟨D, F, h⟩ := withRow_some (by simp) h
    obtain ⟨J, M, h⟩ := withRow_some (by simp) h
    obtain ⟨N, O, h⟩ := withRow_some (by simp) h
    exact ⟨_, (.cons (.val (.cons .s (.cons .s (.cons .s (.cons F (.cons M (.cons O .nil))))))) (.cons (.val (.cons .s .nil)) .nil)), (impl_KeepDo.evs (impl_KeepDo.g k) k A B C D J N a1 K).trans h⟩
  · cases h
theorem impl_KeepDo.ds : dstB Tryz.f10.ntmps (bodyOf Tryz.f10) = true := by kernel_rfl
theorem impl_KeepDo.cb : callB E.P 10 = true := by kernel_rfl
theorem impl_KeepDo.ok (B : Base) (hI : ExtI E.P B) (hS : ExtS E.P B) (k : Nat) : ConOk E.P B 10 (impl_KeepDo.con (impl_KeepDo.c (R := R) k)) := con_ok E_orders E_eqs (GOk.cons impl_KeepOk.cb (impl_KeepOk.ok B k) (GOk.cons impl_keepCopy.cb (impl_keepCopy.ok B k) (GOk.cons impl_apply.cb (impl_apply.ok B hI hS k) GOk.nil))) Tryz.func10 (by kernel_rfl) impl_KeepDo.ds rfl (impl_KeepDo.run k)
theorem impl_KeepStart.run (k : Nat) (args : List RV) (K : Ret → Option R) (o : R) (h : (impl_KeepStart.con (impl_KeepStart.c k)).run args K = some o) : ∃ args', All2 TyRV args args' ∧ evFunc E (impl_KeepStart.G (impl_KeepStart.g k)) k impl_KeepStart.H [] false Tryz.f11 args' K = some o := by
  unfold impl_KeepStart.con at h
  simp only at h
  split at h
  · rename_i a0
    exact ⟨_, (.cons (.val (.cons .s .nil)) .nil), (impl_KeepStart.evs (impl_KeepStart.g k) k a0 K).trans h⟩
  · cases h
theorem impl_KeepStart.ds : dstB Tryz.f11.ntmps (bodyOf Tryz.f11) = true := by kernel_rfl
theorem impl_KeepStart.cb : callB E.P 11 = true := by kernel_rfl
theorem impl_KeepStart.ok (B : Base) (k : Nat) : ConOk E.P B 11 (impl_KeepStart.con (impl_KeepStart.c (R := R) k)) := con_ok E_orders E_eqs (GOk.cons impl_isNode.cb (impl_isNode.ok B k) GOk.nil) Tryz.func11 (by kernel_rfl) impl_KeepStart.ds rfl (impl_KeepStart.run k)
theorem impl_KeepOf.run (k : Nat) (args : List RV) (K : Ret → Option R) (o : R) (h : (impl_KeepOf.con (impl_KeepOf.c k)).run args K = some o) : ∃ args', All2 TyRV args args' ∧ evFunc E (impl_KeepOf.G (impl_KeepOf.g k)) k impl_KeepOf.H [] false Tryz.f8 args' K = some o := by
  unfold impl_KeepOf.con at h
  simp only at h
  split at h
  · rename_i a0 pa1
    obtain ⟨a1, ta1, h⟩ := withRow_some (by simp) h
    exact ⟨_, (.cons (.val (.cons .s .nil)) (.cons (.val (.cons ta1 .nil)) .nil)), (impl_KeepOf.evs (impl_KeepOf.g k) k a0 a1 K).trans h⟩
  · cases h
theorem impl_KeepOf.ds : dstB Tryz.f8.ntmps (bodyOf Tryz.f8) = true := by kernel_rfl
theorem impl_KeepOf.cb : callB E.P 8 = true := by kernel_rfl
theorem impl_KeepOf.ok (B : Base) (hI : ExtI E.P B) (hS : ExtS E.P B) (k : Nat) : ConOk E.P B 8 (impl_KeepOf.con (impl_KeepOf.c (R := R) k)) := con_ok E_orders E_eqs (GOk.cons impl_isNode.cb (impl_isNode.ok B k) (GOk.cons impl_KeepStart.cb (impl_KeepStart.ok B k) (GOk.cons impl_KeepDo.cb (impl_KeepDo.ok B hI hS k) GOk.nil))) Tryz.func8 (by kernel_rfl) impl_KeepOf.ds rfl (impl_KeepOf.run k)
theorem laws_lbNotes.run (k : Nat) (args : List RV) (K : Ret → Option R) (o : R) (h : (laws_lbNotes.con (laws_lbNotes.c k)).run args K = some o) : ∃ args', All2 TyRV args args' ∧ evFunc E (laws_lbNotes.G (laws_lbNotes.g k)) k laws_lbNotes.H [] false Tryz.f28 args' K = some o := by
  unfold laws_lbNotes.con at h
  simp only at h
  split at h
  · rename_i pa0 pa1
    obtain ⟨a0, ta0, h⟩ := withRow_some (by simp) h
    obtain ⟨a1, ta1, h⟩ := withRow_some (by simp) h
    exact ⟨_, (.cons (.val (.cons ta0 .nil)) (.cons (.val (.cons ta1 .nil)) .nil)), (laws_lbNotes.evs (laws_lbNotes.g k) k a0 a1 K).trans h⟩
  · cases h
theorem laws_lbNotes.ds : dstB Tryz.f28.ntmps (bodyOf Tryz.f28) = true := by kernel_rfl
theorem laws_lbNotes.cb : callB E.P 28 = true := by kernel_rfl
theorem laws_lbNotes.ok (B : Base) (k : Nat) : ConOk E.P B 28 (laws_lbNotes.con (laws_lbNotes.c (R := R) k)) := con_ok E_orders E_eqs GOk.nil Tryz.func28 (by kernel_rfl) laws_lbNotes.ds rfl (laws_lbNotes.run k)
theorem laws_lbMarks.run (k : Nat) (args : List RV) (K : Ret → Option R) (o : R) (h : (laws_lbMarks.con (laws_lbMarks.c k)).run args K = some o) : ∃ args', All2 TyRV args args' ∧ evFunc E (laws_lbMarks.G (laws_lbMarks.g k)) k laws_lbMarks.H [] false Tryz.f29 args' K = some o := by
  unfold laws_lbMarks.con at h
  simp only at h
  split at h
  · rename_i pa0 pa1
    obtain ⟨a0, ta0, h⟩ := withRow_some (by simp) h
    obtain ⟨a1, ta1, h⟩ := withRow_some (by simp) h
    exact ⟨_, (.cons (.val (.cons ta0 .nil)) (.cons (.val (.cons ta1 .nil)) .nil)), (laws_lbMarks.evs (laws_lbMarks.g k) k a0 a1 K).trans h⟩
  · cases h
theorem laws_lbMarks.ds : dstB Tryz.f29.ntmps (bodyOf Tryz.f29) = true := by kernel_rfl
theorem laws_lbMarks.cb : callB E.P 29 = true := by kernel_rfl
theorem laws_lbMarks.ok (B : Base) (k : Nat) : ConOk E.P B 29 (laws_lbMarks.con (laws_lbMarks.c (R := R) k)) := con_ok E_orders E_eqs GOk.nil Tryz.func29 (by kernel_rfl) laws_lbMarks.ds rfl (laws_lbMarks.run k)
theorem laws_lbKeep.run (k : Nat) (args : List RV) (K : Ret → Option R) (o : R) (h : (laws_lbKeep.con (laws_lbKeep.c k)).run args K = some o) : ∃ args', All2 TyRV args args' ∧ evFunc E (laws_lbKeep.G (laws_lbKeep.g k)) k laws_lbKeep.H [] false Tryz.f9 args' K = some o := by
  unfold laws_lbKeep.con at h
  simp only at h
  split at h
  · rename_i A B C aB aC aD D F J aE aF aG
    obtain ⟨M, N, h⟩ := withRow_some (by simp) h
    obtain ⟨O, P, h⟩ := withRow_some (by simp) h
    obtain ⟨Q, S, h⟩ := withRow_some (by simp) h
    obtain ⟨U, W, h⟩ := withRow_some (by simp) h
    obtain ⟨X, Y, h⟩ := withRow_some (by simp) h
    obtain ⟨Z, aA, h⟩ := withRow_some (by simp) h
    exact ⟨_, (.cons (.val (.cons .s (.cons .s (.cons .s (.cons N (.cons P (.cons S .nil))))))) (.cons (.val (.cons .s (.cons .s (.cons .s (.cons W (.cons Y (.cons aA .nil))))))) .nil)), (laws_lbKeep.evs (laws_lbKeep.g k) k A B C M O Q D F J U X Z K).trans h⟩
  · cases h
theorem laws_lbKeep.ds : dstB Tryz.f9.ntmps (bodyOf Tryz.f9) = true := by kernel_rfl
theorem laws_lbKeep.cb : callB E.P 9 = true := by kernel_rfl
theorem laws_lbKeep.ok (B : Base) (k : Nat) : ConOk E.P B 9 (laws_lbKeep.con (laws_lbKeep.c (R := R) k)) := con_ok E_orders E_eqs (GOk.cons laws_lbNotes.cb (laws_lbNotes.ok B k) (GOk.cons laws_lbMarks.cb (laws_lbMarks.ok B k) GOk.nil)) Tryz.func9 (by kernel_rfl) laws_lbKeep.ds rfl (laws_lbKeep.run k)
theorem laws_FnKeepOf.inn (f : laws_FnKeepOf.T R) (a0 a1 : List Int) (K : Ret → Option R) : (laws_FnKeepOf.con f).run [.val false [.row .ro [.int .u8] a0], .val false [.row .ro [.int .u8] a1]] K = f a0 a1 (fun r1 => K ⟨[.val false [.s (.bool r1)]], []⟩) := by kernel_rfl
theorem laws_FnKeepOf.run (k : Nat) (args : List RV) (K : Ret → Option R) (o : R) (h : (laws_FnKeepOf.con (laws_FnKeepOf.c k)).run args K = some o) : ∃ args', All2 TyRV args args' ∧ evFunc E (laws_FnKeepOf.G (laws_FnKeepOf.g k)) k laws_FnKeepOf.H [] false Tryz.f3 args' K = some o := by
  unfold laws_FnKeepOf.con at h
  simp only at h
  split at h
  · rename_i pa0 pa1
    obtain ⟨a0, ta0, h⟩ := withRow_some (by simp) h
    obtain ⟨a1, ta1, h⟩ := withRow_some (by simp) h
    exact ⟨_, (.cons (.val (.cons ta0 .nil)) (.cons (.val (.cons ta1 .nil)) .nil)), (laws_FnKeepOf.evs (laws_FnKeepOf.g k) k a0 a1 K).trans h⟩
  · cases h
theorem laws_FnKeepOf.ds : dstB Tryz.f3.ntmps (bodyOf Tryz.f3) = true := by kernel_rfl
theorem laws_FnKeepOf.cb : callB E.P 3 = true := by kernel_rfl
theorem laws_FnKeepOf.ok (B : Base) (hI : ExtI E.P B) (hS : ExtS E.P B) (k : Nat) : ConOk E.P B 3 (laws_FnKeepOf.con (laws_FnKeepOf.c (R := R) k)) := con_ok E_orders E_eqs (GOk.cons spec_DrawKeepOf.cb (spec_DrawKeepOf.ok B k) (GOk.cons spec_KeepOf.cb (spec_KeepOf.ok B k) (GOk.cons impl_KeepOf.cb (impl_KeepOf.ok B hI hS k) (GOk.cons laws_lbKeep.cb (laws_lbKeep.ok B k) (GOk.cons impl_KeepDo.cb (impl_KeepDo.ok B hI hS k) (GOk.cons impl_KeepStart.cb (impl_KeepStart.ok B k) (GOk.cons spec_KeepStart.cb (spec_KeepStart.ok B k) GOk.nil))))))) Tryz.func3 (by kernel_rfl) laws_FnKeepOf.ds rfl (laws_FnKeepOf.run k)
end Go.Ev.F
