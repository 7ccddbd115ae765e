/- What the Go functions compute is what the machine does. No condition. Written by a program of this session. -/
import Derived.Test.YtidmkpeokahjoaaDoorEvtFnExactKeepRecs
import Derived.Test.YtidmkpeokahjoaaDoorSoE
import Derived.Test.YtidmkpeokahjoaaDoorExt
import Derived.Test.YtidmkpeokahjoaaDoorShf
namespace Go.Ev.F
open Go.Proofs
set_option linter.unusedVariables false
set_option maxRecDepth 100000
theorem E_orders : E.P.follows .mixedOrders = true := by kernel_rfl
theorem E_eqs : ∀ t ∈ E.eqs, eqFree E.P t = true := List.all_eq_true.mp (by kernel_rfl)
theorem laws_eqStringS.inn {R : Type} (f : laws_eqStringS.T R) (a0 : List ByteArray) (a1 : List ByteArray) (K : Ret → Option R) : (laws_eqStringS.con f).run [.val false [.row .ro [.str] a0], .val false [.row .ro [.str] a1]] K = f a0 a1 (fun r1 => K ⟨[.val false [.s (.bool r1)]], []⟩) := by kernel_rfl
theorem laws_eqStringS.run {R : Type} (k : Nat) (args : List RV) (K : Ret → Option R) (o : R) (h : (laws_eqStringS.con (laws_eqStringS.c k)).run args K = some o) : ∃ args', All2 TyRV args args' ∧ evFunc E (laws_eqStringS.G ⟨()⟩) k laws_eqStringS.H [] false Tryd.f23 args' K = some o := by
  unfold laws_eqStringS.con at h
  simp only at h
  split at h
  · rename_i pa0 pa1
    obtain ⟨a0, ta0, h⟩ := withRow_some (by simp) h
    obtain ⟨a1, ta1, h⟩ := withRow_some (by simp) h
    exact ⟨_, (.cons (.val (.cons ta0 .nil)) (.cons (.val (.cons ta1 .nil)) .nil)), (laws_eqStringS.evs ⟨()⟩ k a0 a1 K).trans h⟩
  · cases h
theorem laws_eqStringS.ds : dstB Tryd.f23.ntmps (bodyOf Tryd.f23) = true := by kernel_rfl
theorem laws_eqStringS.cb : callB E.P 23 = true := by kernel_rfl
theorem laws_eqStringS.ok {R : Type} (B : Base) (k : Nat) : ConOk E.P B 23 (laws_eqStringS.con (laws_eqStringS.c (R := R) k)) := con_ok E_orders E_eqs GOk.nil Tryd.func23 (by kernel_rfl) laws_eqStringS.ds rfl (laws_eqStringS.run k)
theorem laws_szNote.inn {R : Type} (f : laws_szNote.T R) (a0_0 : Int) (a0_1 : Int) (a0_2 : Int) (a0_3 : Int) (a0_4 : ByteArray) (a1 : Int) (K : Ret → Option R) : (laws_szNote.con f).run [.val true [.s (.int .i64 a0_0), .s (.int .i64 a0_1), .s (.int .i64 a0_2), .s (.int .i64 a0_3), .s (.string a0_4)], .val false [.s (.int .i64 a1)]] K = f a0_0 a0_1 a0_2 a0_3 a0_4 a1 (fun r1 => K ⟨[.val false [.s (.int .i64 r1)]], []⟩) := by kernel_rfl
theorem laws_szNote.run {R : Type} (k : Nat) (args : List RV) (K : Ret → Option R) (o : R) (h : (laws_szNote.con (laws_szNote.c k)).run args K = some o) : ∃ args', All2 TyRV args args' ∧ evFunc E (laws_szNote.G ⟨()⟩) k laws_szNote.H [] false Tryd.f95 args' K = some o := by
  unfold laws_szNote.con at h
  simp only at h
  split at h
  · rename_i a0_0 a0_1 a0_2 a0_3 a0_4 a1
    exact ⟨_, (.cons (.val (.cons .s (.cons .s (.cons .s (.cons .s (.cons .s .nil)))))) (.cons (.val (.cons .s .nil)) .nil)), (laws_szNote.evs ⟨()⟩ k a0_0 a0_1 a0_2 a0_3 a0_4 a1 K).trans h⟩
  · cases h
theorem laws_szNote.ds : dstB Tryd.f95.ntmps (bodyOf Tryd.f95) = true := by kernel_rfl
theorem laws_szNote.cb : callB E.P 95 = true := by kernel_rfl
theorem laws_szNote.ok {R : Type} (B : Base) (k : Nat) : ConOk E.P B 95 (laws_szNote.con (laws_szNote.c (R := R) k)) := con_ok E_orders E_eqs GOk.nil Tryd.func95 (by kernel_rfl) laws_szNote.ds rfl (laws_szNote.run k)
theorem laws_szNoteS.inn {R : Type} (f : laws_szNoteS.T R) (a0 : List (Int × Int × Int × Int × ByteArray)) (a1 : Int) (K : Ret → Option R) : (laws_szNoteS.con f).run [.val false [.row .ro [.int .i64, .int .i64, .int .i64, .int .i64, .str] a0], .val false [.s (.int .i64 a1)]] K = f a0 a1 (fun r1 => K ⟨[.val false [.s (.int .i64 r1)]], []⟩) := by kernel_rfl
theorem laws_szNoteS.run {R : Type} (k : Nat) (args : List RV) (K : Ret → Option R) (o : R) (h : (laws_szNoteS.con (laws_szNoteS.c k)).run args K = some o) : ∃ args', All2 TyRV args args' ∧ evFunc E (laws_szNoteS.G ⟨(), laws_szNote.c k⟩) k laws_szNoteS.H [] false Tryd.f74 args' K = some o := by
  unfold laws_szNoteS.con at h
  simp only at h
  split at h
  · rename_i pa0 a1
    obtain ⟨a0, ta0, h⟩ := withRow_some (by simp) h
    exact ⟨_, (.cons (.val (.cons ta0 .nil)) (.cons (.val (.cons .s .nil)) .nil)), (laws_szNoteS.evs ⟨(), laws_szNote.c k⟩ k a0 a1 K).trans h⟩
  · cases h
theorem laws_szNoteS.ds : dstB Tryd.f74.ntmps (bodyOf Tryd.f74) = true := by kernel_rfl
theorem laws_szNoteS.cb : callB E.P 74 = true := by kernel_rfl
theorem laws_szNoteS.ok {R : Type} (B : Base) (k : Nat) : ConOk E.P B 74 (laws_szNoteS.con (laws_szNoteS.c (R := R) k)) := con_ok E_orders E_eqs (GOk.cons laws_szNote.cb (laws_szNote.ok B k) GOk.nil) Tryd.func74 (by kernel_rfl) laws_szNoteS.ds rfl (laws_szNoteS.run k)
theorem laws_szMarkS.inn {R : Type} (f : laws_szMarkS.T R) (a0 : List (Int × Int × Int)) (a1 : Int) (K : Ret → Option R) : (laws_szMarkS.con f).run [.val false [.row .ro [.int .i64, .int .i64, .int .i64] a0], .val false [.s (.int .i64 a1)]] K = f a0 a1 (fun r1 => K ⟨[.val false [.s (.int .i64 r1)]], []⟩) := by kernel_rfl
theorem laws_szMarkS.run {R : Type} (k : Nat) (args : List RV) (K : Ret → Option R) (o : R) (h : (laws_szMarkS.con (laws_szMarkS.c k)).run args K = some o) : ∃ args', All2 TyRV args args' ∧ evFunc E (laws_szMarkS.G ⟨()⟩) k laws_szMarkS.H [] false Tryd.f75 args' K = some o := by
  unfold laws_szMarkS.con at h
  simp only at h
  split at h
  · rename_i pa0 a1
    obtain ⟨a0, ta0, h⟩ := withRow_some (by simp) h
    exact ⟨_, (.cons (.val (.cons ta0 .nil)) (.cons (.val (.cons .s .nil)) .nil)), (laws_szMarkS.evs ⟨()⟩ k a0 a1 K).trans h⟩
  · cases h
theorem laws_szMarkS.ds : dstB Tryd.f75.ntmps (bodyOf Tryd.f75) = true := by kernel_rfl
theorem laws_szMarkS.cb : callB E.P 75 = true := by kernel_rfl
theorem laws_szMarkS.ok {R : Type} (B : Base) (k : Nat) : ConOk E.P B 75 (laws_szMarkS.con (laws_szMarkS.c (R := R) k)) := con_ok E_orders E_eqs GOk.nil Tryd.func75 (by kernel_rfl) laws_szMarkS.ds rfl (laws_szMarkS.run k)
theorem laws_szKeep.inn {R : Type} (f : laws_szKeep.T R) (a0_0 : Int) (a0_1 : Int) (a0_2 : Int) (a0_3 : List (Int × Int × Int × Int × ByteArray)) (a0_4 : List (Int × Int × Int)) (a0_5 : List (Int × Int × Int × Int × ByteArray)) (a1 : Int) (K : Ret → Option R) : (laws_szKeep.con f).run [.val true [.s (.int .i64 a0_0), .s (.int .i64 a0_1), .s (.int .i64 a0_2), .row .ro [.int .i64, .int .i64, .int .i64, .int .i64, .str] a0_3, .row .ro [.int .i64, .int .i64, .int .i64] a0_4, .row .ro [.int .i64, .int .i64, .int .i64, .int .i64, .str] a0_5], .val false [.s (.int .i64 a1)]] K = f a0_0 a0_1 a0_2 a0_3 a0_4 a0_5 a1 (fun r1 => K ⟨[.val false [.s (.int .i64 r1)]], []⟩) := by kernel_rfl
theorem laws_szKeep.run {R : Type} (k : Nat) (args : List RV) (K : Ret → Option R) (o : R) (h : (laws_szKeep.con (laws_szKeep.c k)).run args K = some o) : ∃ args', All2 TyRV args args' ∧ evFunc E (laws_szKeep.G ⟨(), laws_szNoteS.c k, laws_szMarkS.c k⟩) k laws_szKeep.H [] false Tryd.f42 args' K = some o := by
  unfold laws_szKeep.con at h
  simp only at h
  split at h
  · rename_i a0_0 a0_1 a0_2 pa0_3 pa0_4 pa0_5 a1
    obtain ⟨a0_3, ta0_3, h⟩ := withRow_some (by simp) h
    obtain ⟨a0_4, ta0_4, h⟩ := withRow_some (by simp) h
    obtain ⟨a0_5, ta0_5, h⟩ := withRow_some (by simp) h
    exact ⟨_, (.cons (.val (.cons .s (.cons .s (.cons .s (.cons ta0_3 (.cons ta0_4 (.cons ta0_5 .nil))))))) (.cons (.val (.cons .s .nil)) .nil)), (laws_szKeep.evs ⟨(), laws_szNoteS.c k, laws_szMarkS.c k⟩ k a0_0 a0_1 a0_2 a0_3 a0_4 a0_5 a1 K).trans h⟩
  · cases h
theorem laws_szKeep.ds : dstB Tryd.f42.ntmps (bodyOf Tryd.f42) = true := by kernel_rfl
theorem laws_szKeep.cb : callB E.P 42 = true := by kernel_rfl
theorem laws_szKeep.ok {R : Type} (B : Base) (k : Nat) : ConOk E.P B 42 (laws_szKeep.con (laws_szKeep.c (R := R) k)) := con_ok E_orders E_eqs (GOk.cons laws_szNoteS.cb (laws_szNoteS.ok B k) (GOk.cons laws_szMarkS.cb (laws_szMarkS.ok B k) GOk.nil)) Tryd.func42 (by kernel_rfl) laws_szKeep.ds rfl (laws_szKeep.run k)
theorem spec_l6In.inn {R : Type} (f : spec_l6In.T R) (a0 : Int) (a1 : Int) (a2 : Int) (K : Ret → Option R) : (spec_l6In.con f).run [.val false [.s (.int .i64 a0)], .val false [.s (.int .i64 a1)], .val false [.s (.int .i64 a2)]] K = f a0 a1 a2 (fun r1 => K ⟨[.val false [.s (.bool r1)]], []⟩) := by kernel_rfl
theorem spec_l6In.run {R : Type} (k : Nat) (args : List RV) (K : Ret → Option R) (o : R) (h : (spec_l6In.con (spec_l6In.c k)).run args K = some o) : ∃ args', All2 TyRV args args' ∧ evFunc E (spec_l6In.G ⟨()⟩) k spec_l6In.H [] false Tryd.f56 args' K = some o := by
  unfold spec_l6In.con at h
  simp only at h
  split at h
  · rename_i a0 a1 a2
    exact ⟨_, (.cons (.val (.cons .s .nil)) (.cons (.val (.cons .s .nil)) (.cons (.val (.cons .s .nil)) .nil))), (spec_l6In.evs ⟨()⟩ k a0 a1 a2 K).trans h⟩
  · cases h
theorem spec_l6In.ds : dstB Tryd.f56.ntmps (bodyOf Tryd.f56) = true := by kernel_rfl
theorem spec_l6In.cb : callB E.P 56 = true := by kernel_rfl
theorem spec_l6In.ok {R : Type} (B : Base) (k : Nat) : ConOk E.P B 56 (spec_l6In.con (spec_l6In.c (R := R) k)) := con_ok E_orders E_eqs GOk.nil Tryd.func56 (by kernel_rfl) spec_l6In.ds rfl (spec_l6In.run k)
theorem spec_l3Keeper.inn {R : Type} (f : spec_l3Keeper.T R) (a0 : Int) (K : Ret → Option R) : (spec_l3Keeper.con f).run [.val false [.s (.int .i64 a0)]] K = f a0 (fun r1 => K ⟨[.val false [.s (.bool r1)]], []⟩) := by kernel_rfl
theorem spec_l3Keeper.run {R : Type} (k : Nat) (args : List RV) (K : Ret → Option R) (o : R) (h : (spec_l3Keeper.con (spec_l3Keeper.c k)).run args K = some o) : ∃ args', All2 TyRV args args' ∧ evFunc E (spec_l3Keeper.G ⟨(), spec_l6In.c k⟩) k spec_l3Keeper.H [] false Tryd.f69 args' K = some o := by
  unfold spec_l3Keeper.con at h
  simp only at h
  split at h
  · rename_i a0
    exact ⟨_, (.cons (.val (.cons .s .nil)) .nil), (spec_l3Keeper.evs ⟨(), spec_l6In.c k⟩ k a0 K).trans h⟩
  · cases h
theorem spec_l3Keeper.ds : dstB Tryd.f69.ntmps (bodyOf Tryd.f69) = true := by kernel_rfl
theorem spec_l3Keeper.cb : callB E.P 69 = true := by kernel_rfl
theorem spec_l3Keeper.ok {R : Type} (B : Base) (k : Nat) : ConOk E.P B 69 (spec_l3Keeper.con (spec_l3Keeper.c (R := R) k)) := con_ok E_orders E_eqs (GOk.cons spec_l6In.cb (spec_l6In.ok B k) GOk.nil) Tryd.func69 (by kernel_rfl) spec_l3Keeper.ds rfl (spec_l3Keeper.run k)
theorem spec_NoteOk.inn {R : Type} (f : spec_NoteOk.T R) (a0_0 : Int) (a0_1 : Int) (a0_2 : Int) (a0_3 : Int) (a0_4 : ByteArray) (K : Ret → Option R) : (spec_NoteOk.con f).run [.val true [.s (.int .i64 a0_0), .s (.int .i64 a0_1), .s (.int .i64 a0_2), .s (.int .i64 a0_3), .s (.string a0_4)]] K = f a0_0 a0_1 a0_2 a0_3 a0_4 (fun r1 => K ⟨[.val false [.s (.bool r1)]], []⟩) := by kernel_rfl
theorem spec_NoteOk.run {R : Type} (k : Nat) (args : List RV) (K : Ret → Option R) (o : R) (h : (spec_NoteOk.con (spec_NoteOk.c k)).run args K = some o) : ∃ args', All2 TyRV args args' ∧ evFunc E (spec_NoteOk.G ⟨(), spec_l3Keeper.c k, spec_l6In.c k⟩) k spec_NoteOk.H [] false Tryd.f38 args' K = some o := by
  unfold spec_NoteOk.con at h
  simp only at h
  split at h
  · rename_i a0_0 a0_1 a0_2 a0_3 a0_4
    exact ⟨_, (.cons (.val (.cons .s (.cons .s (.cons .s (.cons .s (.cons .s .nil)))))) .nil), (spec_NoteOk.evs ⟨(), spec_l3Keeper.c k, spec_l6In.c k⟩ k a0_0 a0_1 a0_2 a0_3 a0_4 K).trans h⟩
  · cases h
theorem spec_NoteOk.ds : dstB Tryd.f38.ntmps (bodyOf Tryd.f38) = true := by kernel_rfl
theorem spec_NoteOk.cb : callB E.P 38 = true := by kernel_rfl
theorem spec_NoteOk.ok {R : Type} (B : Base) (k : Nat) : ConOk E.P B 38 (spec_NoteOk.con (spec_NoteOk.c (R := R) k)) := con_ok E_orders E_eqs (GOk.cons spec_l3Keeper.cb (spec_l3Keeper.ok B k) (GOk.cons spec_l6In.cb (spec_l6In.ok B k) GOk.nil)) Tryd.func38 (by kernel_rfl) spec_NoteOk.ds rfl (spec_NoteOk.run k)
theorem spec_l6Dec.inn {R : Type} (f : spec_l6Dec.T R) (a0 : Int) (K : Ret → Option R) : (spec_l6Dec.con f).run [.val false [.s (.int .i64 a0)]] K = f a0 (fun r1 => K ⟨[.val false [.s (.string r1)]], []⟩) := by kernel_rfl
theorem spec_l6Dec.run {R : Type} (k : Nat) (args : List RV) (K : Ret → Option R) (o : R) (h : (spec_l6Dec.con (spec_l6Dec.c (k + 1))).run args K = some o) : ∃ args', All2 TyRV args args' ∧ evFunc E (spec_l6Dec.G ⟨(), spec_l6Dec.c k⟩) k spec_l6Dec.H [] false Tryd.f68 args' K = some o := by
  unfold spec_l6Dec.con at h
  simp only at h
  split at h
  · rename_i a0
    exact ⟨_, (.cons (.val (.cons .s .nil)) .nil), (spec_l6Dec.evs ⟨(), spec_l6Dec.c k⟩ k a0 K).trans h⟩
  · cases h
theorem spec_l6Dec.ds : dstB Tryd.f68.ntmps (bodyOf Tryd.f68) = true := by kernel_rfl
theorem spec_l6Dec.cb : callB E.P 68 = true := by kernel_rfl
theorem spec_l6Dec.ok {R : Type} (B : Base) : ∀ k, ConOk E.P B 68 (spec_l6Dec.con (spec_l6Dec.c (R := R) k))
  | 0 => by
    intro args K o h
    exfalso
    unfold spec_l6Dec.con at h
    simp only at h
    split at h
    · cases h
    · cases h
  | k + 1 => by
    have ih := spec_l6Dec.ok (R := R) B k
    exact con_ok E_orders E_eqs (GOk.cons spec_l6Dec.cb ih GOk.nil) Tryd.func68 (by kernel_rfl) spec_l6Dec.ds rfl (spec_l6Dec.run k)
theorem spec_NoteWrite.inn {R : Type} (f : spec_NoteWrite.T R) (a0_0 : Int) (a0_1 : Int) (a0_2 : Int) (a0_3 : Int) (a0_4 : ByteArray) (K : Ret → Option R) : (spec_NoteWrite.con f).run [.val true [.s (.int .i64 a0_0), .s (.int .i64 a0_1), .s (.int .i64 a0_2), .s (.int .i64 a0_3), .s (.string a0_4)]] K = f a0_0 a0_1 a0_2 a0_3 a0_4 (fun r1 => K ⟨[.val false [.s (.string r1)]], []⟩) := by kernel_rfl
theorem spec_NoteWrite.run {R : Type} (k : Nat) (args : List RV) (K : Ret → Option R) (o : R) (h : (spec_NoteWrite.con (spec_NoteWrite.c k)).run args K = some o) : ∃ args', All2 TyRV args args' ∧ evFunc E (spec_NoteWrite.G ⟨(), spec_NoteOk.c k, spec_l6Dec.c k⟩) k spec_NoteWrite.H [] false Tryd.f37 args' K = some o := by
  unfold spec_NoteWrite.con at h
  simp only at h
  split at h
  · rename_i a0_0 a0_1 a0_2 a0_3 a0_4
    exact ⟨_, (.cons (.val (.cons .s (.cons .s (.cons .s (.cons .s (.cons .s .nil)))))) .nil), (spec_NoteWrite.evs ⟨(), spec_NoteOk.c k, spec_l6Dec.c k⟩ k a0_0 a0_1 a0_2 a0_3 a0_4 K).trans h⟩
  · cases h
theorem spec_NoteWrite.ds : dstB Tryd.f37.ntmps (bodyOf Tryd.f37) = true := by kernel_rfl
theorem spec_NoteWrite.cb : callB E.P 37 = true := by kernel_rfl
theorem spec_NoteWrite.ok {R : Type} (B : Base) (k : Nat) : ConOk E.P B 37 (spec_NoteWrite.con (spec_NoteWrite.c (R := R) k)) := con_ok E_orders E_eqs (GOk.cons spec_NoteOk.cb (spec_NoteOk.ok B k) (GOk.cons spec_l6Dec.cb (spec_l6Dec.ok B k) GOk.nil)) Tryd.func37 (by kernel_rfl) spec_NoteWrite.ds rfl (spec_NoteWrite.run k)
theorem spec_l12Less.inn {R : Type} (f : spec_l12Less.T R) (a0 : Int) (a1 : Int) (a2 : Int) (a3 : Int) (K : Ret → Option R) : (spec_l12Less.con f).run [.val false [.s (.int .i64 a0)], .val false [.s (.int .i64 a1)], .val false [.s (.int .i64 a2)], .val false [.s (.int .i64 a3)]] K = f a0 a1 a2 a3 (fun r1 => K ⟨[.val false [.s (.bool r1)]], []⟩) := by kernel_rfl
theorem spec_l12Less.run {R : Type} (k : Nat) (args : List RV) (K : Ret → Option R) (o : R) (h : (spec_l12Less.con (spec_l12Less.c k)).run args K = some o) : ∃ args', All2 TyRV args args' ∧ evFunc E (spec_l12Less.G ⟨()⟩) k spec_l12Less.H [] false Tryd.f111 args' K = some o := by
  unfold spec_l12Less.con at h
  simp only at h
  split at h
  · rename_i a0 a1 a2 a3
    exact ⟨_, (.cons (.val (.cons .s .nil)) (.cons (.val (.cons .s .nil)) (.cons (.val (.cons .s .nil)) (.cons (.val (.cons .s .nil)) .nil)))), (spec_l12Less.evs ⟨()⟩ k a0 a1 a2 a3 K).trans h⟩
  · cases h
theorem spec_l12Less.ds : dstB Tryd.f111.ntmps (bodyOf Tryd.f111) = true := by kernel_rfl
theorem spec_l12Less.cb : callB E.P 111 = true := by kernel_rfl
theorem spec_l12Less.ok {R : Type} (B : Base) (k : Nat) : ConOk E.P B 111 (spec_l12Less.con (spec_l12Less.c (R := R) k)) := con_ok E_orders E_eqs GOk.nil Tryd.func111 (by kernel_rfl) spec_l12Less.ds rfl (spec_l12Less.run k)
theorem spec_l12Notes.inn {R : Type} (f : spec_l12Notes.T R) (a0 : List (Int × Int × Int × Int × ByteArray)) (a1 : Int) (K : Ret → Option R) : (spec_l12Notes.con f).run [.val false [.row .ro [.int .i64, .int .i64, .int .i64, .int .i64, .str] a0], .val false [.s (.int .i64 a1)]] K = f a0 a1 (fun r1 => K ⟨[.val false [.s (.bool r1)]], []⟩) := by kernel_rfl
theorem spec_l12Notes.run {R : Type} (k : Nat) (args : List RV) (K : Ret → Option R) (o : R) (h : (spec_l12Notes.con (spec_l12Notes.c k)).run args K = some o) : ∃ args', All2 TyRV args args' ∧ evFunc E (spec_l12Notes.G ⟨(), spec_NoteOk.c k, spec_l12Less.c k⟩) k spec_l12Notes.H [] false Tryd.f96 args' K = some o := by
  unfold spec_l12Notes.con at h
  simp only at h
  split at h
  · rename_i pa0 a1
    obtain ⟨a0, ta0, h⟩ := withRow_some (by simp) h
    exact ⟨_, (.cons (.val (.cons ta0 .nil)) (.cons (.val (.cons .s .nil)) .nil)), (spec_l12Notes.evs ⟨(), spec_NoteOk.c k, spec_l12Less.c k⟩ k a0 a1 K).trans h⟩
  · cases h
theorem spec_l12Notes.ds : dstB Tryd.f96.ntmps (bodyOf Tryd.f96) = true := by kernel_rfl
theorem spec_l12Notes.cb : callB E.P 96 = true := by kernel_rfl
theorem spec_l12Notes.ok {R : Type} (B : Base) (k : Nat) : ConOk E.P B 96 (spec_l12Notes.con (spec_l12Notes.c (R := R) k)) := con_ok E_orders E_eqs (GOk.cons spec_NoteOk.cb (spec_NoteOk.ok B k) (GOk.cons spec_l12Less.cb (spec_l12Less.ok B k) GOk.nil)) Tryd.func96 (by kernel_rfl) spec_l12Notes.ds rfl (spec_l12Notes.run k)
theorem spec_l12Marks.inn {R : Type} (f : spec_l12Marks.T R) (a0 : List (Int × Int × Int)) (K : Ret → Option R) : (spec_l12Marks.con f).run [.val false [.row .ro [.int .i64, .int .i64, .int .i64] a0]] K = f a0 (fun r1 => K ⟨[.val false [.s (.bool r1)]], []⟩) := by kernel_rfl
theorem spec_l12Marks.run {R : Type} (k : Nat) (args : List RV) (K : Ret → Option R) (o : R) (h : (spec_l12Marks.con (spec_l12Marks.c k)).run args K = some o) : ∃ args', All2 TyRV args args' ∧ evFunc E (spec_l12Marks.G ⟨(), spec_l3Keeper.c k, spec_l6In.c k, spec_l12Less.c k⟩) k spec_l12Marks.H [] false Tryd.f97 args' K = some o := by
  unfold spec_l12Marks.con at h
  simp only at h
  split at h
  · rename_i pa0
    obtain ⟨a0, ta0, h⟩ := withRow_some (by simp) h
    exact ⟨_, (.cons (.val (.cons ta0 .nil)) .nil), (spec_l12Marks.evs ⟨(), spec_l3Keeper.c k, spec_l6In.c k, spec_l12Less.c k⟩ k a0 K).trans h⟩
  · cases h
theorem spec_l12Marks.ds : dstB Tryd.f97.ntmps (bodyOf Tryd.f97) = true := by kernel_rfl
theorem spec_l12Marks.cb : callB E.P 97 = true := by kernel_rfl
theorem spec_l12Marks.ok {R : Type} (B : Base) (k : Nat) : ConOk E.P B 97 (spec_l12Marks.con (spec_l12Marks.c (R := R) k)) := con_ok E_orders E_eqs (GOk.cons spec_l3Keeper.cb (spec_l3Keeper.ok B k) (GOk.cons spec_l6In.cb (spec_l6In.ok B k) (GOk.cons spec_l12Less.cb (spec_l12Less.ok B k) GOk.nil))) Tryd.func97 (by kernel_rfl) spec_l12Marks.ds rfl (spec_l12Marks.run k)
theorem spec_l12Way.inn {R : Type} (f : spec_l12Way.T R) (a0_0 : Int) (a0_1 : Int) (a0_2 : Int) (a0_3 : Int) (a0_4 : ByteArray) (a1 : Int) (K : Ret → Option R) : (spec_l12Way.con f).run [.val true [.s (.int .i64 a0_0), .s (.int .i64 a0_1), .s (.int .i64 a0_2), .s (.int .i64 a0_3), .s (.string a0_4)], .val false [.s (.int .i64 a1)]] K = f a0_0 a0_1 a0_2 a0_3 a0_4 a1 (fun r1 => K ⟨[.val false [.s (.bool r1)]], []⟩) := by kernel_rfl
theorem spec_l12Way.run {R : Type} (k : Nat) (args : List RV) (K : Ret → Option R) (o : R) (h : (spec_l12Way.con (spec_l12Way.c k)).run args K = some o) : ∃ args', All2 TyRV args args' ∧ evFunc E (spec_l12Way.G ⟨()⟩) k spec_l12Way.H [] false Tryd.f98 args' K = some o := by
  unfold spec_l12Way.con at h
  simp only at h
  split at h
  · rename_i a0_0 a0_1 a0_2 a0_3 a0_4 a1
    exact ⟨_, (.cons (.val (.cons .s (.cons .s (.cons .s (.cons .s (.cons .s .nil)))))) (.cons (.val (.cons .s .nil)) .nil)), (spec_l12Way.evs ⟨()⟩ k a0_0 a0_1 a0_2 a0_3 a0_4 a1 K).trans h⟩
  · cases h
theorem spec_l12Way.ds : dstB Tryd.f98.ntmps (bodyOf Tryd.f98) = true := by kernel_rfl
theorem spec_l12Way.cb : callB E.P 98 = true := by kernel_rfl
theorem spec_l12Way.ok {R : Type} (B : Base) (k : Nat) : ConOk E.P B 98 (spec_l12Way.con (spec_l12Way.c (R := R) k)) := con_ok E_orders E_eqs GOk.nil Tryd.func98 (by kernel_rfl) spec_l12Way.ds rfl (spec_l12Way.run k)
theorem spec_l12Mark.inn {R : Type} (f : spec_l12Mark.T R) (a0 : List (Int × Int × Int)) (a1 : Int) (a2 : Int) (K : Ret → Option R) : (spec_l12Mark.con f).run [.val false [.row .ro [.int .i64, .int .i64, .int .i64] a0], .val false [.s (.int .i64 a1)], .val false [.s (.int .i64 a2)]] K = f a0 a1 a2 (fun r1 => K ⟨[.val false [.s (.int .i64 r1)]], []⟩) := by kernel_rfl
theorem spec_l12Mark.run {R : Type} (k : Nat) (args : List RV) (K : Ret → Option R) (o : R) (h : (spec_l12Mark.con (spec_l12Mark.c k)).run args K = some o) : ∃ args', All2 TyRV args args' ∧ evFunc E (spec_l12Mark.G ⟨()⟩) k spec_l12Mark.H [] false Tryd.f99 args' K = some o := by
  unfold spec_l12Mark.con at h
  simp only at h
  split at h
  · rename_i pa0 a1 a2
    obtain ⟨a0, ta0, h⟩ := withRow_some (by simp) h
    exact ⟨_, (.cons (.val (.cons ta0 .nil)) (.cons (.val (.cons .s .nil)) (.cons (.val (.cons .s .nil)) .nil))), (spec_l12Mark.evs ⟨()⟩ k a0 a1 a2 K).trans h⟩
  · cases h
theorem spec_l12Mark.ds : dstB Tryd.f99.ntmps (bodyOf Tryd.f99) = true := by kernel_rfl
theorem spec_l12Mark.cb : callB E.P 99 = true := by kernel_rfl
theorem spec_l12Mark.ok {R : Type} (B : Base) (k : Nat) : ConOk E.P B 99 (spec_l12Mark.con (spec_l12Mark.c (R := R) k)) := con_ok E_orders E_eqs GOk.nil Tryd.func99 (by kernel_rfl) spec_l12Mark.ds rfl (spec_l12Mark.run k)
theorem spec_KeepOk.inn {R : Type} (f : spec_KeepOk.T R) (a0_0 : Int) (a0_1 : Int) (a0_2 : Int) (a0_3 : List (Int × Int × Int × Int × ByteArray)) (a0_4 : List (Int × Int × Int)) (a0_5 : List (Int × Int × Int × Int × ByteArray)) (K : Ret → Option R) : (spec_KeepOk.con f).run [.val true [.s (.int .i64 a0_0), .s (.int .i64 a0_1), .s (.int .i64 a0_2), .row .ro [.int .i64, .int .i64, .int .i64, .int .i64, .str] a0_3, .row .ro [.int .i64, .int .i64, .int .i64] a0_4, .row .ro [.int .i64, .int .i64, .int .i64, .int .i64, .str] a0_5]] K = f a0_0 a0_1 a0_2 a0_3 a0_4 a0_5 (fun r1 => K ⟨[.val false [.s (.bool r1)]], []⟩) := by kernel_rfl
theorem spec_KeepOk.run {R : Type} (k : Nat) (args : List RV) (K : Ret → Option R) (o : R) (h : (spec_KeepOk.con (spec_KeepOk.c k)).run args K = some o) : ∃ args', All2 TyRV args args' ∧ evFunc E (spec_KeepOk.G ⟨(), spec_l3Keeper.c k, spec_l6In.c k, spec_l12Notes.c k, spec_l12Marks.c k, spec_l12Way.c k, spec_l12Mark.c k⟩) k spec_KeepOk.H [] false Tryd.f76 args' K = some o := by
  unfold spec_KeepOk.con at h
  simp only at h
  split at h
  · rename_i a0_0 a0_1 a0_2 pa0_3 pa0_4 pa0_5
    obtain ⟨a0_3, ta0_3, h⟩ := withRow_some (by simp) h
    obtain ⟨a0_4, ta0_4, h⟩ := withRow_some (by simp) h
    obtain ⟨a0_5, ta0_5, h⟩ := withRow_some (by simp) h
    exact ⟨_, (.cons (.val (.cons .s (.cons .s (.cons .s (.cons ta0_3 (.cons ta0_4 (.cons ta0_5 .nil))))))) .nil), (spec_KeepOk.evs ⟨(), spec_l3Keeper.c k, spec_l6In.c k, spec_l12Notes.c k, spec_l12Marks.c k, spec_l12Way.c k, spec_l12Mark.c k⟩ k a0_0 a0_1 a0_2 a0_3 a0_4 a0_5 K).trans h⟩
  · cases h
theorem spec_KeepOk.ds : dstB Tryd.f76.ntmps (bodyOf Tryd.f76) = true := by kernel_rfl
theorem spec_KeepOk.cb : callB E.P 76 = true := by kernel_rfl
theorem spec_KeepOk.ok {R : Type} (B : Base) (k : Nat) : ConOk E.P B 76 (spec_KeepOk.con (spec_KeepOk.c (R := R) k)) := con_ok E_orders E_eqs (GOk.cons spec_l3Keeper.cb (spec_l3Keeper.ok B k) (GOk.cons spec_l6In.cb (spec_l6In.ok B k) (GOk.cons spec_l12Notes.cb (spec_l12Notes.ok B k) (GOk.cons spec_l12Marks.cb (spec_l12Marks.ok B k) (GOk.cons spec_l12Way.cb (spec_l12Way.ok B k) (GOk.cons spec_l12Mark.cb (spec_l12Mark.ok B k) GOk.nil)))))) Tryd.func76 (by kernel_rfl) spec_KeepOk.ds rfl (spec_KeepOk.run k)
theorem spec_KeepRecs.inn {R : Type} (f : spec_KeepRecs.T R) (a0_0 : Int) (a0_1 : Int) (a0_2 : Int) (a0_3 : List (Int × Int × Int × Int × ByteArray)) (a0_4 : List (Int × Int × Int)) (a0_5 : List (Int × Int × Int × Int × ByteArray)) (K : Ret → Option R) : (spec_KeepRecs.con f).run [.val true [.s (.int .i64 a0_0), .s (.int .i64 a0_1), .s (.int .i64 a0_2), .row .ro [.int .i64, .int .i64, .int .i64, .int .i64, .str] a0_3, .row .ro [.int .i64, .int .i64, .int .i64] a0_4, .row .ro [.int .i64, .int .i64, .int .i64, .int .i64, .str] a0_5]] K = f a0_0 a0_1 a0_2 a0_3 a0_4 a0_5 (fun r1 => K ⟨[.val false [.row .own [.str] r1]], []⟩) := by kernel_rfl
theorem spec_KeepRecs.run {R : Type} (k : Nat) (args : List RV) (K : Ret → Option R) (o : R) (h : (spec_KeepRecs.con (spec_KeepRecs.c k)).run args K = some o) : ∃ args', All2 TyRV args args' ∧ evFunc E (spec_KeepRecs.G ⟨(), spec_KeepOk.c k, spec_l6Dec.c k, spec_NoteWrite.c k⟩) k spec_KeepRecs.H [] false Tryd.f43 args' K = some o := by
  unfold spec_KeepRecs.con at h
  simp only at h
  split at h
  · rename_i a0_0 a0_1 a0_2 pa0_3 pa0_4 pa0_5
    obtain ⟨a0_3, ta0_3, h⟩ := withRow_some (by simp) h
    obtain ⟨a0_4, ta0_4, h⟩ := withRow_some (by simp) h
    obtain ⟨a0_5, ta0_5, h⟩ := withRow_some (by simp) h
    exact ⟨_, (.cons (.val (.cons .s (.cons .s (.cons .s (.cons ta0_3 (.cons ta0_4 (.cons ta0_5 .nil))))))) .nil), (spec_KeepRecs.evs ⟨(), spec_KeepOk.c k, spec_l6Dec.c k, spec_NoteWrite.c k⟩ k a0_0 a0_1 a0_2 a0_3 a0_4 a0_5 K).trans h⟩
  · cases h
theorem spec_KeepRecs.ds : dstB Tryd.f43.ntmps (bodyOf Tryd.f43) = true := by kernel_rfl
theorem spec_KeepRecs.cb : callB E.P 43 = true := by kernel_rfl
theorem spec_KeepRecs.ok {R : Type} (B : Base) (k : Nat) : ConOk E.P B 43 (spec_KeepRecs.con (spec_KeepRecs.c (R := R) k)) := con_ok E_orders E_eqs (GOk.cons spec_KeepOk.cb (spec_KeepOk.ok B k) (GOk.cons spec_l6Dec.cb (spec_l6Dec.ok B k) (GOk.cons spec_NoteWrite.cb (spec_NoteWrite.ok B k) GOk.nil))) Tryd.func43 (by kernel_rfl) spec_KeepRecs.ds rfl (spec_KeepRecs.run k)
theorem laws_toNote.inn {R : Type} (f : laws_toNote.T R) (a0_0 : Int) (a0_1 : Int) (a0_2 : Int) (a0_3 : Int) (a0_4 : ByteArray) (K : Ret → Option R) : (laws_toNote.con f).run [.val true [.s (.int .i64 a0_0), .s (.int .i64 a0_1), .s (.int .i64 a0_2), .s (.int .i64 a0_3), .s (.string a0_4)]] K = f a0_0 a0_1 a0_2 a0_3 a0_4 (fun r1 r2 r3 r4 r5 => K ⟨[.val true [.s (.int .i64 r1), .s (.int .i64 r2), .s (.int .i64 r3), .s (.int .i64 r4), .s (.string r5)]], []⟩) := by kernel_rfl
theorem laws_toNote.run {R : Type} (k : Nat) (args : List RV) (K : Ret → Option R) (o : R) (h : (laws_toNote.con (laws_toNote.c k)).run args K = some o) : ∃ args', All2 TyRV args args' ∧ evFunc E (laws_toNote.G ⟨()⟩) k laws_toNote.H [] false Tryd.f100 args' K = some o := by
  unfold laws_toNote.con at h
  simp only at h
  split at h
  · rename_i a0_0 a0_1 a0_2 a0_3 a0_4
    exact ⟨_, (.cons (.val (.cons .s (.cons .s (.cons .s (.cons .s (.cons .s .nil)))))) .nil), (laws_toNote.evs ⟨()⟩ k a0_0 a0_1 a0_2 a0_3 a0_4 K).trans h⟩
  · cases h
theorem laws_toNote.ds : dstB Tryd.f100.ntmps (bodyOf Tryd.f100) = true := by kernel_rfl
theorem laws_toNote.cb : callB E.P 100 = true := by kernel_rfl
theorem laws_toNote.ok {R : Type} (B : Base) (k : Nat) : ConOk E.P B 100 (laws_toNote.con (laws_toNote.c (R := R) k)) := con_ok E_orders E_eqs GOk.nil Tryd.func100 (by kernel_rfl) laws_toNote.ds rfl (laws_toNote.run k)
theorem laws_toNoteS.inn {R : Type} (f : laws_toNoteS.T R) (a0 : List (Int × Int × Int × Int × ByteArray)) (K : Ret → Option R) : (laws_toNoteS.con f).run [.val false [.row .ro [.int .i64, .int .i64, .int .i64, .int .i64, .str] a0]] K = f a0 (fun r1 => K ⟨[.val false [.row .own [.int .i64, .int .i64, .int .i64, .int .i64, .str] r1]], []⟩) := by kernel_rfl
theorem laws_toNoteS.run {R : Type} (k : Nat) (args : List RV) (K : Ret → Option R) (o : R) (h : (laws_toNoteS.con (laws_toNoteS.c k)).run args K = some o) : ∃ args', All2 TyRV args args' ∧ evFunc E (laws_toNoteS.G ⟨(), laws_toNote.c k⟩) k laws_toNoteS.H [] false Tryd.f77 args' K = some o := by
  unfold laws_toNoteS.con at h
  simp only at h
  split at h
  · rename_i pa0
    obtain ⟨a0, ta0, h⟩ := withRow_some (by simp) h
    exact ⟨_, (.cons (.val (.cons ta0 .nil)) .nil), (laws_toNoteS.evs ⟨(), laws_toNote.c k⟩ k a0 K).trans h⟩
  · cases h
theorem laws_toNoteS.ds : dstB Tryd.f77.ntmps (bodyOf Tryd.f77) = true := by kernel_rfl
theorem laws_toNoteS.cb : callB E.P 77 = true := by kernel_rfl
theorem laws_toNoteS.ok {R : Type} (B : Base) (k : Nat) : ConOk E.P B 77 (laws_toNoteS.con (laws_toNoteS.c (R := R) k)) := con_ok E_orders E_eqs (GOk.cons laws_toNote.cb (laws_toNote.ok B k) GOk.nil) Tryd.func77 (by kernel_rfl) laws_toNoteS.ds rfl (laws_toNoteS.run k)
theorem laws_toMark.inn {R : Type} (f : laws_toMark.T R) (a0_0 : Int) (a0_1 : Int) (a0_2 : Int) (K : Ret → Option R) : (laws_toMark.con f).run [.val true [.s (.int .i64 a0_0), .s (.int .i64 a0_1), .s (.int .i64 a0_2)]] K = f a0_0 a0_1 a0_2 (fun r1 r2 r3 => K ⟨[.val true [.s (.int .i64 r1), .s (.int .i64 r2), .s (.int .i64 r3)]], []⟩) := by kernel_rfl
theorem laws_toMark.run {R : Type} (k : Nat) (args : List RV) (K : Ret → Option R) (o : R) (h : (laws_toMark.con (laws_toMark.c k)).run args K = some o) : ∃ args', All2 TyRV args args' ∧ evFunc E (laws_toMark.G ⟨()⟩) k laws_toMark.H [] false Tryd.f101 args' K = some o := by
  unfold laws_toMark.con at h
  simp only at h
  split at h
  · rename_i a0_0 a0_1 a0_2
    exact ⟨_, (.cons (.val (.cons .s (.cons .s (.cons .s .nil)))) .nil), (laws_toMark.evs ⟨()⟩ k a0_0 a0_1 a0_2 K).trans h⟩
  · cases h
theorem laws_toMark.ds : dstB Tryd.f101.ntmps (bodyOf Tryd.f101) = true := by kernel_rfl
theorem laws_toMark.cb : callB E.P 101 = true := by kernel_rfl
theorem laws_toMark.ok {R : Type} (B : Base) (k : Nat) : ConOk E.P B 101 (laws_toMark.con (laws_toMark.c (R := R) k)) := con_ok E_orders E_eqs GOk.nil Tryd.func101 (by kernel_rfl) laws_toMark.ds rfl (laws_toMark.run k)
theorem laws_toMarkS.inn {R : Type} (f : laws_toMarkS.T R) (a0 : List (Int × Int × Int)) (K : Ret → Option R) : (laws_toMarkS.con f).run [.val false [.row .ro [.int .i64, .int .i64, .int .i64] a0]] K = f a0 (fun r1 => K ⟨[.val false [.row .own [.int .i64, .int .i64, .int .i64] r1]], []⟩) := by kernel_rfl
theorem laws_toMarkS.run {R : Type} (k : Nat) (args : List RV) (K : Ret → Option R) (o : R) (h : (laws_toMarkS.con (laws_toMarkS.c k)).run args K = some o) : ∃ args', All2 TyRV args args' ∧ evFunc E (laws_toMarkS.G ⟨(), laws_toMark.c k⟩) k laws_toMarkS.H [] false Tryd.f78 args' K = some o := by
  unfold laws_toMarkS.con at h
  simp only at h
  split at h
  · rename_i pa0
    obtain ⟨a0, ta0, h⟩ := withRow_some (by simp) h
    exact ⟨_, (.cons (.val (.cons ta0 .nil)) .nil), (laws_toMarkS.evs ⟨(), laws_toMark.c k⟩ k a0 K).trans h⟩
  · cases h
theorem laws_toMarkS.ds : dstB Tryd.f78.ntmps (bodyOf Tryd.f78) = true := by kernel_rfl
theorem laws_toMarkS.cb : callB E.P 78 = true := by kernel_rfl
theorem laws_toMarkS.ok {R : Type} (B : Base) (k : Nat) : ConOk E.P B 78 (laws_toMarkS.con (laws_toMarkS.c (R := R) k)) := con_ok E_orders E_eqs (GOk.cons laws_toMark.cb (laws_toMark.ok B k) GOk.nil) Tryd.func78 (by kernel_rfl) laws_toMarkS.ds rfl (laws_toMarkS.run k)
theorem laws_toKeep.inn {R : Type} (f : laws_toKeep.T R) (a0_0 : Int) (a0_1 : Int) (a0_2 : Int) (a0_3 : List (Int × Int × Int × Int × ByteArray)) (a0_4 : List (Int × Int × Int)) (a0_5 : List (Int × Int × Int × Int × ByteArray)) (K : Ret → Option R) : (laws_toKeep.con f).run [.val true [.s (.int .i64 a0_0), .s (.int .i64 a0_1), .s (.int .i64 a0_2), .row .ro [.int .i64, .int .i64, .int .i64, .int .i64, .str] a0_3, .row .ro [.int .i64, .int .i64, .int .i64] a0_4, .row .ro [.int .i64, .int .i64, .int .i64, .int .i64, .str] a0_5]] K = f a0_0 a0_1 a0_2 a0_3 a0_4 a0_5 (fun r1 r2 r3 r4 r5 r6 => K ⟨[.val true [.s (.int .i64 r1), .s (.int .i64 r2), .s (.int .i64 r3), .row .own [.int .i64, .int .i64, .int .i64, .int .i64, .str] r4, .row .own [.int .i64, .int .i64, .int .i64] r5, .row .own [.int .i64, .int .i64, .int .i64, .int .i64, .str] r6]], []⟩) := by kernel_rfl
theorem laws_toKeep.run {R : Type} (k : Nat) (args : List RV) (K : Ret → Option R) (o : R) (h : (laws_toKeep.con (laws_toKeep.c k)).run args K = some o) : ∃ args', All2 TyRV args args' ∧ evFunc E (laws_toKeep.G ⟨(), laws_toNoteS.c k, laws_toMarkS.c k⟩) k laws_toKeep.H [] false Tryd.f44 args' K = some o := by
  unfold laws_toKeep.con at h
  simp only at h
  split at h
  · rename_i a0_0 a0_1 a0_2 pa0_3 pa0_4 pa0_5
    obtain ⟨a0_3, ta0_3, h⟩ := withRow_some (by simp) h
    obtain ⟨a0_4, ta0_4, h⟩ := withRow_some (by simp) h
    obtain ⟨a0_5, ta0_5, h⟩ := withRow_some (by simp) h
    exact ⟨_, (.cons (.val (.cons .s (.cons .s (.cons .s (.cons ta0_3 (.cons ta0_4 (.cons ta0_5 .nil))))))) .nil), (laws_toKeep.evs ⟨(), laws_toNoteS.c k, laws_toMarkS.c k⟩ k a0_0 a0_1 a0_2 a0_3 a0_4 a0_5 K).trans h⟩
  · cases h
theorem laws_toKeep.ds : dstB Tryd.f44.ntmps (bodyOf Tryd.f44) = true := by kernel_rfl
theorem laws_toKeep.cb : callB E.P 44 = true := by kernel_rfl
theorem laws_toKeep.ok {R : Type} (B : Base) (k : Nat) : ConOk E.P B 44 (laws_toKeep.con (laws_toKeep.c (R := R) k)) := con_ok E_orders E_eqs (GOk.cons laws_toNoteS.cb (laws_toNoteS.ok B k) (GOk.cons laws_toMarkS.cb (laws_toMarkS.ok B k) GOk.nil)) Tryd.func44 (by kernel_rfl) laws_toKeep.ds rfl (laws_toKeep.run k)
theorem impl_in.inn {R : Type} (f : impl_in.T R) (a0 : Int) (a1 : Int) (a2 : Int) (K : Ret → Option R) : (impl_in.con f).run [.val false [.s (.int .i64 a0)], .val false [.s (.int .i64 a1)], .val false [.s (.int .i64 a2)]] K = f a0 a1 a2 (fun r1 => K ⟨[.val false [.s (.bool r1)]], []⟩) := by kernel_rfl
theorem impl_in.run {R : Type} (k : Nat) (args : List RV) (K : Ret → Option R) (o : R) (h : (impl_in.con (impl_in.c k)).run args K = some o) : ∃ args', All2 TyRV args args' ∧ evFunc E (impl_in.G ⟨()⟩) k impl_in.H [] false Tryd.f60 args' K = some o := by
  unfold impl_in.con at h
  simp only at h
  split at h
  · rename_i a0 a1 a2
    exact ⟨_, (.cons (.val (.cons .s .nil)) (.cons (.val (.cons .s .nil)) (.cons (.val (.cons .s .nil)) .nil))), (impl_in.evs ⟨()⟩ k a0 a1 a2 K).trans h⟩
  · cases h
theorem impl_in.ds : dstB Tryd.f60.ntmps (bodyOf Tryd.f60) = true := by kernel_rfl
theorem impl_in.cb : callB E.P 60 = true := by kernel_rfl
theorem impl_in.ok {R : Type} (B : Base) (k : Nat) : ConOk E.P B 60 (impl_in.con (impl_in.c (R := R) k)) := con_ok E_orders E_eqs GOk.nil Tryd.func60 (by kernel_rfl) impl_in.ds rfl (impl_in.run k)
theorem impl_isNode.inn {R : Type} (f : impl_isNode.T R) (a0 : Int) (K : Ret → Option R) : (impl_isNode.con f).run [.val false [.s (.int .i64 a0)]] K = f a0 (fun r1 => K ⟨[.val false [.s (.bool r1)]], []⟩) := by kernel_rfl
theorem impl_isNode.run {R : Type} (k : Nat) (args : List RV) (K : Ret → Option R) (o : R) (h : (impl_isNode.con (impl_isNode.c k)).run args K = some o) : ∃ args', All2 TyRV args args' ∧ evFunc E (impl_isNode.G ⟨(), impl_in.c k⟩) k impl_isNode.H [] false Tryd.f71 args' K = some o := by
  unfold impl_isNode.con at h
  simp only at h
  split at h
  · rename_i a0
    exact ⟨_, (.cons (.val (.cons .s .nil)) .nil), (impl_isNode.evs ⟨(), impl_in.c k⟩ k a0 K).trans h⟩
  · cases h
theorem impl_isNode.ds : dstB Tryd.f71.ntmps (bodyOf Tryd.f71) = true := by kernel_rfl
theorem impl_isNode.cb : callB E.P 71 = true := by kernel_rfl
theorem impl_isNode.ok {R : Type} (B : Base) (k : Nat) : ConOk E.P B 71 (impl_isNode.con (impl_isNode.c (R := R) k)) := con_ok E_orders E_eqs (GOk.cons impl_in.cb (impl_in.ok B k) GOk.nil) Tryd.func71 (by kernel_rfl) impl_isNode.ds rfl (impl_isNode.run k)
theorem impl_textOk.inn {R : Type} (f : impl_textOk.T R) (a0 : ByteArray) (K : Ret → Option R) : (impl_textOk.con f).run [.val false [.s (.string a0)]] K = f a0 (fun r1 => K ⟨[.val false [.s (.bool r1)]], []⟩) := by kernel_rfl
theorem impl_textOk.run {R : Type} (k : Nat) (args : List RV) (K : Ret → Option R) (o : R) (h : (impl_textOk.con (impl_textOk.c k)).run args K = some o) : ∃ args', All2 TyRV args args' ∧ evFunc E (impl_textOk.G ⟨(), impl_in.c k⟩) k impl_textOk.H [] false Tryd.f72 args' K = some o := by
  unfold impl_textOk.con at h
  simp only at h
  split at h
  · rename_i a0
    exact ⟨_, (.cons (.val (.cons .s .nil)) .nil), (impl_textOk.evs ⟨(), impl_in.c k⟩ k a0 K).trans h⟩
  · cases h
theorem impl_textOk.ds : dstB Tryd.f72.ntmps (bodyOf Tryd.f72) = true := by kernel_rfl
theorem impl_textOk.cb : callB E.P 72 = true := by kernel_rfl
theorem impl_textOk.ok {R : Type} (B : Base) (k : Nat) : ConOk E.P B 72 (impl_textOk.con (impl_textOk.c (R := R) k)) := con_ok E_orders E_eqs (GOk.cons impl_in.cb (impl_in.ok B k) GOk.nil) Tryd.func72 (by kernel_rfl) impl_textOk.ds rfl (impl_textOk.run k)
theorem impl_NoteOk.inn {R : Type} (f : impl_NoteOk.T R) (a0_0 : Int) (a0_1 : Int) (a0_2 : Int) (a0_3 : Int) (a0_4 : ByteArray) (K : Ret → Option R) : (impl_NoteOk.con f).run [.val true [.s (.int .i64 a0_0), .s (.int .i64 a0_1), .s (.int .i64 a0_2), .s (.int .i64 a0_3), .s (.string a0_4)]] K = f a0_0 a0_1 a0_2 a0_3 a0_4 (fun r1 => K ⟨[.val false [.s (.bool r1)]], []⟩) := by kernel_rfl
theorem impl_NoteOk.run {R : Type} (k : Nat) (args : List RV) (K : Ret → Option R) (o : R) (h : (impl_NoteOk.con (impl_NoteOk.c k)).run args K = some o) : ∃ args', All2 TyRV args args' ∧ evFunc E (impl_NoteOk.G ⟨(), impl_isNode.c k, impl_in.c k, impl_textOk.c k⟩) k impl_NoteOk.H [] false Tryd.f40 args' K = some o := by
  unfold impl_NoteOk.con at h
  simp only at h
  split at h
  · rename_i a0_0 a0_1 a0_2 a0_3 a0_4
    exact ⟨_, (.cons (.val (.cons .s (.cons .s (.cons .s (.cons .s (.cons .s .nil)))))) .nil), (impl_NoteOk.evs ⟨(), impl_isNode.c k, impl_in.c k, impl_textOk.c k⟩ k a0_0 a0_1 a0_2 a0_3 a0_4 K).trans h⟩
  · cases h
theorem impl_NoteOk.ds : dstB Tryd.f40.ntmps (bodyOf Tryd.f40) = true := by kernel_rfl
theorem impl_NoteOk.cb : callB E.P 40 = true := by kernel_rfl
theorem impl_NoteOk.ok {R : Type} (B : Base) (k : Nat) : ConOk E.P B 40 (impl_NoteOk.con (impl_NoteOk.c (R := R) k)) := con_ok E_orders E_eqs (GOk.cons impl_isNode.cb (impl_isNode.ok B k) (GOk.cons impl_in.cb (impl_in.ok B k) (GOk.cons impl_textOk.cb (impl_textOk.ok B k) GOk.nil))) Tryd.func40 (by kernel_rfl) impl_NoteOk.ds rfl (impl_NoteOk.run k)
theorem strconv_Itoa.inn {R : Type} (f : strconv_Itoa.T R) (a0 : Int) (K : Ret → Option R) : (strconv_Itoa.con f).run [.val false [.s (.int .i64 a0)]] K = f a0 (fun r1 => K ⟨[.val false [.s (.string r1)]], []⟩) := by kernel_rfl
theorem strconv_Itoa.cb : callB E.P 70 = true := by kernel_rfl
theorem strconv_Itoa.ok {R : Type} (B : Base) (hI : ExtI E.P B) (k : Nat) : ConOk E.P B 70 (strconv_Itoa.con (strconv_Itoa.c (R := R) k)) := by
  refine itoa_conok (fun n h0 h1 w hw => Tryd.strconv_Itoa n h0 h1 w (hI w hw)) _ rfl fun args K o h => ?_
  unfold strconv_Itoa.con at h
  simp only at h
  split at h
  · rename_i a0
    unfold strconv_Itoa.c at h
    cases hc : (decide (-9223372036854775808 ≤ a0) && decide (a0 ≤ 9223372036854775807)) with
    | false => rw [hc] at h; cases h
    | true =>
      rw [hc] at h
      simp only [Bool.and_eq_true, decide_eq_true_eq] at hc
      exact ⟨a0, rfl, hc, h⟩
  · cases h
theorem impl_NoteWrite.inn {R : Type} (f : impl_NoteWrite.T R) (a0_0 : Int) (a0_1 : Int) (a0_2 : Int) (a0_3 : Int) (a0_4 : ByteArray) (K : Ret → Option R) : (impl_NoteWrite.con f).run [.val true [.s (.int .i64 a0_0), .s (.int .i64 a0_1), .s (.int .i64 a0_2), .s (.int .i64 a0_3), .s (.string a0_4)]] K = f a0_0 a0_1 a0_2 a0_3 a0_4 (fun r1 => K ⟨[.val false [.s (.string r1)]], []⟩) := by kernel_rfl
theorem impl_NoteWrite.run {R : Type} (k : Nat) (args : List RV) (K : Ret → Option R) (o : R) (h : (impl_NoteWrite.con (impl_NoteWrite.c k)).run args K = some o) : ∃ args', All2 TyRV args args' ∧ evFunc E (impl_NoteWrite.G ⟨(), impl_NoteOk.c k, strconv_Itoa.c k⟩) k impl_NoteWrite.H [] false Tryd.f39 args' K = some o := by
  unfold impl_NoteWrite.con at h
  simp only at h
  split at h
  · rename_i a0_0 a0_1 a0_2 a0_3 a0_4
    exact ⟨_, (.cons (.val (.cons .s (.cons .s (.cons .s (.cons .s (.cons .s .nil)))))) .nil), (impl_NoteWrite.evs ⟨(), impl_NoteOk.c k, strconv_Itoa.c k⟩ k a0_0 a0_1 a0_2 a0_3 a0_4 K).trans h⟩
  · cases h
theorem impl_NoteWrite.ds : dstB Tryd.f39.ntmps (bodyOf Tryd.f39) = true := by kernel_rfl
theorem impl_NoteWrite.cb : callB E.P 39 = true := by kernel_rfl
theorem impl_NoteWrite.ok {R : Type} (B : Base) (hI : ExtI E.P B) (k : Nat) : ConOk E.P B 39 (impl_NoteWrite.con (impl_NoteWrite.c (R := R) k)) := con_ok E_orders E_eqs (GOk.cons impl_NoteOk.cb (impl_NoteOk.ok B k) (GOk.cons strconv_Itoa.cb (strconv_Itoa.ok B hI k) GOk.nil)) Tryd.func39 (by kernel_rfl) impl_NoteWrite.ds rfl (impl_NoteWrite.run k)
theorem impl_copied_string.inn {R : Type} (f : impl_copied_string.T R) (a0 : List ByteArray) (K : Ret → Option R) : (impl_copied_string.con f).run [.val false [.row .ro [.str] a0]] K = f a0 (fun r1 => K ⟨[.val false [.row .own [.str] r1]], []⟩) := by kernel_rfl
theorem impl_copied_string.run {R : Type} (k : Nat) (args : List RV) (K : Ret → Option R) (o : R) (h : (impl_copied_string.con (impl_copied_string.c k)).run args K = some o) : ∃ args', All2 TyRV args args' ∧ evFunc E (impl_copied_string.G ⟨()⟩) k impl_copied_string.H [] false Tryd.f61 args' K = some o := by
  unfold impl_copied_string.con at h
  simp only at h
  split at h
  · rename_i pa0
    obtain ⟨a0, ta0, h⟩ := withRow_some (by simp) h
    exact ⟨_, (.cons (.val (.cons ta0 .nil)) .nil), (impl_copied_string.evs ⟨()⟩ k a0 K).trans h⟩
  · cases h
theorem impl_copied_string.ds : dstB Tryd.f61.ntmps (bodyOf Tryd.f61) = true := by kernel_rfl
theorem impl_copied_string.cb : callB E.P 61 = true := by kernel_rfl
theorem impl_copied_string.ok {R : Type} (B : Base) (k : Nat) : ConOk E.P B 61 (impl_copied_string.con (impl_copied_string.c (R := R) k)) := con_ok E_orders E_eqs GOk.nil Tryd.func61 (by kernel_rfl) impl_copied_string.ds rfl (impl_copied_string.run k)
theorem impl_before.inn {R : Type} (f : impl_before.T R) (a0 : Int) (a1 : Int) (a2 : Int) (a3 : Int) (K : Ret → Option R) : (impl_before.con f).run [.val false [.s (.int .i64 a0)], .val false [.s (.int .i64 a1)], .val false [.s (.int .i64 a2)], .val false [.s (.int .i64 a3)]] K = f a0 a1 a2 a3 (fun r1 => K ⟨[.val false [.s (.bool r1)]], []⟩) := by kernel_rfl
theorem impl_before.run {R : Type} (k : Nat) (args : List RV) (K : Ret → Option R) (o : R) (h : (impl_before.con (impl_before.c k)).run args K = some o) : ∃ args', All2 TyRV args args' ∧ evFunc E (impl_before.G ⟨()⟩) k impl_before.H [] false Tryd.f112 args' K = some o := by
  unfold impl_before.con at h
  simp only at h
  split at h
  · rename_i a0 a1 a2 a3
    exact ⟨_, (.cons (.val (.cons .s .nil)) (.cons (.val (.cons .s .nil)) (.cons (.val (.cons .s .nil)) (.cons (.val (.cons .s .nil)) .nil)))), (impl_before.evs ⟨()⟩ k a0 a1 a2 a3 K).trans h⟩
  · cases h
theorem impl_before.ds : dstB Tryd.f112.ntmps (bodyOf Tryd.f112) = true := by kernel_rfl
theorem impl_before.cb : callB E.P 112 = true := by kernel_rfl
theorem impl_before.ok {R : Type} (B : Base) (k : Nat) : ConOk E.P B 112 (impl_before.con (impl_before.c (R := R) k)) := con_ok E_orders E_eqs GOk.nil Tryd.func112 (by kernel_rfl) impl_before.ds rfl (impl_before.run k)
theorem impl_notesOk.inn {R : Type} (f : impl_notesOk.T R) (a0 : List (Int × Int × Int × Int × ByteArray)) (K : Ret → Option R) : (impl_notesOk.con f).run [.val false [.row .ro [.int .i64, .int .i64, .int .i64, .int .i64, .str] a0]] K = f a0 (fun r1 => K ⟨[.val false [.s (.bool r1)]], []⟩) := by kernel_rfl
theorem impl_notesOk.run {R : Type} (k : Nat) (args : List RV) (K : Ret → Option R) (o : R) (h : (impl_notesOk.con (impl_notesOk.c k)).run args K = some o) : ∃ args', All2 TyRV args args' ∧ evFunc E (impl_notesOk.G ⟨(), impl_NoteOk.c k, impl_before.c k⟩) k impl_notesOk.H [] false Tryd.f102 args' K = some o := by
  unfold impl_notesOk.con at h
  simp only at h
  split at h
  · rename_i pa0
    obtain ⟨a0, ta0, h⟩ := withRow_some (by simp) h
    exact ⟨_, (.cons (.val (.cons ta0 .nil)) .nil), (impl_notesOk.evs ⟨(), impl_NoteOk.c k, impl_before.c k⟩ k a0 K).trans h⟩
  · cases h
theorem impl_notesOk.ds : dstB Tryd.f102.ntmps (bodyOf Tryd.f102) = true := by kernel_rfl
theorem impl_notesOk.cb : callB E.P 102 = true := by kernel_rfl
theorem impl_notesOk.ok {R : Type} (B : Base) (k : Nat) : ConOk E.P B 102 (impl_notesOk.con (impl_notesOk.c (R := R) k)) := con_ok E_orders E_eqs (GOk.cons impl_NoteOk.cb (impl_NoteOk.ok B k) (GOk.cons impl_before.cb (impl_before.ok B k) GOk.nil)) Tryd.func102 (by kernel_rfl) impl_notesOk.ds rfl (impl_notesOk.run k)
theorem impl_markOk.inn {R : Type} (f : impl_markOk.T R) (a0_0 : Int) (a0_1 : Int) (a0_2 : Int) (K : Ret → Option R) : (impl_markOk.con f).run [.val true [.s (.int .i64 a0_0), .s (.int .i64 a0_1), .s (.int .i64 a0_2)]] K = f a0_0 a0_1 a0_2 (fun r1 => K ⟨[.val false [.s (.bool r1)]], []⟩) := by kernel_rfl
theorem impl_markOk.run {R : Type} (k : Nat) (args : List RV) (K : Ret → Option R) (o : R) (h : (impl_markOk.con (impl_markOk.c k)).run args K = some o) : ∃ args', All2 TyRV args args' ∧ evFunc E (impl_markOk.G ⟨(), impl_isNode.c k, impl_in.c k⟩) k impl_markOk.H [] false Tryd.f113 args' K = some o := by
  unfold impl_markOk.con at h
  simp only at h
  split at h
  · rename_i a0_0 a0_1 a0_2
    exact ⟨_, (.cons (.val (.cons .s (.cons .s (.cons .s .nil)))) .nil), (impl_markOk.evs ⟨(), impl_isNode.c k, impl_in.c k⟩ k a0_0 a0_1 a0_2 K).trans h⟩
  · cases h
theorem impl_markOk.ds : dstB Tryd.f113.ntmps (bodyOf Tryd.f113) = true := by kernel_rfl
theorem impl_markOk.cb : callB E.P 113 = true := by kernel_rfl
theorem impl_markOk.ok {R : Type} (B : Base) (k : Nat) : ConOk E.P B 113 (impl_markOk.con (impl_markOk.c (R := R) k)) := con_ok E_orders E_eqs (GOk.cons impl_isNode.cb (impl_isNode.ok B k) (GOk.cons impl_in.cb (impl_in.ok B k) GOk.nil)) Tryd.func113 (by kernel_rfl) impl_markOk.ds rfl (impl_markOk.run k)
theorem impl_marksOk.inn {R : Type} (f : impl_marksOk.T R) (a0 : List (Int × Int × Int)) (K : Ret → Option R) : (impl_marksOk.con f).run [.val false [.row .ro [.int .i64, .int .i64, .int .i64] a0]] K = f a0 (fun r1 => K ⟨[.val false [.s (.bool r1)]], []⟩) := by kernel_rfl
theorem impl_marksOk.run {R : Type} (k : Nat) (args : List RV) (K : Ret → Option R) (o : R) (h : (impl_marksOk.con (impl_marksOk.c k)).run args K = some o) : ∃ args', All2 TyRV args args' ∧ evFunc E (impl_marksOk.G ⟨(), impl_markOk.c k, impl_before.c k⟩) k impl_marksOk.H [] false Tryd.f103 args' K = some o := by
  unfold impl_marksOk.con at h
  simp only at h
  split at h
  · rename_i pa0
    obtain ⟨a0, ta0, h⟩ := withRow_some (by simp) h
    exact ⟨_, (.cons (.val (.cons ta0 .nil)) .nil), (impl_marksOk.evs ⟨(), impl_markOk.c k, impl_before.c k⟩ k a0 K).trans h⟩
  · cases h
theorem impl_marksOk.ds : dstB Tryd.f103.ntmps (bodyOf Tryd.f103) = true := by kernel_rfl
theorem impl_marksOk.cb : callB E.P 103 = true := by kernel_rfl
theorem impl_marksOk.ok {R : Type} (B : Base) (k : Nat) : ConOk E.P B 103 (impl_marksOk.con (impl_marksOk.c (R := R) k)) := con_ok E_orders E_eqs (GOk.cons impl_markOk.cb (impl_markOk.ok B k) (GOk.cons impl_before.cb (impl_before.ok B k) GOk.nil)) Tryd.func103 (by kernel_rfl) impl_marksOk.ds rfl (impl_marksOk.run k)
theorem impl_onWay.inn {R : Type} (f : impl_onWay.T R) (a0 : Int) (a1_0 : Int) (a1_1 : Int) (a1_2 : Int) (a1_3 : Int) (a1_4 : ByteArray) (K : Ret → Option R) : (impl_onWay.con f).run [.val false [.s (.int .i64 a0)], .val true [.s (.int .i64 a1_0), .s (.int .i64 a1_1), .s (.int .i64 a1_2), .s (.int .i64 a1_3), .s (.string a1_4)]] K = f a0 a1_0 a1_1 a1_2 a1_3 a1_4 (fun r1 => K ⟨[.val false [.s (.bool r1)]], []⟩) := by kernel_rfl
theorem impl_onWay.run {R : Type} (k : Nat) (args : List RV) (K : Ret → Option R) (o : R) (h : (impl_onWay.con (impl_onWay.c k)).run args K = some o) : ∃ args', All2 TyRV args args' ∧ evFunc E (impl_onWay.G ⟨(), impl_in.c k⟩) k impl_onWay.H [] false Tryd.f104 args' K = some o := by
  unfold impl_onWay.con at h
  simp only at h
  split at h
  · rename_i a0 a1_0 a1_1 a1_2 a1_3 a1_4
    exact ⟨_, (.cons (.val (.cons .s .nil)) (.cons (.val (.cons .s (.cons .s (.cons .s (.cons .s (.cons .s .nil)))))) .nil)), (impl_onWay.evs ⟨(), impl_in.c k⟩ k a0 a1_0 a1_1 a1_2 a1_3 a1_4 K).trans h⟩
  · cases h
theorem impl_onWay.ds : dstB Tryd.f104.ntmps (bodyOf Tryd.f104) = true := by kernel_rfl
theorem impl_onWay.cb : callB E.P 104 = true := by kernel_rfl
theorem impl_onWay.ok {R : Type} (B : Base) (k : Nat) : ConOk E.P B 104 (impl_onWay.con (impl_onWay.c (R := R) k)) := con_ok E_orders E_eqs (GOk.cons impl_in.cb (impl_in.ok B k) GOk.nil) Tryd.func104 (by kernel_rfl) impl_onWay.ds rfl (impl_onWay.run k)
theorem impl_markAt.inn {R : Type} (f : impl_markAt.T R) (a0 : List (Int × Int × Int)) (a1 : Int) (a2 : Int) (K : Ret → Option R) : (impl_markAt.con f).run [.val false [.row .ro [.int .i64, .int .i64, .int .i64] a0], .val false [.s (.int .i64 a1)], .val false [.s (.int .i64 a2)]] K = f a0 a1 a2 (fun r1 => K ⟨[.val false [.s (.int .i64 r1)]], []⟩) := by kernel_rfl
theorem impl_markAt.run {R : Type} (k : Nat) (args : List RV) (K : Ret → Option R) (o : R) (h : (impl_markAt.con (impl_markAt.c k)).run args K = some o) : ∃ args', All2 TyRV args args' ∧ evFunc E (impl_markAt.G ⟨()⟩) k impl_markAt.H [] false Tryd.f105 args' K = some o := by
  unfold impl_markAt.con at h
  simp only at h
  split at h
  · rename_i pa0 a1 a2
    obtain ⟨a0, ta0, h⟩ := withRow_some (by simp) h
    exact ⟨_, (.cons (.val (.cons ta0 .nil)) (.cons (.val (.cons .s .nil)) (.cons (.val (.cons .s .nil)) .nil))), (impl_markAt.evs ⟨()⟩ k a0 a1 a2 K).trans h⟩
  · cases h
theorem impl_markAt.ds : dstB Tryd.f105.ntmps (bodyOf Tryd.f105) = true := by kernel_rfl
theorem impl_markAt.cb : callB E.P 105 = true := by kernel_rfl
theorem impl_markAt.ok {R : Type} (B : Base) (k : Nat) : ConOk E.P B 105 (impl_markAt.con (impl_markAt.c (R := R) k)) := con_ok E_orders E_eqs GOk.nil Tryd.func105 (by kernel_rfl) impl_markAt.ds rfl (impl_markAt.run k)
theorem impl_KeepOk.inn {R : Type} (f : impl_KeepOk.T R) (a0_0 : Int) (a0_1 : Int) (a0_2 : Int) (a0_3 : List (Int × Int × Int × Int × ByteArray)) (a0_4 : List (Int × Int × Int)) (a0_5 : List (Int × Int × Int × Int × ByteArray)) (K : Ret → Option R) : (impl_KeepOk.con f).run [.val true [.s (.int .i64 a0_0), .s (.int .i64 a0_1), .s (.int .i64 a0_2), .row .ro [.int .i64, .int .i64, .int .i64, .int .i64, .str] a0_3, .row .ro [.int .i64, .int .i64, .int .i64] a0_4, .row .ro [.int .i64, .int .i64, .int .i64, .int .i64, .str] a0_5]] K = f a0_0 a0_1 a0_2 a0_3 a0_4 a0_5 (fun r1 => K ⟨[.val false [.s (.bool r1)]], []⟩) := by kernel_rfl
theorem impl_KeepOk.run {R : Type} (k : Nat) (args : List RV) (K : Ret → Option R) (o : R) (h : (impl_KeepOk.con (impl_KeepOk.c k)).run args K = some o) : ∃ args', All2 TyRV args args' ∧ evFunc E (impl_KeepOk.G ⟨(), impl_isNode.c k, impl_in.c k, impl_notesOk.c k, impl_marksOk.c k, impl_onWay.c k, impl_markAt.c k⟩) k impl_KeepOk.H [] false Tryd.f79 args' K = some o := by
  unfold impl_KeepOk.con at h
  simp only at h
  split at h
  · rename_i a0_0 a0_1 a0_2 pa0_3 pa0_4 pa0_5
    obtain ⟨a0_3, ta0_3, h⟩ := withRow_some (by simp) h
    obtain ⟨a0_4, ta0_4, h⟩ := withRow_some (by simp) h
    obtain ⟨a0_5, ta0_5, h⟩ := withRow_some (by simp) h
    exact ⟨_, (.cons (.val (.cons .s (.cons .s (.cons .s (.cons ta0_3 (.cons ta0_4 (.cons ta0_5 .nil))))))) .nil), (impl_KeepOk.evs ⟨(), impl_isNode.c k, impl_in.c k, impl_notesOk.c k, impl_marksOk.c k, impl_onWay.c k, impl_markAt.c k⟩ k a0_0 a0_1 a0_2 a0_3 a0_4 a0_5 K).trans h⟩
  · cases h
theorem impl_KeepOk.ds : dstB Tryd.f79.ntmps (bodyOf Tryd.f79) = true := by kernel_rfl
theorem impl_KeepOk.cb : callB E.P 79 = true := by kernel_rfl
theorem impl_KeepOk.ok {R : Type} (B : Base) (k : Nat) : ConOk E.P B 79 (impl_KeepOk.con (impl_KeepOk.c (R := R) k)) := con_ok E_orders E_eqs (GOk.cons impl_isNode.cb (impl_isNode.ok B k) (GOk.cons impl_in.cb (impl_in.ok B k) (GOk.cons impl_notesOk.cb (impl_notesOk.ok B k) (GOk.cons impl_marksOk.cb (impl_marksOk.ok B k) (GOk.cons impl_onWay.cb (impl_onWay.ok B k) (GOk.cons impl_markAt.cb (impl_markAt.ok B k) GOk.nil)))))) Tryd.func79 (by kernel_rfl) impl_KeepOk.ds rfl (impl_KeepOk.run k)
theorem impl_markWrite.inn {R : Type} (f : impl_markWrite.T R) (a0 : ByteArray) (a1 : Int) (a2 : Int) (a3 : Int) (K : Ret → Option R) : (impl_markWrite.con f).run [.val false [.s (.string a0)], .val false [.s (.int .i64 a1)], .val false [.s (.int .i64 a2)], .val false [.s (.int .i64 a3)]] K = f a0 a1 a2 a3 (fun r1 => K ⟨[.val false [.s (.string r1)]], []⟩) := by kernel_rfl
theorem impl_markWrite.run {R : Type} (k : Nat) (args : List RV) (K : Ret → Option R) (o : R) (h : (impl_markWrite.con (impl_markWrite.c k)).run args K = some o) : ∃ args', All2 TyRV args args' ∧ evFunc E (impl_markWrite.G ⟨(), strconv_Itoa.c k⟩) k impl_markWrite.H [] false Tryd.f80 args' K = some o := by
  unfold impl_markWrite.con at h
  simp only at h
  split at h
  · rename_i a0 a1 a2 a3
    exact ⟨_, (.cons (.val (.cons .s .nil)) (.cons (.val (.cons .s .nil)) (.cons (.val (.cons .s .nil)) (.cons (.val (.cons .s .nil)) .nil)))), (impl_markWrite.evs ⟨(), strconv_Itoa.c k⟩ k a0 a1 a2 a3 K).trans h⟩
  · cases h
theorem impl_markWrite.ds : dstB Tryd.f80.ntmps (bodyOf Tryd.f80) = true := by kernel_rfl
theorem impl_markWrite.cb : callB E.P 80 = true := by kernel_rfl
theorem impl_markWrite.ok {R : Type} (B : Base) (hI : ExtI E.P B) (k : Nat) : ConOk E.P B 80 (impl_markWrite.con (impl_markWrite.c (R := R) k)) := con_ok E_orders E_eqs (GOk.cons strconv_Itoa.cb (strconv_Itoa.ok B hI k) GOk.nil) Tryd.func80 (by kernel_rfl) impl_markWrite.ds rfl (impl_markWrite.run k)
theorem impl_KeepRecs.inn {R : Type} (f : impl_KeepRecs.T R) (a0_0 : Int) (a0_1 : Int) (a0_2 : Int) (a0_3 : List (Int × Int × Int × Int × ByteArray)) (a0_4 : List (Int × Int × Int)) (a0_5 : List (Int × Int × Int × Int × ByteArray)) (K : Ret → Option R) : (impl_KeepRecs.con f).run [.val true [.s (.int .i64 a0_0), .s (.int .i64 a0_1), .s (.int .i64 a0_2), .row .ro [.int .i64, .int .i64, .int .i64, .int .i64, .str] a0_3, .row .ro [.int .i64, .int .i64, .int .i64] a0_4, .row .ro [.int .i64, .int .i64, .int .i64, .int .i64, .str] a0_5]] K = f a0_0 a0_1 a0_2 a0_3 a0_4 a0_5 (fun r1 => K ⟨[.val false [.row .own [.str] r1]], []⟩) := by kernel_rfl
theorem impl_KeepRecs.run {R : Type} (k : Nat) (args : List RV) (K : Ret → Option R) (o : R) (h : (impl_KeepRecs.con (impl_KeepRecs.c k)).run args K = some o) : ∃ args', All2 TyRV args args' ∧ evFunc E (impl_KeepRecs.G ⟨(), impl_KeepOk.c k, strconv_Itoa.c k, impl_markWrite.c k, impl_NoteWrite.c k, impl_copied_string.c k⟩) k impl_KeepRecs.H [] false Tryd.f45 args' K = some o := by
  unfold impl_KeepRecs.con at h
  simp only at h
  split at h
  · rename_i a0_0 a0_1 a0_2 pa0_3 pa0_4 pa0_5
    obtain ⟨a0_3, ta0_3, h⟩ := withRow_some (by simp) h
    obtain ⟨a0_4, ta0_4, h⟩ := withRow_some (by simp) h
    obtain ⟨a0_5, ta0_5, h⟩ := withRow_some (by simp) h
    exact ⟨_, (.cons (.val (.cons .s (.cons .s (.cons .s (.cons ta0_3 (.cons ta0_4 (.cons ta0_5 .nil))))))) .nil), (impl_KeepRecs.evs ⟨(), impl_KeepOk.c k, strconv_Itoa.c k, impl_markWrite.c k, impl_NoteWrite.c k, impl_copied_string.c k⟩ k a0_0 a0_1 a0_2 a0_3 a0_4 a0_5 K).trans h⟩
  · cases h
theorem impl_KeepRecs.ds : dstB Tryd.f45.ntmps (bodyOf Tryd.f45) = true := by kernel_rfl
theorem impl_KeepRecs.cb : callB E.P 45 = true := by kernel_rfl
theorem impl_KeepRecs.ok {R : Type} (B : Base) (hI : ExtI E.P B) (k : Nat) : ConOk E.P B 45 (impl_KeepRecs.con (impl_KeepRecs.c (R := R) k)) := con_ok E_orders E_eqs (GOk.cons impl_KeepOk.cb (impl_KeepOk.ok B k) (GOk.cons strconv_Itoa.cb (strconv_Itoa.ok B hI k) (GOk.cons impl_markWrite.cb (impl_markWrite.ok B hI k) (GOk.cons impl_NoteWrite.cb (impl_NoteWrite.ok B hI k) (GOk.cons impl_copied_string.cb (impl_copied_string.ok B k) GOk.nil))))) Tryd.func45 (by kernel_rfl) impl_KeepRecs.ds rfl (impl_KeepRecs.run k)
theorem laws_eqNote.inn {R : Type} (f : laws_eqNote.T R) (a0_0 : Int) (a0_1 : Int) (a0_2 : Int) (a0_3 : Int) (a0_4 : ByteArray) (a1_0 : Int) (a1_1 : Int) (a1_2 : Int) (a1_3 : Int) (a1_4 : ByteArray) (K : Ret → Option R) : (laws_eqNote.con f).run [.val true [.s (.int .i64 a0_0), .s (.int .i64 a0_1), .s (.int .i64 a0_2), .s (.int .i64 a0_3), .s (.string a0_4)], .val true [.s (.int .i64 a1_0), .s (.int .i64 a1_1), .s (.int .i64 a1_2), .s (.int .i64 a1_3), .s (.string a1_4)]] K = f a0_0 a0_1 a0_2 a0_3 a0_4 a1_0 a1_1 a1_2 a1_3 a1_4 (fun r1 => K ⟨[.val false [.s (.bool r1)]], []⟩) := by kernel_rfl
theorem laws_eqNote.run {R : Type} (k : Nat) (args : List RV) (K : Ret → Option R) (o : R) (h : (laws_eqNote.con (laws_eqNote.c k)).run args K = some o) : ∃ args', All2 TyRV args args' ∧ evFunc E (laws_eqNote.G ⟨()⟩) k laws_eqNote.H [] false Tryd.f35 args' K = some o := by
  unfold laws_eqNote.con at h
  simp only at h
  split at h
  · rename_i a0_0 a0_1 a0_2 a0_3 a0_4 a1_0 a1_1 a1_2 a1_3 a1_4
    exact ⟨_, (.cons (.val (.cons .s (.cons .s (.cons .s (.cons .s (.cons .s .nil)))))) (.cons (.val (.cons .s (.cons .s (.cons .s (.cons .s (.cons .s .nil)))))) .nil)), (laws_eqNote.evs ⟨()⟩ k a0_0 a0_1 a0_2 a0_3 a0_4 a1_0 a1_1 a1_2 a1_3 a1_4 K).trans h⟩
  · cases h
theorem laws_eqNote.ds : dstB Tryd.f35.ntmps (bodyOf Tryd.f35) = true := by kernel_rfl
theorem laws_eqNote.cb : callB E.P 35 = true := by kernel_rfl
theorem laws_eqNote.ok {R : Type} (B : Base) (k : Nat) : ConOk E.P B 35 (laws_eqNote.con (laws_eqNote.c (R := R) k)) := con_ok E_orders E_eqs GOk.nil Tryd.func35 (by kernel_rfl) laws_eqNote.ds rfl (laws_eqNote.run k)
theorem laws_eqNoteS.inn {R : Type} (f : laws_eqNoteS.T R) (a0 : List (Int × Int × Int × Int × ByteArray)) (a1 : List (Int × Int × Int × Int × ByteArray)) (K : Ret → Option R) : (laws_eqNoteS.con f).run [.val false [.row .ro [.int .i64, .int .i64, .int .i64, .int .i64, .str] a0], .val false [.row .ro [.int .i64, .int .i64, .int .i64, .int .i64, .str] a1]] K = f a0 a1 (fun r1 => K ⟨[.val false [.s (.bool r1)]], []⟩) := by kernel_rfl
theorem laws_eqNoteS.run {R : Type} (k : Nat) (args : List RV) (K : Ret → Option R) (o : R) (h : (laws_eqNoteS.con (laws_eqNoteS.c k)).run args K = some o) : ∃ args', All2 TyRV args args' ∧ evFunc E (laws_eqNoteS.G ⟨(), laws_eqNote.c k⟩) k laws_eqNoteS.H [] false Tryd.f81 args' K = some o := by
  unfold laws_eqNoteS.con at h
  simp only at h
  split at h
  · rename_i pa0 pa1
    obtain ⟨a0, ta0, h⟩ := withRow_some (by simp) h
    obtain ⟨a1, ta1, h⟩ := withRow_some (by simp) h
    exact ⟨_, (.cons (.val (.cons ta0 .nil)) (.cons (.val (.cons ta1 .nil)) .nil)), (laws_eqNoteS.evs ⟨(), laws_eqNote.c k⟩ k a0 a1 K).trans h⟩
  · cases h
theorem laws_eqNoteS.ds : dstB Tryd.f81.ntmps (bodyOf Tryd.f81) = true := by kernel_rfl
theorem laws_eqNoteS.cb : callB E.P 81 = true := by kernel_rfl
theorem laws_eqNoteS.ok {R : Type} (B : Base) (k : Nat) : ConOk E.P B 81 (laws_eqNoteS.con (laws_eqNoteS.c (R := R) k)) := con_ok E_orders E_eqs (GOk.cons laws_eqNote.cb (laws_eqNote.ok B k) GOk.nil) Tryd.func81 (by kernel_rfl) laws_eqNoteS.ds rfl (laws_eqNoteS.run k)
theorem laws_eqMark.inn {R : Type} (f : laws_eqMark.T R) (a0_0 : Int) (a0_1 : Int) (a0_2 : Int) (a1_0 : Int) (a1_1 : Int) (a1_2 : Int) (K : Ret → Option R) : (laws_eqMark.con f).run [.val true [.s (.int .i64 a0_0), .s (.int .i64 a0_1), .s (.int .i64 a0_2)], .val true [.s (.int .i64 a1_0), .s (.int .i64 a1_1), .s (.int .i64 a1_2)]] K = f a0_0 a0_1 a0_2 a1_0 a1_1 a1_2 (fun r1 => K ⟨[.val false [.s (.bool r1)]], []⟩) := by kernel_rfl
theorem laws_eqMark.run {R : Type} (k : Nat) (args : List RV) (K : Ret → Option R) (o : R) (h : (laws_eqMark.con (laws_eqMark.c k)).run args K = some o) : ∃ args', All2 TyRV args args' ∧ evFunc E (laws_eqMark.G ⟨()⟩) k laws_eqMark.H [] false Tryd.f106 args' K = some o := by
  unfold laws_eqMark.con at h
  simp only at h
  split at h
  · rename_i a0_0 a0_1 a0_2 a1_0 a1_1 a1_2
    exact ⟨_, (.cons (.val (.cons .s (.cons .s (.cons .s .nil)))) (.cons (.val (.cons .s (.cons .s (.cons .s .nil)))) .nil)), (laws_eqMark.evs ⟨()⟩ k a0_0 a0_1 a0_2 a1_0 a1_1 a1_2 K).trans h⟩
  · cases h
theorem laws_eqMark.ds : dstB Tryd.f106.ntmps (bodyOf Tryd.f106) = true := by kernel_rfl
theorem laws_eqMark.cb : callB E.P 106 = true := by kernel_rfl
theorem laws_eqMark.ok {R : Type} (B : Base) (k : Nat) : ConOk E.P B 106 (laws_eqMark.con (laws_eqMark.c (R := R) k)) := con_ok E_orders E_eqs GOk.nil Tryd.func106 (by kernel_rfl) laws_eqMark.ds rfl (laws_eqMark.run k)
theorem laws_eqMarkS.inn {R : Type} (f : laws_eqMarkS.T R) (a0 : List (Int × Int × Int)) (a1 : List (Int × Int × Int)) (K : Ret → Option R) : (laws_eqMarkS.con f).run [.val false [.row .ro [.int .i64, .int .i64, .int .i64] a0], .val false [.row .ro [.int .i64, .int .i64, .int .i64] a1]] K = f a0 a1 (fun r1 => K ⟨[.val false [.s (.bool r1)]], []⟩) := by kernel_rfl
theorem laws_eqMarkS.run {R : Type} (k : Nat) (args : List RV) (K : Ret → Option R) (o : R) (h : (laws_eqMarkS.con (laws_eqMarkS.c k)).run args K = some o) : ∃ args', All2 TyRV args args' ∧ evFunc E (laws_eqMarkS.G ⟨(), laws_eqMark.c k⟩) k laws_eqMarkS.H [] false Tryd.f82 args' K = some o := by
  unfold laws_eqMarkS.con at h
  simp only at h
  split at h
  · rename_i pa0 pa1
    obtain ⟨a0, ta0, h⟩ := withRow_some (by simp) h
    obtain ⟨a1, ta1, h⟩ := withRow_some (by simp) h
    exact ⟨_, (.cons (.val (.cons ta0 .nil)) (.cons (.val (.cons ta1 .nil)) .nil)), (laws_eqMarkS.evs ⟨(), laws_eqMark.c k⟩ k a0 a1 K).trans h⟩
  · cases h
theorem laws_eqMarkS.ds : dstB Tryd.f82.ntmps (bodyOf Tryd.f82) = true := by kernel_rfl
theorem laws_eqMarkS.cb : callB E.P 82 = true := by kernel_rfl
theorem laws_eqMarkS.ok {R : Type} (B : Base) (k : Nat) : ConOk E.P B 82 (laws_eqMarkS.con (laws_eqMarkS.c (R := R) k)) := con_ok E_orders E_eqs (GOk.cons laws_eqMark.cb (laws_eqMark.ok B k) GOk.nil) Tryd.func82 (by kernel_rfl) laws_eqMarkS.ds rfl (laws_eqMarkS.run k)
theorem laws_eqKeep.inn {R : Type} (f : laws_eqKeep.T R) (a0_0 : Int) (a0_1 : Int) (a0_2 : Int) (a0_3 : List (Int × Int × Int × Int × ByteArray)) (a0_4 : List (Int × Int × Int)) (a0_5 : List (Int × Int × Int × Int × ByteArray)) (a1_0 : Int) (a1_1 : Int) (a1_2 : Int) (a1_3 : List (Int × Int × Int × Int × ByteArray)) (a1_4 : List (Int × Int × Int)) (a1_5 : List (Int × Int × Int × Int × ByteArray)) (K : Ret → Option R) : (laws_eqKeep.con f).run [.val true [.s (.int .i64 a0_0), .s (.int .i64 a0_1), .s (.int .i64 a0_2), .row .ro [.int .i64, .int .i64, .int .i64, .int .i64, .str] a0_3, .row .ro [.int .i64, .int .i64, .int .i64] a0_4, .row .ro [.int .i64, .int .i64, .int .i64, .int .i64, .str] a0_5], .val true [.s (.int .i64 a1_0), .s (.int .i64 a1_1), .s (.int .i64 a1_2), .row .ro [.int .i64, .int .i64, .int .i64, .int .i64, .str] a1_3, .row .ro [.int .i64, .int .i64, .int .i64] a1_4, .row .ro [.int .i64, .int .i64, .int .i64, .int .i64, .str] a1_5]] K = f a0_0 a0_1 a0_2 a0_3 a0_4 a0_5 a1_0 a1_1 a1_2 a1_3 a1_4 a1_5 (fun r1 => K ⟨[.val false [.s (.bool r1)]], []⟩) := by kernel_rfl
theorem laws_eqKeep.run {R : Type} (k : Nat) (args : List RV) (K : Ret → Option R) (o : R) (h : (laws_eqKeep.con (laws_eqKeep.c k)).run args K = some o) : ∃ args', All2 TyRV args args' ∧ evFunc E (laws_eqKeep.G ⟨(), laws_eqNoteS.c k, laws_eqMarkS.c k⟩) k laws_eqKeep.H [] false Tryd.f46 args' K = some o := by
  unfold laws_eqKeep.con at h
  simp only at h
  split at h
  · rename_i a0_0 a0_1 a0_2 pa0_3 pa0_4 pa0_5 a1_0 a1_1 a1_2 pa1_3 pa1_4 pa1_5
    obtain ⟨a0_3, ta0_3, h⟩ := withRow_some (by simp) h
    obtain ⟨a0_4, ta0_4, h⟩ := withRow_some (by simp) h
    obtain ⟨a0_5, ta0_5, h⟩ := withRow_some (by simp) h
    obtain ⟨a1_3, ta1_3, h⟩ := withRow_some (by simp) h
    obtain ⟨a1_4, ta1_4, h⟩ := withRow_some (by simp) h
    obtain ⟨a1_5, ta1_5, h⟩ := withRow_some (by simp) h
    exact ⟨_, (.cons (.val (.cons .s (.cons .s (.cons .s (.cons ta0_3 (.cons ta0_4 (.cons ta0_5 .nil))))))) (.cons (.val (.cons .s (.cons .s (.cons .s (.cons ta1_3 (.cons ta1_4 (.cons ta1_5 .nil))))))) .nil)), (laws_eqKeep.evs ⟨(), laws_eqNoteS.c k, laws_eqMarkS.c k⟩ k a0_0 a0_1 a0_2 a0_3 a0_4 a0_5 a1_0 a1_1 a1_2 a1_3 a1_4 a1_5 K).trans h⟩
  · cases h
theorem laws_eqKeep.ds : dstB Tryd.f46.ntmps (bodyOf Tryd.f46) = true := by kernel_rfl
theorem laws_eqKeep.cb : callB E.P 46 = true := by kernel_rfl
theorem laws_eqKeep.ok {R : Type} (B : Base) (k : Nat) : ConOk E.P B 46 (laws_eqKeep.con (laws_eqKeep.c (R := R) k)) := con_ok E_orders E_eqs (GOk.cons laws_eqNoteS.cb (laws_eqNoteS.ok B k) (GOk.cons laws_eqMarkS.cb (laws_eqMarkS.ok B k) GOk.nil)) Tryd.func46 (by kernel_rfl) laws_eqKeep.ds rfl (laws_eqKeep.run k)
theorem laws_markText.inn {R : Type} (f : laws_markText.T R) (a0 : Int) (K : Ret → Option R) : (laws_markText.con f).run [.val false [.s (.int .i64 a0)]] K = f a0 (fun r1 => K ⟨[.val false [.s (.string r1)]], []⟩) := by kernel_rfl
theorem laws_markText.run {R : Type} (k : Nat) (args : List RV) (K : Ret → Option R) (o : R) (h : (laws_markText.con (laws_markText.c k)).run args K = some o) : ∃ args', All2 TyRV args args' ∧ evFunc E (laws_markText.G ⟨()⟩) k laws_markText.H [] false Tryd.f85 args' K = some o := by
  unfold laws_markText.con at h
  simp only at h
  split at h
  · rename_i a0
    exact ⟨_, (.cons (.val (.cons .s .nil)) .nil), (laws_markText.evs ⟨()⟩ k a0 K).trans h⟩
  · cases h
theorem laws_markText.ds : dstB Tryd.f85.ntmps (bodyOf Tryd.f85) = true := by kernel_rfl
theorem laws_markText.cb : callB E.P 85 = true := by kernel_rfl
theorem laws_markText.ok {R : Type} (B : Base) (k : Nat) : ConOk E.P B 85 (laws_markText.con (laws_markText.c (R := R) k)) := con_ok E_orders E_eqs GOk.nil Tryd.func85 (by kernel_rfl) laws_markText.ds rfl (laws_markText.run k)
theorem laws_markNoteS.inn {R : Type} (f : laws_markNoteS.T R) (a0 : List (Int × Int × Int × Int × ByteArray)) (a1 : Int) (K : Ret → Option R) : (laws_markNoteS.con f).run [.val false [.row .ro [.int .i64, .int .i64, .int .i64, .int .i64, .str] a0], .val false [.s (.int .i64 a1)]] K = f a0 a1 (fun r1 r2 => K ⟨[.val false [.s (.int .i64 r1)]], [[.row .fix [.int .i64, .int .i64, .int .i64, .int .i64, .str] r2]]⟩) := by kernel_rfl
theorem laws_markNoteS.run {R : Type} (k : Nat) (args : List RV) (K : Ret → Option R) (o : R) (h : (laws_markNoteS.con (laws_markNoteS.c k)).run args K = some o) : ∃ args', All2 TyRV args args' ∧ evFunc E (laws_markNoteS.G ⟨(), laws_markText.c k⟩) k laws_markNoteS.H [0] false Tryd.f83 args' K = some o := by
  unfold laws_markNoteS.con at h
  simp only at h
  split at h
  · rename_i pa0 a1
    obtain ⟨a0, ta0, h⟩ := withRow_some (by simp) h
    exact ⟨_, (.cons (.val (.cons ta0 .nil)) (.cons (.val (.cons .s .nil)) .nil)), (laws_markNoteS.evs ⟨(), laws_markText.c k⟩ k a0 a1 K).trans h⟩
  · cases h
theorem laws_markNoteS.ds : dstB Tryd.f83.ntmps (bodyOf Tryd.f83) = true := by kernel_rfl
theorem laws_markNoteS.cb : callB E.P 83 = true := by kernel_rfl
theorem laws_markNoteS.ok {R : Type} (B : Base) (k : Nat) : ConOk E.P B 83 (laws_markNoteS.con (laws_markNoteS.c (R := R) k)) := con_ok E_orders E_eqs (GOk.cons laws_markText.cb (laws_markText.ok B k) GOk.nil) Tryd.func83 (by kernel_rfl) laws_markNoteS.ds rfl (laws_markNoteS.run k)
theorem laws_markMarkS.inn {R : Type} (f : laws_markMarkS.T R) (a0 : List (Int × Int × Int)) (a1 : Int) (K : Ret → Option R) : (laws_markMarkS.con f).run [.val false [.row .ro [.int .i64, .int .i64, .int .i64] a0], .val false [.s (.int .i64 a1)]] K = f a0 a1 (fun r1 r2 => K ⟨[.val false [.s (.int .i64 r1)]], [[.row .fix [.int .i64, .int .i64, .int .i64] r2]]⟩) := by kernel_rfl
theorem laws_markMarkS.run {R : Type} (k : Nat) (args : List RV) (K : Ret → Option R) (o : R) (h : (laws_markMarkS.con (laws_markMarkS.c k)).run args K = some o) : ∃ args', All2 TyRV args args' ∧ evFunc E (laws_markMarkS.G ⟨()⟩) k laws_markMarkS.H [0] false Tryd.f84 args' K = some o := by
  unfold laws_markMarkS.con at h
  simp only at h
  split at h
  · rename_i pa0 a1
    obtain ⟨a0, ta0, h⟩ := withRow_some (by simp) h
    exact ⟨_, (.cons (.val (.cons ta0 .nil)) (.cons (.val (.cons .s .nil)) .nil)), (laws_markMarkS.evs ⟨()⟩ k a0 a1 K).trans h⟩
  · cases h
theorem laws_markMarkS.ds : dstB Tryd.f84.ntmps (bodyOf Tryd.f84) = true := by kernel_rfl
theorem laws_markMarkS.cb : callB E.P 84 = true := by kernel_rfl
theorem laws_markMarkS.ok {R : Type} (B : Base) (k : Nat) : ConOk E.P B 84 (laws_markMarkS.con (laws_markMarkS.c (R := R) k)) := con_ok E_orders E_eqs GOk.nil Tryd.func84 (by kernel_rfl) laws_markMarkS.ds rfl (laws_markMarkS.run k)
theorem laws_markKeep.inn {R : Type} (f : laws_markKeep.T R) (a0_0 : Int) (a0_1 : Int) (a0_2 : Int) (a0_3 : List (Int × Int × Int × Int × ByteArray)) (a0_4 : List (Int × Int × Int)) (a0_5 : List (Int × Int × Int × Int × ByteArray)) (a1 : Int) (K : Ret → Option R) : (laws_markKeep.con f).run [.val true [.s (.int .i64 a0_0), .s (.int .i64 a0_1), .s (.int .i64 a0_2), .row .ro [.int .i64, .int .i64, .int .i64, .int .i64, .str] a0_3, .row .ro [.int .i64, .int .i64, .int .i64] a0_4, .row .ro [.int .i64, .int .i64, .int .i64, .int .i64, .str] a0_5], .val false [.s (.int .i64 a1)]] K = f a0_0 a0_1 a0_2 a0_3 a0_4 a0_5 a1 (fun r1 r2 r3 r4 => K ⟨[.val false [.s (.int .i64 r1)]], [[.row .fix [.int .i64, .int .i64, .int .i64, .int .i64, .str] r2], [.row .fix [.int .i64, .int .i64, .int .i64] r3], [.row .fix [.int .i64, .int .i64, .int .i64, .int .i64, .str] r4]]⟩) := by kernel_rfl
theorem laws_markKeep.run {R : Type} (k : Nat) (args : List RV) (K : Ret → Option R) (o : R) (h : (laws_markKeep.con (laws_markKeep.c k)).run args K = some o) : ∃ args', All2 TyRV args args' ∧ evFunc E (laws_markKeep.G ⟨(), laws_markNoteS.c k, laws_markMarkS.c k⟩) k laws_markKeep.H [0] false Tryd.f47 args' K = some o := by
  unfold laws_markKeep.con at h
  simp only at h
  split at h
  · rename_i a0_0 a0_1 a0_2 pa0_3 pa0_4 pa0_5 a1
    obtain ⟨a0_3, ta0_3, h⟩ := withRow_some (by simp) h
    obtain ⟨a0_4, ta0_4, h⟩ := withRow_some (by simp) h
    obtain ⟨a0_5, ta0_5, h⟩ := withRow_some (by simp) h
    exact ⟨_, (.cons (.val (.cons .s (.cons .s (.cons .s (.cons ta0_3 (.cons ta0_4 (.cons ta0_5 .nil))))))) (.cons (.val (.cons .s .nil)) .nil)), (laws_markKeep.evs ⟨(), laws_markNoteS.c k, laws_markMarkS.c k⟩ k a0_0 a0_1 a0_2 a0_3 a0_4 a0_5 a1 K).trans h⟩
  · cases h
theorem laws_markKeep.ds : dstB Tryd.f47.ntmps (bodyOf Tryd.f47) = true := by kernel_rfl
theorem laws_markKeep.cb : callB E.P 47 = true := by kernel_rfl
theorem laws_markKeep.ok {R : Type} (B : Base) (k : Nat) : ConOk E.P B 47 (laws_markKeep.con (laws_markKeep.c (R := R) k)) := con_ok E_orders E_eqs (GOk.cons laws_markNoteS.cb (laws_markNoteS.ok B k) (GOk.cons laws_markMarkS.cb (laws_markMarkS.ok B k) GOk.nil)) Tryd.func47 (by kernel_rfl) laws_markKeep.ds rfl (laws_markKeep.run k)
theorem laws_markStringS.inn {R : Type} (f : laws_markStringS.T R) (a0 : List ByteArray) (a1 : Int) (K : Ret → Option R) : (laws_markStringS.con f).run [.val false [.row .ro [.str] a0], .val false [.s (.int .i64 a1)]] K = f a0 a1 (fun r1 r2 => K ⟨[.val false [.s (.int .i64 r1)]], [[.row .fix [.str] r2]]⟩) := by kernel_rfl
theorem laws_markStringS.run {R : Type} (k : Nat) (args : List RV) (K : Ret → Option R) (o : R) (h : (laws_markStringS.con (laws_markStringS.c k)).run args K = some o) : ∃ args', All2 TyRV args args' ∧ evFunc E (laws_markStringS.G ⟨(), laws_markText.c k⟩) k laws_markStringS.H [0] false Tryd.f48 args' K = some o := by
  unfold laws_markStringS.con at h
  simp only at h
  split at h
  · rename_i pa0 a1
    obtain ⟨a0, ta0, h⟩ := withRow_some (by simp) h
    exact ⟨_, (.cons (.val (.cons ta0 .nil)) (.cons (.val (.cons .s .nil)) .nil)), (laws_markStringS.evs ⟨(), laws_markText.c k⟩ k a0 a1 K).trans h⟩
  · cases h
theorem laws_markStringS.ds : dstB Tryd.f48.ntmps (bodyOf Tryd.f48) = true := by kernel_rfl
theorem laws_markStringS.cb : callB E.P 48 = true := by kernel_rfl
theorem laws_markStringS.ok {R : Type} (B : Base) (k : Nat) : ConOk E.P B 48 (laws_markStringS.con (laws_markStringS.c (R := R) k)) := con_ok E_orders E_eqs (GOk.cons laws_markText.cb (laws_markText.ok B k) GOk.nil) Tryd.func48 (by kernel_rfl) laws_markStringS.ds rfl (laws_markStringS.run k)
theorem laws_heldStringS.inn {R : Type} (f : laws_heldStringS.T R) (a0 : List ByteArray) (a1 : Int) (K : Ret → Option R) : (laws_heldStringS.con f).run [.val false [.row .ro [.str] a0], .val false [.s (.int .i64 a1)]] K = f a0 a1 (fun r1 => K ⟨[.val false [.s (.int .i64 r1)]], []⟩) := by kernel_rfl
theorem laws_heldStringS.run {R : Type} (k : Nat) (args : List RV) (K : Ret → Option R) (o : R) (h : (laws_heldStringS.con (laws_heldStringS.c k)).run args K = some o) : ∃ args', All2 TyRV args args' ∧ evFunc E (laws_heldStringS.G ⟨(), laws_markText.c k⟩) k laws_heldStringS.H [] false Tryd.f49 args' K = some o := by
  unfold laws_heldStringS.con at h
  simp only at h
  split at h
  · rename_i pa0 a1
    obtain ⟨a0, ta0, h⟩ := withRow_some (by simp) h
    exact ⟨_, (.cons (.val (.cons ta0 .nil)) (.cons (.val (.cons .s .nil)) .nil)), (laws_heldStringS.evs ⟨(), laws_markText.c k⟩ k a0 a1 K).trans h⟩
  · cases h
theorem laws_heldStringS.ds : dstB Tryd.f49.ntmps (bodyOf Tryd.f49) = true := by kernel_rfl
theorem laws_heldStringS.cb : callB E.P 49 = true := by kernel_rfl
theorem laws_heldStringS.ok {R : Type} (B : Base) (k : Nat) : ConOk E.P B 49 (laws_heldStringS.con (laws_heldStringS.c (R := R) k)) := con_ok E_orders E_eqs (GOk.cons laws_markText.cb (laws_markText.ok B k) GOk.nil) Tryd.func49 (by kernel_rfl) laws_heldStringS.ds rfl (laws_heldStringS.run k)
theorem laws_FnExactKeepRecs.inn {R : Type} (f : laws_FnExactKeepRecs.T R) (a0_0 : Int) (a0_1 : Int) (a0_2 : Int) (a0_3 : List (Int × Int × Int × Int × ByteArray)) (a0_4 : List (Int × Int × Int)) (a0_5 : List (Int × Int × Int × Int × ByteArray)) (K : Ret → Option R) : (laws_FnExactKeepRecs.con f).run [.val true [.s (.int .i64 a0_0), .s (.int .i64 a0_1), .s (.int .i64 a0_2), .row .ro [.int .i64, .int .i64, .int .i64, .int .i64, .str] a0_3, .row .ro [.int .i64, .int .i64, .int .i64] a0_4, .row .ro [.int .i64, .int .i64, .int .i64, .int .i64, .str] a0_5]] K = f a0_0 a0_1 a0_2 a0_3 a0_4 a0_5 (fun r1 => K ⟨[.val false [.s (.bool r1)]], []⟩) := by kernel_rfl
theorem laws_FnExactKeepRecs.run {R : Type} (k : Nat) (args : List RV) (K : Ret → Option R) (o : R) (h : (laws_FnExactKeepRecs.con (laws_FnExactKeepRecs.c k)).run args K = some o) : ∃ args', All2 TyRV args args' ∧ evFunc E (laws_FnExactKeepRecs.G ⟨(), laws_szKeep.c k, laws_toKeep.c k, spec_KeepRecs.c k, impl_KeepRecs.c k, laws_eqStringS.c k, laws_eqKeep.c k, laws_markKeep.c k, laws_markStringS.c k, laws_heldStringS.c k⟩) k laws_FnExactKeepRecs.H [] false Tryd.f13 args' K = some o := by
  unfold laws_FnExactKeepRecs.con at h
  simp only at h
  split at h
  · rename_i a0_0 a0_1 a0_2 pa0_3 pa0_4 pa0_5
    obtain ⟨a0_3, ta0_3, h⟩ := withRow_some (by simp) h
    obtain ⟨a0_4, ta0_4, h⟩ := withRow_some (by simp) h
    obtain ⟨a0_5, ta0_5, h⟩ := withRow_some (by simp) h
    exact ⟨_, (.cons (.val (.cons .s (.cons .s (.cons .s (.cons ta0_3 (.cons ta0_4 (.cons ta0_5 .nil))))))) .nil), (laws_FnExactKeepRecs.evs ⟨(), laws_szKeep.c k, laws_toKeep.c k, spec_KeepRecs.c k, impl_KeepRecs.c k, laws_eqStringS.c k, laws_eqKeep.c k, laws_markKeep.c k, laws_markStringS.c k, laws_heldStringS.c k⟩ k a0_0 a0_1 a0_2 a0_3 a0_4 a0_5 K).trans h⟩
  · cases h
theorem laws_FnExactKeepRecs.ds : dstB Tryd.f13.ntmps (bodyOf Tryd.f13) = true := by kernel_rfl
theorem laws_FnExactKeepRecs.cb : callB E.P 13 = true := by kernel_rfl
theorem laws_FnExactKeepRecs.ok {R : Type} (B : Base) (hI : ExtI E.P B) (k : Nat) : ConOk E.P B 13 (laws_FnExactKeepRecs.con (laws_FnExactKeepRecs.c (R := R) k)) := con_ok E_orders E_eqs (GOk.cons laws_szKeep.cb (laws_szKeep.ok B k) (GOk.cons laws_toKeep.cb (laws_toKeep.ok B k) (GOk.cons spec_KeepRecs.cb (spec_KeepRecs.ok B k) (GOk.cons impl_KeepRecs.cb (impl_KeepRecs.ok B hI k) (GOk.cons laws_eqStringS.cb (laws_eqStringS.ok B k) (GOk.cons laws_eqKeep.cb (laws_eqKeep.ok B k) (GOk.cons laws_markKeep.cb (laws_markKeep.ok B k) (GOk.cons laws_markStringS.cb (laws_markStringS.ok B k) (GOk.cons laws_heldStringS.cb (laws_heldStringS.ok B k) GOk.nil))))))))) Tryd.func13 (by kernel_rfl) laws_FnExactKeepRecs.ds rfl (laws_FnExactKeepRecs.run k)
end Go.Ev.F
