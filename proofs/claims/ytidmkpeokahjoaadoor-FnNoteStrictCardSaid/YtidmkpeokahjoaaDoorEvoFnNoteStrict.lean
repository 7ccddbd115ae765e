/- What the Go functions compute is what the machine does. No condition. Written by a program of this session. -/
import Derived.Test.YtidmkpeokahjoaaDoorEvtFnNoteStrict
import Derived.Test.YtidmkpeokahjoaaDoorSoE
import Derived.Test.YtidmkpeokahjoaaDoorExt
import Derived.Test.YtidmkpeokahjoaaDoorShf
namespace Go.Ev.F
open Go.Proofs
set_option linter.unusedVariables false
set_option maxRecDepth 100000
theorem E_orders : E.P.follows .mixedOrders = true := by kernel_rfl
theorem E_eqs : ∀ t ∈ E.eqs, eqFree E.P t = true := List.all_eq_true.mp (by kernel_rfl)
theorem spec_l6In.inn {R : Type} (f : spec_l6In.T R) (a0 : Int) (a1 : Int) (a2 : Int) (K : Ret → Option R) : (spec_l6In.con f).run [.val false [.s (.int .i64 a0)], .val false [.s (.int .i64 a1)], .val false [.s (.int .i64 a2)]] K = f a0 a1 a2 (fun r1 => K ⟨[.val false [.s (.bool r1)]], []⟩) := by kernel_rfl
theorem spec_l6In.run {R : Type} (k : Nat) (args : List RV) (K : Ret → Option R) (o : R) (h : (spec_l6In.con (spec_l6In.c k)).run args K = some o) : ∃ args', All2 TyRV args args' ∧ evFunc E (spec_l6In.G ⟨()⟩) k spec_l6In.H [] false Tryd.f56 args' K = some o := by
  unfold spec_l6In.con at h
  simp only at h
  split at h
  · rename_i a0 a1 a2
    exact ⟨_, (.cons (.val (.cons .s .nil)) (.cons (.val (.cons .s .nil)) (.cons (.val (.cons .s .nil)) .nil))), (spec_l6In.evs ⟨()⟩ k a0 a1 a2 K).trans h⟩
  · cases h
theorem spec_l6In.ds : dstB Tryd.f56.ntmps (bodyOf Tryd.f56) = true := by kernel_rfl
theorem spec_l6In.cb : callB E.P 56 = true := by kernel_rfl
theorem spec_l6In.ok {R : Type} (B : Base) (k : Nat) : ConOk E.P B 56 (spec_l6In.con (spec_l6In.c (R := R) k)) := con_ok E_orders E_eqs GOk.nil Tryd.func56 (by kernel_rfl) spec_l6In.ds rfl (spec_l6In.run k)
theorem spec_l3Keeper.inn {R : Type} (f : spec_l3Keeper.T R) (a0 : Int) (K : Ret → Option R) : (spec_l3Keeper.con f).run [.val false [.s (.int .i64 a0)]] K = f a0 (fun r1 => K ⟨[.val false [.s (.bool r1)]], []⟩) := by kernel_rfl
theorem spec_l3Keeper.run {R : Type} (k : Nat) (args : List RV) (K : Ret → Option R) (o : R) (h : (spec_l3Keeper.con (spec_l3Keeper.c k)).run args K = some o) : ∃ args', All2 TyRV args args' ∧ evFunc E (spec_l3Keeper.G ⟨(), spec_l6In.c k⟩) k spec_l3Keeper.H [] false Tryd.f69 args' K = some o := by
  unfold spec_l3Keeper.con at h
  simp only at h
  split at h
  · rename_i a0
    exact ⟨_, (.cons (.val (.cons .s .nil)) .nil), (spec_l3Keeper.evs ⟨(), spec_l6In.c k⟩ k a0 K).trans h⟩
  · cases h
theorem spec_l3Keeper.ds : dstB Tryd.f69.ntmps (bodyOf Tryd.f69) = true := by kernel_rfl
theorem spec_l3Keeper.cb : callB E.P 69 = true := by kernel_rfl
theorem spec_l3Keeper.ok {R : Type} (B : Base) (k : Nat) : ConOk E.P B 69 (spec_l3Keeper.con (spec_l3Keeper.c (R := R) k)) := con_ok E_orders E_eqs (GOk.cons spec_l6In.cb (spec_l6In.ok B k) GOk.nil) Tryd.func69 (by kernel_rfl) spec_l3Keeper.ds rfl (spec_l3Keeper.run k)
theorem spec_NoteOk.inn {R : Type} (f : spec_NoteOk.T R) (a0_0 : Int) (a0_1 : Int) (a0_2 : Int) (a0_3 : Int) (a0_4 : ByteArray) (K : Ret → Option R) : (spec_NoteOk.con f).run [.val true [.s (.int .i64 a0_0), .s (.int .i64 a0_1), .s (.int .i64 a0_2), .s (.int .i64 a0_3), .s (.string a0_4)]] K = f a0_0 a0_1 a0_2 a0_3 a0_4 (fun r1 => K ⟨[.val false [.s (.bool r1)]], []⟩) := by kernel_rfl
theorem spec_NoteOk.run {R : Type} (k : Nat) (args : List RV) (K : Ret → Option R) (o : R) (h : (spec_NoteOk.con (spec_NoteOk.c k)).run args K = some o) : ∃ args', All2 TyRV args args' ∧ evFunc E (spec_NoteOk.G ⟨(), spec_l3Keeper.c k, spec_l6In.c k⟩) k spec_NoteOk.H [] false Tryd.f38 args' K = some o := by
  unfold spec_NoteOk.con at h
  simp only at h
  split at h
  · rename_i a0_0 a0_1 a0_2 a0_3 a0_4
    exact ⟨_, (.cons (.val (.cons .s (.cons .s (.cons .s (.cons .s (.cons .s .nil)))))) .nil), (spec_NoteOk.evs ⟨(), spec_l3Keeper.c k, spec_l6In.c k⟩ k a0_0 a0_1 a0_2 a0_3 a0_4 K).trans h⟩
  · cases h
theorem spec_NoteOk.ds : dstB Tryd.f38.ntmps (bodyOf Tryd.f38) = true := by kernel_rfl
theorem spec_NoteOk.cb : callB E.P 38 = true := by kernel_rfl
theorem spec_NoteOk.ok {R : Type} (B : Base) (k : Nat) : ConOk E.P B 38 (spec_NoteOk.con (spec_NoteOk.c (R := R) k)) := con_ok E_orders E_eqs (GOk.cons spec_l3Keeper.cb (spec_l3Keeper.ok B k) (GOk.cons spec_l6In.cb (spec_l6In.ok B k) GOk.nil)) Tryd.func38 (by kernel_rfl) spec_NoteOk.ds rfl (spec_NoteOk.run k)
theorem spec_l6Dec.inn {R : Type} (f : spec_l6Dec.T R) (a0 : Int) (K : Ret → Option R) : (spec_l6Dec.con f).run [.val false [.s (.int .i64 a0)]] K = f a0 (fun r1 => K ⟨[.val false [.s (.string r1)]], []⟩) := by kernel_rfl
theorem spec_l6Dec.run {R : Type} (k : Nat) (args : List RV) (K : Ret → Option R) (o : R) (h : (spec_l6Dec.con (spec_l6Dec.c (k + 1))).run args K = some o) : ∃ args', All2 TyRV args args' ∧ evFunc E (spec_l6Dec.G ⟨(), spec_l6Dec.c k⟩) k spec_l6Dec.H [] false Tryd.f68 args' K = some o := by
  unfold spec_l6Dec.con at h
  simp only at h
  split at h
  · rename_i a0
    exact ⟨_, (.cons (.val (.cons .s .nil)) .nil), (spec_l6Dec.evs ⟨(), spec_l6Dec.c k⟩ k a0 K).trans h⟩
  · cases h
theorem spec_l6Dec.ds : dstB Tryd.f68.ntmps (bodyOf Tryd.f68) = true := by kernel_rfl
theorem spec_l6Dec.cb : callB E.P 68 = true := by kernel_rfl
theorem spec_l6Dec.ok {R : Type} (B : Base) : ∀ k, ConOk E.P B 68 (spec_l6Dec.con (spec_l6Dec.c (R := R) k))
  | 0 => by
    intro args K o h
    exfalso
    unfold spec_l6Dec.con at h
    simp only at h
    split at h
    · cases h
    · cases h
  | k + 1 => by
    have ih := spec_l6Dec.ok (R := R) B k
    exact con_ok E_orders E_eqs (GOk.cons spec_l6Dec.cb ih GOk.nil) Tryd.func68 (by kernel_rfl) spec_l6Dec.ds rfl (spec_l6Dec.run k)
theorem spec_NoteWrite.inn {R : Type} (f : spec_NoteWrite.T R) (a0_0 : Int) (a0_1 : Int) (a0_2 : Int) (a0_3 : Int) (a0_4 : ByteArray) (K : Ret → Option R) : (spec_NoteWrite.con f).run [.val true [.s (.int .i64 a0_0), .s (.int .i64 a0_1), .s (.int .i64 a0_2), .s (.int .i64 a0_3), .s (.string a0_4)]] K = f a0_0 a0_1 a0_2 a0_3 a0_4 (fun r1 => K ⟨[.val false [.s (.string r1)]], []⟩) := by kernel_rfl
theorem spec_NoteWrite.run {R : Type} (k : Nat) (args : List RV) (K : Ret → Option R) (o : R) (h : (spec_NoteWrite.con (spec_NoteWrite.c k)).run args K = some o) : ∃ args', All2 TyRV args args' ∧ evFunc E (spec_NoteWrite.G ⟨(), spec_NoteOk.c k, spec_l6Dec.c k⟩) k spec_NoteWrite.H [] false Tryd.f37 args' K = some o := by
  unfold spec_NoteWrite.con at h
  simp only at h
  split at h
  · rename_i a0_0 a0_1 a0_2 a0_3 a0_4
    exact ⟨_, (.cons (.val (.cons .s (.cons .s (.cons .s (.cons .s (.cons .s .nil)))))) .nil), (spec_NoteWrite.evs ⟨(), spec_NoteOk.c k, spec_l6Dec.c k⟩ k a0_0 a0_1 a0_2 a0_3 a0_4 K).trans h⟩
  · cases h
theorem spec_NoteWrite.ds : dstB Tryd.f37.ntmps (bodyOf Tryd.f37) = true := by kernel_rfl
theorem spec_NoteWrite.cb : callB E.P 37 = true := by kernel_rfl
theorem spec_NoteWrite.ok {R : Type} (B : Base) (k : Nat) : ConOk E.P B 37 (spec_NoteWrite.con (spec_NoteWrite.c (R := R) k)) := con_ok E_orders E_eqs (GOk.cons spec_NoteOk.cb (spec_NoteOk.ok B k) (GOk.cons spec_l6Dec.cb (spec_l6Dec.ok B k) GOk.nil)) Tryd.func37 (by kernel_rfl) spec_NoteWrite.ds rfl (spec_NoteWrite.run k)
theorem spec_l3Word.inn {R : Type} (f : spec_l3Word.T R) (a0 : ByteArray) (K : Ret → Option R) : (spec_l3Word.con f).run [.val false [.s (.string a0)]] K = f a0 (fun r1 r2 => K ⟨[.val false [.s (.string r1)], .val false [.s (.string r2)]], []⟩) := by kernel_rfl
theorem spec_l3Word.run {R : Type} (k : Nat) (args : List RV) (K : Ret → Option R) (o : R) (h : (spec_l3Word.con (spec_l3Word.c k)).run args K = some o) : ∃ args', All2 TyRV args args' ∧ evFunc E (spec_l3Word.G ⟨()⟩) k spec_l3Word.H [] false Tryd.f90 args' K = some o := by
  unfold spec_l3Word.con at h
  simp only at h
  split at h
  · rename_i a0
    exact ⟨_, (.cons (.val (.cons .s .nil)) .nil), (spec_l3Word.evs ⟨()⟩ k a0 K).trans h⟩
  · cases h
theorem spec_l3Word.ds : dstB Tryd.f90.ntmps (bodyOf Tryd.f90) = true := by kernel_rfl
theorem spec_l3Word.cb : callB E.P 90 = true := by kernel_rfl
theorem spec_l3Word.ok {R : Type} (B : Base) (k : Nat) : ConOk E.P B 90 (spec_l3Word.con (spec_l3Word.c (R := R) k)) := con_ok E_orders E_eqs GOk.nil Tryd.func90 (by kernel_rfl) spec_l3Word.ds rfl (spec_l3Word.run k)
theorem spec_l3Dec.inn {R : Type} (f : spec_l3Dec.T R) (a0 : ByteArray) (K : Ret → Option R) : (spec_l3Dec.con f).run [.val false [.s (.string a0)]] K = f a0 (fun r1 => K ⟨[.val false [.s (.int .i64 r1)]], []⟩) := by kernel_rfl
theorem spec_l3Dec.run {R : Type} (k : Nat) (args : List RV) (K : Ret → Option R) (o : R) (h : (spec_l3Dec.con (spec_l3Dec.c k)).run args K = some o) : ∃ args', All2 TyRV args args' ∧ evFunc E (spec_l3Dec.G ⟨(), spec_l6Dec.c k⟩) k spec_l3Dec.H [] false Tryd.f91 args' K = some o := by
  unfold spec_l3Dec.con at h
  simp only at h
  split at h
  · rename_i a0
    exact ⟨_, (.cons (.val (.cons .s .nil)) .nil), (spec_l3Dec.evs ⟨(), spec_l6Dec.c k⟩ k a0 K).trans h⟩
  · cases h
theorem spec_l3Dec.ds : dstB Tryd.f91.ntmps (bodyOf Tryd.f91) = true := by kernel_rfl
theorem spec_l3Dec.cb : callB E.P 91 = true := by kernel_rfl
theorem spec_l3Dec.ok {R : Type} (B : Base) (k : Nat) : ConOk E.P B 91 (spec_l3Dec.con (spec_l3Dec.c (R := R) k)) := con_ok E_orders E_eqs (GOk.cons spec_l6Dec.cb (spec_l6Dec.ok B k) GOk.nil) Tryd.func91 (by kernel_rfl) spec_l3Dec.ds rfl (spec_l3Dec.run k)
theorem spec_l3Nums.inn {R : Type} (f : spec_l3Nums.T R) (a0 : ByteArray) (a1 : Int) (K : Ret → Option R) : (spec_l3Nums.con f).run [.val false [.s (.string a0)], .val false [.s (.int .i64 a1)]] K = f a0 a1 (fun r1 r2 => K ⟨[.val false [.row .own [.int .i64] r1], .val false [.s (.string r2)]], []⟩) := by kernel_rfl
theorem spec_l3Nums.run {R : Type} (k : Nat) (args : List RV) (K : Ret → Option R) (o : R) (h : (spec_l3Nums.con (spec_l3Nums.c k)).run args K = some o) : ∃ args', All2 TyRV args args' ∧ evFunc E (spec_l3Nums.G ⟨(), spec_l3Word.c k, spec_l3Dec.c k⟩) k spec_l3Nums.H [] false Tryd.f64 args' K = some o := by
  unfold spec_l3Nums.con at h
  simp only at h
  split at h
  · rename_i a0 a1
    exact ⟨_, (.cons (.val (.cons .s .nil)) (.cons (.val (.cons .s .nil)) .nil)), (spec_l3Nums.evs ⟨(), spec_l3Word.c k, spec_l3Dec.c k⟩ k a0 a1 K).trans h⟩
  · cases h
theorem spec_l3Nums.ds : dstB Tryd.f64.ntmps (bodyOf Tryd.f64) = true := by kernel_rfl
theorem spec_l3Nums.cb : callB E.P 64 = true := by kernel_rfl
theorem spec_l3Nums.ok {R : Type} (B : Base) (k : Nat) : ConOk E.P B 64 (spec_l3Nums.con (spec_l3Nums.c (R := R) k)) := con_ok E_orders E_eqs (GOk.cons spec_l3Word.cb (spec_l3Word.ok B k) (GOk.cons spec_l3Dec.cb (spec_l3Dec.ok B k) GOk.nil)) Tryd.func64 (by kernel_rfl) spec_l3Nums.ds rfl (spec_l3Nums.run k)
theorem spec_NoteRead.inn {R : Type} (f : spec_NoteRead.T R) (a0 : ByteArray) (K : Ret → Option R) : (spec_NoteRead.con f).run [.val false [.s (.string a0)]] K = f a0 (fun r1 r2 r3 r4 r5 r6 => K ⟨[.val true [.s (.int .i64 r1), .s (.int .i64 r2), .s (.int .i64 r3), .s (.int .i64 r4), .s (.string r5)], .val false [.s (.bool r6)]], []⟩) := by kernel_rfl
theorem spec_NoteRead.run {R : Type} (k : Nat) (args : List RV) (K : Ret → Option R) (o : R) (h : (spec_NoteRead.con (spec_NoteRead.c k)).run args K = some o) : ∃ args', All2 TyRV args args' ∧ evFunc E (spec_NoteRead.G ⟨(), spec_l3Nums.c k, spec_NoteWrite.c k⟩) k spec_NoteRead.H [] false Tryd.f33 args' K = some o := by
  unfold spec_NoteRead.con at h
  simp only at h
  split at h
  · rename_i a0
    exact ⟨_, (.cons (.val (.cons .s .nil)) .nil), (spec_NoteRead.evs ⟨(), spec_l3Nums.c k, spec_NoteWrite.c k⟩ k a0 K).trans h⟩
  · cases h
theorem spec_NoteRead.ds : dstB Tryd.f33.ntmps (bodyOf Tryd.f33) = true := by kernel_rfl
theorem spec_NoteRead.cb : callB E.P 33 = true := by kernel_rfl
theorem spec_NoteRead.ok {R : Type} (B : Base) (k : Nat) : ConOk E.P B 33 (spec_NoteRead.con (spec_NoteRead.c (R := R) k)) := con_ok E_orders E_eqs (GOk.cons spec_l3Nums.cb (spec_l3Nums.ok B k) (GOk.cons spec_NoteWrite.cb (spec_NoteWrite.ok B k) GOk.nil)) Tryd.func33 (by kernel_rfl) spec_NoteRead.ds rfl (spec_NoteRead.run k)
theorem impl_in.inn {R : Type} (f : impl_in.T R) (a0 : Int) (a1 : Int) (a2 : Int) (K : Ret → Option R) : (impl_in.con f).run [.val false [.s (.int .i64 a0)], .val false [.s (.int .i64 a1)], .val false [.s (.int .i64 a2)]] K = f a0 a1 a2 (fun r1 => K ⟨[.val false [.s (.bool r1)]], []⟩) := by kernel_rfl
theorem impl_in.run {R : Type} (k : Nat) (args : List RV) (K : Ret → Option R) (o : R) (h : (impl_in.con (impl_in.c k)).run args K = some o) : ∃ args', All2 TyRV args args' ∧ evFunc E (impl_in.G ⟨()⟩) k impl_in.H [] false Tryd.f60 args' K = some o := by
  unfold impl_in.con at h
  simp only at h
  split at h
  · rename_i a0 a1 a2
    exact ⟨_, (.cons (.val (.cons .s .nil)) (.cons (.val (.cons .s .nil)) (.cons (.val (.cons .s .nil)) .nil))), (impl_in.evs ⟨()⟩ k a0 a1 a2 K).trans h⟩
  · cases h
theorem impl_in.ds : dstB Tryd.f60.ntmps (bodyOf Tryd.f60) = true := by kernel_rfl
theorem impl_in.cb : callB E.P 60 = true := by kernel_rfl
theorem impl_in.ok {R : Type} (B : Base) (k : Nat) : ConOk E.P B 60 (impl_in.con (impl_in.c (R := R) k)) := con_ok E_orders E_eqs GOk.nil Tryd.func60 (by kernel_rfl) impl_in.ds rfl (impl_in.run k)
theorem impl_isNode.inn {R : Type} (f : impl_isNode.T R) (a0 : Int) (K : Ret → Option R) : (impl_isNode.con f).run [.val false [.s (.int .i64 a0)]] K = f a0 (fun r1 => K ⟨[.val false [.s (.bool r1)]], []⟩) := by kernel_rfl
theorem impl_isNode.run {R : Type} (k : Nat) (args : List RV) (K : Ret → Option R) (o : R) (h : (impl_isNode.con (impl_isNode.c k)).run args K = some o) : ∃ args', All2 TyRV args args' ∧ evFunc E (impl_isNode.G ⟨(), impl_in.c k⟩) k impl_isNode.H [] false Tryd.f71 args' K = some o := by
  unfold impl_isNode.con at h
  simp only at h
  split at h
  · rename_i a0
    exact ⟨_, (.cons (.val (.cons .s .nil)) .nil), (impl_isNode.evs ⟨(), impl_in.c k⟩ k a0 K).trans h⟩
  · cases h
theorem impl_isNode.ds : dstB Tryd.f71.ntmps (bodyOf Tryd.f71) = true := by kernel_rfl
theorem impl_isNode.cb : callB E.P 71 = true := by kernel_rfl
theorem impl_isNode.ok {R : Type} (B : Base) (k : Nat) : ConOk E.P B 71 (impl_isNode.con (impl_isNode.c (R := R) k)) := con_ok E_orders E_eqs (GOk.cons impl_in.cb (impl_in.ok B k) GOk.nil) Tryd.func71 (by kernel_rfl) impl_isNode.ds rfl (impl_isNode.run k)
theorem impl_textOk.inn {R : Type} (f : impl_textOk.T R) (a0 : ByteArray) (K : Ret → Option R) : (impl_textOk.con f).run [.val false [.s (.string a0)]] K = f a0 (fun r1 => K ⟨[.val false [.s (.bool r1)]], []⟩) := by kernel_rfl
theorem impl_textOk.run {R : Type} (k : Nat) (args : List RV) (K : Ret → Option R) (o : R) (h : (impl_textOk.con (impl_textOk.c k)).run args K = some o) : ∃ args', All2 TyRV args args' ∧ evFunc E (impl_textOk.G ⟨(), impl_in.c k⟩) k impl_textOk.H [] false Tryd.f72 args' K = some o := by
  unfold impl_textOk.con at h
  simp only at h
  split at h
  · rename_i a0
    exact ⟨_, (.cons (.val (.cons .s .nil)) .nil), (impl_textOk.evs ⟨(), impl_in.c k⟩ k a0 K).trans h⟩
  · cases h
theorem impl_textOk.ds : dstB Tryd.f72.ntmps (bodyOf Tryd.f72) = true := by kernel_rfl
theorem impl_textOk.cb : callB E.P 72 = true := by kernel_rfl
theorem impl_textOk.ok {R : Type} (B : Base) (k : Nat) : ConOk E.P B 72 (impl_textOk.con (impl_textOk.c (R := R) k)) := con_ok E_orders E_eqs (GOk.cons impl_in.cb (impl_in.ok B k) GOk.nil) Tryd.func72 (by kernel_rfl) impl_textOk.ds rfl (impl_textOk.run k)
theorem impl_NoteOk.inn {R : Type} (f : impl_NoteOk.T R) (a0_0 : Int) (a0_1 : Int) (a0_2 : Int) (a0_3 : Int) (a0_4 : ByteArray) (K : Ret → Option R) : (impl_NoteOk.con f).run [.val true [.s (.int .i64 a0_0), .s (.int .i64 a0_1), .s (.int .i64 a0_2), .s (.int .i64 a0_3), .s (.string a0_4)]] K = f a0_0 a0_1 a0_2 a0_3 a0_4 (fun r1 => K ⟨[.val false [.s (.bool r1)]], []⟩) := by kernel_rfl
theorem impl_NoteOk.run {R : Type} (k : Nat) (args : List RV) (K : Ret → Option R) (o : R) (h : (impl_NoteOk.con (impl_NoteOk.c k)).run args K = some o) : ∃ args', All2 TyRV args args' ∧ evFunc E (impl_NoteOk.G ⟨(), impl_isNode.c k, impl_in.c k, impl_textOk.c k⟩) k impl_NoteOk.H [] false Tryd.f40 args' K = some o := by
  unfold impl_NoteOk.con at h
  simp only at h
  split at h
  · rename_i a0_0 a0_1 a0_2 a0_3 a0_4
    exact ⟨_, (.cons (.val (.cons .s (.cons .s (.cons .s (.cons .s (.cons .s .nil)))))) .nil), (impl_NoteOk.evs ⟨(), impl_isNode.c k, impl_in.c k, impl_textOk.c k⟩ k a0_0 a0_1 a0_2 a0_3 a0_4 K).trans h⟩
  · cases h
theorem impl_NoteOk.ds : dstB Tryd.f40.ntmps (bodyOf Tryd.f40) = true := by kernel_rfl
theorem impl_NoteOk.cb : callB E.P 40 = true := by kernel_rfl
theorem impl_NoteOk.ok {R : Type} (B : Base) (k : Nat) : ConOk E.P B 40 (impl_NoteOk.con (impl_NoteOk.c (R := R) k)) := con_ok E_orders E_eqs (GOk.cons impl_isNode.cb (impl_isNode.ok B k) (GOk.cons impl_in.cb (impl_in.ok B k) (GOk.cons impl_textOk.cb (impl_textOk.ok B k) GOk.nil))) Tryd.func40 (by kernel_rfl) impl_NoteOk.ds rfl (impl_NoteOk.run k)
theorem strconv_Itoa.inn {R : Type} (f : strconv_Itoa.T R) (a0 : Int) (K : Ret → Option R) : (strconv_Itoa.con f).run [.val false [.s (.int .i64 a0)]] K = f a0 (fun r1 => K ⟨[.val false [.s (.string r1)]], []⟩) := by kernel_rfl
theorem strconv_Itoa.cb : callB E.P 70 = true := by kernel_rfl
theorem strconv_Itoa.ok {R : Type} (B : Base) (hI : ExtI E.P B) (k : Nat) : ConOk E.P B 70 (strconv_Itoa.con (strconv_Itoa.c (R := R) k)) := by
  refine itoa_conok (fun n h0 h1 w hw => Tryd.strconv_Itoa n h0 h1 w (hI w hw)) _ rfl fun args K o h => ?_
  unfold strconv_Itoa.con at h
  simp only at h
  split at h
  · rename_i a0
    unfold strconv_Itoa.c at h
    cases hc : (decide (-9223372036854775808 ≤ a0) && decide (a0 ≤ 9223372036854775807)) with
    | false => rw [hc] at h; cases h
    | true =>
      rw [hc] at h
      simp only [Bool.and_eq_true, decide_eq_true_eq] at hc
      exact ⟨a0, rfl, hc, h⟩
  · cases h
theorem impl_NoteWrite.inn {R : Type} (f : impl_NoteWrite.T R) (a0_0 : Int) (a0_1 : Int) (a0_2 : Int) (a0_3 : Int) (a0_4 : ByteArray) (K : Ret → Option R) : (impl_NoteWrite.con f).run [.val true [.s (.int .i64 a0_0), .s (.int .i64 a0_1), .s (.int .i64 a0_2), .s (.int .i64 a0_3), .s (.string a0_4)]] K = f a0_0 a0_1 a0_2 a0_3 a0_4 (fun r1 => K ⟨[.val false [.s (.string r1)]], []⟩) := by kernel_rfl
theorem impl_NoteWrite.run {R : Type} (k : Nat) (args : List RV) (K : Ret → Option R) (o : R) (h : (impl_NoteWrite.con (impl_NoteWrite.c k)).run args K = some o) : ∃ args', All2 TyRV args args' ∧ evFunc E (impl_NoteWrite.G ⟨(), impl_NoteOk.c k, strconv_Itoa.c k⟩) k impl_NoteWrite.H [] false Tryd.f39 args' K = some o := by
  unfold impl_NoteWrite.con at h
  simp only at h
  split at h
  · rename_i a0_0 a0_1 a0_2 a0_3 a0_4
    exact ⟨_, (.cons (.val (.cons .s (.cons .s (.cons .s (.cons .s (.cons .s .nil)))))) .nil), (impl_NoteWrite.evs ⟨(), impl_NoteOk.c k, strconv_Itoa.c k⟩ k a0_0 a0_1 a0_2 a0_3 a0_4 K).trans h⟩
  · cases h
theorem impl_NoteWrite.ds : dstB Tryd.f39.ntmps (bodyOf Tryd.f39) = true := by kernel_rfl
theorem impl_NoteWrite.cb : callB E.P 39 = true := by kernel_rfl
theorem impl_NoteWrite.ok {R : Type} (B : Base) (hI : ExtI E.P B) (k : Nat) : ConOk E.P B 39 (impl_NoteWrite.con (impl_NoteWrite.c (R := R) k)) := con_ok E_orders E_eqs (GOk.cons impl_NoteOk.cb (impl_NoteOk.ok B k) (GOk.cons strconv_Itoa.cb (strconv_Itoa.ok B hI k) GOk.nil)) Tryd.func39 (by kernel_rfl) impl_NoteWrite.ds rfl (impl_NoteWrite.run k)
theorem strings_SplitN.inn {R : Type} (f : strings_SplitN.T R) (a0 : ByteArray) (a1 : ByteArray) (a2 : Int) (K : Ret → Option R) : (strings_SplitN.con f).run [.val false [.s (.string a0)], .val false [.s (.string a1)], .val false [.s (.int .i64 a2)]] K = f a0 a1 a2 (fun r1 => K ⟨[.val false [.row .own [.str] r1]], []⟩) := by kernel_rfl
theorem strings_SplitN.cb : callB E.P 65 = true := by kernel_rfl
theorem strings_SplitN.ok {R : Type} (B : Base) (hS : ExtS E.P B) (k : Nat) : ConOk E.P B 65 (strings_SplitN.con (strings_SplitN.c (R := R) k)) := by
  refine splitn_conok (fun s sep n h0 h1 h2 h3 w hw => hS.elim fun m hm => Tryd.strings_SplitN s sep n m w h0 (hm w hw) h1 h2 h3) _ rfl fun args K o h => ?_
  unfold strings_SplitN.con at h
  simp only at h
  split at h
  · rename_i a0 a1 a2
    unfold strings_SplitN.c at h
    cases hc : ((decide (a0.size < 4294967281) && decide (1 ≤ a1.size)) && (decide (1 ≤ a2) && decide (a2 ≤ 9223372036854775807))) with
    | false => rw [hc] at h; cases h
    | true =>
      rw [hc] at h
      simp only [Bool.and_eq_true, decide_eq_true_eq] at hc
      exact ⟨a0, a1, a2, rfl, ⟨hc.1.1, hc.1.2, hc.2.1, hc.2.2⟩, h⟩
  · cases h
theorem impl_natural.inn {R : Type} (f : impl_natural.T R) (a0 : ByteArray) (K : Ret → Option R) : (impl_natural.con f).run [.val false [.s (.string a0)]] K = f a0 (fun r1 r2 => K ⟨[.val false [.s (.int .i64 r1)], .val false [.s (.bool r2)]], []⟩) := by kernel_rfl
theorem impl_natural.run {R : Type} (k : Nat) (args : List RV) (K : Ret → Option R) (o : R) (h : (impl_natural.con (impl_natural.c k)).run args K = some o) : ∃ args', All2 TyRV args args' ∧ evFunc E (impl_natural.G ⟨(), impl_in.c k⟩) k impl_natural.H [] false Tryd.f59 args' K = some o := by
  unfold impl_natural.con at h
  simp only at h
  split at h
  · rename_i a0
    exact ⟨_, (.cons (.val (.cons .s .nil)) .nil), (impl_natural.evs ⟨(), impl_in.c k⟩ k a0 K).trans h⟩
  · cases h
theorem impl_natural.ds : dstB Tryd.f59.ntmps (bodyOf Tryd.f59) = true := by kernel_rfl
theorem impl_natural.cb : callB E.P 59 = true := by kernel_rfl
theorem impl_natural.ok {R : Type} (B : Base) (k : Nat) : ConOk E.P B 59 (impl_natural.con (impl_natural.c (R := R) k)) := con_ok E_orders E_eqs (GOk.cons impl_in.cb (impl_in.ok B k) GOk.nil) Tryd.func59 (by kernel_rfl) impl_natural.ds rfl (impl_natural.run k)
theorem impl_naturals.inn {R : Type} (f : impl_naturals.T R) (a0 : List ByteArray) (K : Ret → Option R) : (impl_naturals.con f).run [.val false [.row .ro [.str] a0]] K = f a0 (fun r1 r2 => K ⟨[.val false [.row .own [.int .i64] r1], .val false [.s (.bool r2)]], []⟩) := by kernel_rfl
theorem impl_naturals.run {R : Type} (k : Nat) (args : List RV) (K : Ret → Option R) (o : R) (h : (impl_naturals.con (impl_naturals.c k)).run args K = some o) : ∃ args', All2 TyRV args args' ∧ evFunc E (impl_naturals.G ⟨(), impl_natural.c k⟩) k impl_naturals.H [] false Tryd.f66 args' K = some o := by
  unfold impl_naturals.con at h
  simp only at h
  split at h
  · rename_i pa0
    obtain ⟨a0, ta0, h⟩ := withRow_some (by simp) h
    exact ⟨_, (.cons (.val (.cons ta0 .nil)) .nil), (impl_naturals.evs ⟨(), impl_natural.c k⟩ k a0 K).trans h⟩
  · cases h
theorem impl_naturals.ds : dstB Tryd.f66.ntmps (bodyOf Tryd.f66) = true := by kernel_rfl
theorem impl_naturals.cb : callB E.P 66 = true := by kernel_rfl
theorem impl_naturals.ok {R : Type} (B : Base) (k : Nat) : ConOk E.P B 66 (impl_naturals.con (impl_naturals.c (R := R) k)) := con_ok E_orders E_eqs (GOk.cons impl_natural.cb (impl_natural.ok B k) GOk.nil) Tryd.func66 (by kernel_rfl) impl_naturals.ds rfl (impl_naturals.run k)
theorem impl_NoteRead.inn {R : Type} (f : impl_NoteRead.T R) (a0 : ByteArray) (K : Ret → Option R) : (impl_NoteRead.con f).run [.val false [.s (.string a0)]] K = f a0 (fun r1 r2 r3 r4 r5 r6 => K ⟨[.val true [.s (.int .i64 r1), .s (.int .i64 r2), .s (.int .i64 r3), .s (.int .i64 r4), .s (.string r5)], .val false [.s (.bool r6)]], []⟩) := by kernel_rfl
theorem impl_NoteRead.run {R : Type} (k : Nat) (args : List RV) (K : Ret → Option R) (o : R) (h : (impl_NoteRead.con (impl_NoteRead.c k)).run args K = some o) : ∃ args', All2 TyRV args args' ∧ evFunc E (impl_NoteRead.G ⟨(), strings_SplitN.c k, impl_naturals.c k, impl_NoteOk.c k, impl_NoteWrite.c k⟩) k impl_NoteRead.H [] false Tryd.f34 args' K = some o := by
  unfold impl_NoteRead.con at h
  simp only at h
  split at h
  · rename_i a0
    exact ⟨_, (.cons (.val (.cons .s .nil)) .nil), (impl_NoteRead.evs ⟨(), strings_SplitN.c k, impl_naturals.c k, impl_NoteOk.c k, impl_NoteWrite.c k⟩ k a0 K).trans h⟩
  · cases h
theorem impl_NoteRead.ds : dstB Tryd.f34.ntmps (bodyOf Tryd.f34) = true := by kernel_rfl
theorem impl_NoteRead.cb : callB E.P 34 = true := by kernel_rfl
theorem impl_NoteRead.ok {R : Type} (B : Base) (hI : ExtI E.P B) (hS : ExtS E.P B) (k : Nat) : ConOk E.P B 34 (impl_NoteRead.con (impl_NoteRead.c (R := R) k)) := con_ok E_orders E_eqs (GOk.cons strings_SplitN.cb (strings_SplitN.ok B hS k) (GOk.cons impl_naturals.cb (impl_naturals.ok B k) (GOk.cons impl_NoteOk.cb (impl_NoteOk.ok B k) (GOk.cons impl_NoteWrite.cb (impl_NoteWrite.ok B hI k) GOk.nil)))) Tryd.func34 (by kernel_rfl) impl_NoteRead.ds rfl (impl_NoteRead.run k)
theorem spec_l6Open.inn {R : Type} (f : spec_l6Open.T R) (a0 : List Int) (K : Ret → Option R) : (spec_l6Open.con f).run [.val false [.row .ro [.int .u8] a0]] K = f a0 (fun r1 r2 => K ⟨[.ref [.row .ro [.int .u8] r1, .s (.int .i64 r2)]], []⟩) := by kernel_rfl
theorem spec_l6Open.run {R : Type} (k : Nat) (args : List RV) (K : Ret → Option R) (o : R) (h : (spec_l6Open.con (spec_l6Open.c k)).run args K = some o) : ∃ args', All2 TyRV args args' ∧ evFunc E (spec_l6Open.G ⟨()⟩) k spec_l6Open.H [] false Tryd.f55 args' K = some o := by
  unfold spec_l6Open.con at h
  simp only at h
  split at h
  · rename_i pa0
    obtain ⟨a0, ta0, h⟩ := withRow_some (by simp) h
    exact ⟨_, (.cons (.val (.cons ta0 .nil)) .nil), (spec_l6Open.evs ⟨()⟩ k a0 K).trans h⟩
  · cases h
theorem spec_l6Open.ds : dstB Tryd.f55.ntmps (bodyOf Tryd.f55) = true := by kernel_rfl
theorem spec_l6Open.cb : callB E.P 55 = true := by kernel_rfl
theorem spec_l6Open.ok {R : Type} (B : Base) (k : Nat) : ConOk E.P B 55 (spec_l6Open.con (spec_l6Open.c (R := R) k)) := con_ok E_orders E_eqs GOk.nil Tryd.func55 (by kernel_rfl) spec_l6Open.ds rfl (spec_l6Open.run k)
theorem spec_l6Rd_pick.inn {R : Type} (f : spec_l6Rd_pick.T R) (a0_0 : List Int) (a0_1 : Int) (a1 : Int) (K : Ret → Option R) : (spec_l6Rd_pick.con f).run [.ref [.row .ro [.int .u8] a0_0, .s (.int .i64 a0_1)], .val false [.s (.int .i64 a1)]] K = f a0_0 a0_1 a1 (fun r1 r2 => K ⟨[.val false [.s (.int .i64 r1)]], [[.row .ro [.int .u8] a0_0, .s (.int .i64 r2)]]⟩) := by kernel_rfl
theorem spec_l6Rd_pick.run {R : Type} (k : Nat) (args : List RV) (K : Ret → Option R) (o : R) (h : (spec_l6Rd_pick.con (spec_l6Rd_pick.c k)).run args K = some o) : ∃ args', All2 TyRV args args' ∧ evFunc E (spec_l6Rd_pick.G ⟨()⟩) k spec_l6Rd_pick.H [] false Tryd.f62 args' K = some o := by
  unfold spec_l6Rd_pick.con at h
  simp only at h
  split at h
  · rename_i pa0_0 a0_1 a1
    obtain ⟨a0_0, ta0_0, h⟩ := withRow_some (by simp) h
    exact ⟨_, (.cons (.ref (.cons ta0_0 (.cons .s .nil))) (.cons (.val (.cons .s .nil)) .nil)), (spec_l6Rd_pick.evs ⟨()⟩ k a0_0 a0_1 a1 K).trans h⟩
  · cases h
theorem spec_l6Rd_pick.ds : dstB Tryd.f62.ntmps (bodyOf Tryd.f62) = true := by kernel_rfl
theorem spec_l6Rd_pick.cb : callB E.P 62 = true := by kernel_rfl
theorem spec_l6Rd_pick.ok {R : Type} (B : Base) (k : Nat) : ConOk E.P B 62 (spec_l6Rd_pick.con (spec_l6Rd_pick.c (R := R) k)) := con_ok E_orders E_eqs GOk.nil Tryd.func62 (by kernel_rfl) spec_l6Rd_pick.ds rfl (spec_l6Rd_pick.run k)
theorem spec_l6Rd_of.inn {R : Type} (f : spec_l6Rd_of.T R) (a0_0 : List Int) (a0_1 : Int) (a1 : List ByteArray) (K : Ret → Option R) : (spec_l6Rd_of.con f).run [.ref [.row .ro [.int .u8] a0_0, .s (.int .i64 a0_1)], .val false [.row .ro [.str] a1]] K = f a0_0 a0_1 a1 (fun r1 r2 => K ⟨[.val false [.s (.string r1)]], [[.row .ro [.int .u8] a0_0, .s (.int .i64 r2)]]⟩) := by kernel_rfl
theorem spec_l6Rd_of.run {R : Type} (k : Nat) (args : List RV) (K : Ret → Option R) (o : R) (h : (spec_l6Rd_of.con (spec_l6Rd_of.c k)).run args K = some o) : ∃ args', All2 TyRV args args' ∧ evFunc E (spec_l6Rd_of.G ⟨(), spec_l6Rd_pick.c k⟩) k spec_l6Rd_of.H [] false Tryd.f89 args' K = some o := by
  unfold spec_l6Rd_of.con at h
  simp only at h
  split at h
  · rename_i pa0_0 a0_1 pa1
    obtain ⟨a0_0, ta0_0, h⟩ := withRow_some (by simp) h
    obtain ⟨a1, ta1, h⟩ := withRow_some (by simp) h
    exact ⟨_, (.cons (.ref (.cons ta0_0 (.cons .s .nil))) (.cons (.val (.cons ta1 .nil)) .nil)), (spec_l6Rd_of.evs ⟨(), spec_l6Rd_pick.c k⟩ k a0_0 a0_1 a1 K).trans h⟩
  · cases h
theorem spec_l6Rd_of.ds : dstB Tryd.f89.ntmps (bodyOf Tryd.f89) = true := by kernel_rfl
theorem spec_l6Rd_of.cb : callB E.P 89 = true := by kernel_rfl
theorem spec_l6Rd_of.ok {R : Type} (B : Base) (k : Nat) : ConOk E.P B 89 (spec_l6Rd_of.con (spec_l6Rd_of.c (R := R) k)) := con_ok E_orders E_eqs (GOk.cons spec_l6Rd_pick.cb (spec_l6Rd_pick.ok B k) GOk.nil) Tryd.func89 (by kernel_rfl) spec_l6Rd_of.ds rfl (spec_l6Rd_of.run k)
theorem spec_l6Many.inn {R : Type} (f : spec_l6Many.T R) (a0 : ByteArray) (a1 : Int) (K : Ret → Option R) : (spec_l6Many.con f).run [.val false [.s (.string a0)], .val false [.s (.int .i64 a1)]] K = f a0 a1 (fun r1 => K ⟨[.val false [.s (.string r1)]], []⟩) := by kernel_rfl
theorem spec_l6Many.run {R : Type} (k : Nat) (args : List RV) (K : Ret → Option R) (o : R) (h : (spec_l6Many.con (spec_l6Many.c k)).run args K = some o) : ∃ args', All2 TyRV args args' ∧ evFunc E (spec_l6Many.G ⟨()⟩) k spec_l6Many.H [] false Tryd.f63 args' K = some o := by
  unfold spec_l6Many.con at h
  simp only at h
  split at h
  · rename_i a0 a1
    exact ⟨_, (.cons (.val (.cons .s .nil)) (.cons (.val (.cons .s .nil)) .nil)), (spec_l6Many.evs ⟨()⟩ k a0 a1 K).trans h⟩
  · cases h
theorem spec_l6Many.ds : dstB Tryd.f63.ntmps (bodyOf Tryd.f63) = true := by kernel_rfl
theorem spec_l6Many.cb : callB E.P 63 = true := by kernel_rfl
theorem spec_l6Many.ok {R : Type} (B : Base) (k : Nat) : ConOk E.P B 63 (spec_l6Many.con (spec_l6Many.c (R := R) k)) := con_ok E_orders E_eqs GOk.nil Tryd.func63 (by kernel_rfl) spec_l6Many.ds rfl (spec_l6Many.run k)
theorem spec_l72Text.inn {R : Type} (f : spec_l72Text.T R) (a0_0 : List Int) (a0_1 : Int) (K : Ret → Option R) : (spec_l72Text.con f).run [.ref [.row .ro [.int .u8] a0_0, .s (.int .i64 a0_1)]] K = f a0_0 a0_1 (fun r1 r2 => K ⟨[.val false [.s (.string r1)]], [[.row .ro [.int .u8] a0_0, .s (.int .i64 r2)]]⟩) := by kernel_rfl
theorem spec_l72Text.run {R : Type} (k : Nat) (args : List RV) (K : Ret → Option R) (o : R) (h : (spec_l72Text.con (spec_l72Text.c k)).run args K = some o) : ∃ args', All2 TyRV args args' ∧ evFunc E (spec_l72Text.G ⟨(), spec_l6Rd_pick.c k, spec_l6Many.c k, spec_l6Rd_of.c k⟩) k spec_l72Text.H [] false Tryd.f93 args' K = some o := by
  unfold spec_l72Text.con at h
  simp only at h
  split at h
  · rename_i pa0_0 a0_1
    obtain ⟨a0_0, ta0_0, h⟩ := withRow_some (by simp) h
    exact ⟨_, (.cons (.ref (.cons ta0_0 (.cons .s .nil))) .nil), (spec_l72Text.evs ⟨(), spec_l6Rd_pick.c k, spec_l6Many.c k, spec_l6Rd_of.c k⟩ k a0_0 a0_1 K).trans h⟩
  · cases h
theorem spec_l72Text.ds : dstB Tryd.f93.ntmps (bodyOf Tryd.f93) = true := by kernel_rfl
theorem spec_l72Text.cb : callB E.P 93 = true := by kernel_rfl
theorem spec_l72Text.ok {R : Type} (B : Base) (k : Nat) : ConOk E.P B 93 (spec_l72Text.con (spec_l72Text.c (R := R) k)) := con_ok E_orders E_eqs (GOk.cons spec_l6Rd_pick.cb (spec_l6Rd_pick.ok B k) (GOk.cons spec_l6Many.cb (spec_l6Many.ok B k) (GOk.cons spec_l6Rd_of.cb (spec_l6Rd_of.ok B k) GOk.nil))) Tryd.func93 (by kernel_rfl) spec_l72Text.ds rfl (spec_l72Text.run k)
theorem spec_l72Note.inn {R : Type} (f : spec_l72Note.T R) (a0_0 : List Int) (a0_1 : Int) (K : Ret → Option R) : (spec_l72Note.con f).run [.ref [.row .ro [.int .u8] a0_0, .s (.int .i64 a0_1)]] K = f a0_0 a0_1 (fun r1 r2 r3 r4 r5 r6 => K ⟨[.val true [.s (.int .i64 r1), .s (.int .i64 r2), .s (.int .i64 r3), .s (.int .i64 r4), .s (.string r5)]], [[.row .ro [.int .u8] a0_0, .s (.int .i64 r6)]]⟩) := by kernel_rfl
theorem spec_l72Note.run {R : Type} (k : Nat) (args : List RV) (K : Ret → Option R) (o : R) (h : (spec_l72Note.con (spec_l72Note.c k)).run args K = some o) : ∃ args', All2 TyRV args args' ∧ evFunc E (spec_l72Note.G ⟨(), spec_l6Rd_pick.c k, spec_l6Rd_of.c k, spec_l72Text.c k⟩) k spec_l72Note.H [] false Tryd.f67 args' K = some o := by
  unfold spec_l72Note.con at h
  simp only at h
  split at h
  · rename_i pa0_0 a0_1
    obtain ⟨a0_0, ta0_0, h⟩ := withRow_some (by simp) h
    exact ⟨_, (.cons (.ref (.cons ta0_0 (.cons .s .nil))) .nil), (spec_l72Note.evs ⟨(), spec_l6Rd_pick.c k, spec_l6Rd_of.c k, spec_l72Text.c k⟩ k a0_0 a0_1 K).trans h⟩
  · cases h
theorem spec_l72Note.ds : dstB Tryd.f67.ntmps (bodyOf Tryd.f67) = true := by kernel_rfl
theorem spec_l72Note.cb : callB E.P 67 = true := by kernel_rfl
theorem spec_l72Note.ok {R : Type} (B : Base) (k : Nat) : ConOk E.P B 67 (spec_l72Note.con (spec_l72Note.c (R := R) k)) := con_ok E_orders E_eqs (GOk.cons spec_l6Rd_pick.cb (spec_l6Rd_pick.ok B k) (GOk.cons spec_l6Rd_of.cb (spec_l6Rd_of.ok B k) (GOk.cons spec_l72Text.cb (spec_l72Text.ok B k) GOk.nil))) Tryd.func67 (by kernel_rfl) spec_l72Note.ds rfl (spec_l72Note.run k)
theorem spec_l72Bend.inn {R : Type} (f : spec_l72Bend.T R) (a0_0 : List Int) (a0_1 : Int) (a1 : ByteArray) (K : Ret → Option R) : (spec_l72Bend.con f).run [.ref [.row .ro [.int .u8] a0_0, .s (.int .i64 a0_1)], .val false [.s (.string a1)]] K = f a0_0 a0_1 a1 (fun r1 r2 => K ⟨[.val false [.s (.string r1)]], [[.row .ro [.int .u8] a0_0, .s (.int .i64 r2)]]⟩) := by kernel_rfl
theorem spec_l72Bend.run {R : Type} (k : Nat) (args : List RV) (K : Ret → Option R) (o : R) (h : (spec_l72Bend.con (spec_l72Bend.c k)).run args K = some o) : ∃ args', All2 TyRV args args' ∧ evFunc E (spec_l72Bend.G ⟨(), spec_l6Rd_pick.c k, spec_l6Rd_of.c k⟩) k spec_l72Bend.H [] false Tryd.f73 args' K = some o := by
  unfold spec_l72Bend.con at h
  simp only at h
  split at h
  · rename_i pa0_0 a0_1 a1
    obtain ⟨a0_0, ta0_0, h⟩ := withRow_some (by simp) h
    exact ⟨_, (.cons (.ref (.cons ta0_0 (.cons .s .nil))) (.cons (.val (.cons .s .nil)) .nil)), (spec_l72Bend.evs ⟨(), spec_l6Rd_pick.c k, spec_l6Rd_of.c k⟩ k a0_0 a0_1 a1 K).trans h⟩
  · cases h
theorem spec_l72Bend.ds : dstB Tryd.f73.ntmps (bodyOf Tryd.f73) = true := by kernel_rfl
theorem spec_l72Bend.cb : callB E.P 73 = true := by kernel_rfl
theorem spec_l72Bend.ok {R : Type} (B : Base) (k : Nat) : ConOk E.P B 73 (spec_l72Bend.con (spec_l72Bend.c (R := R) k)) := con_ok E_orders E_eqs (GOk.cons spec_l6Rd_pick.cb (spec_l6Rd_pick.ok B k) (GOk.cons spec_l6Rd_of.cb (spec_l6Rd_of.ok B k) GOk.nil)) Tryd.func73 (by kernel_rfl) spec_l72Bend.ds rfl (spec_l72Bend.run k)
theorem spec_DrawNoteRead.inn {R : Type} (f : spec_DrawNoteRead.T R) (a0 : List Int) (K : Ret → Option R) : (spec_DrawNoteRead.con f).run [.val false [.row .ro [.int .u8] a0]] K = f a0 (fun r1 => K ⟨[.val false [.s (.string r1)]], []⟩) := by kernel_rfl
theorem spec_DrawNoteRead.run {R : Type} (k : Nat) (args : List RV) (K : Ret → Option R) (o : R) (h : (spec_DrawNoteRead.con (spec_DrawNoteRead.c k)).run args K = some o) : ∃ args', All2 TyRV args args' ∧ evFunc E (spec_DrawNoteRead.G ⟨(), spec_l6Open.c k, spec_l72Note.c k, spec_NoteWrite.c k, spec_l72Bend.c k⟩) k spec_DrawNoteRead.H [] false Tryd.f41 args' K = some o := by
  unfold spec_DrawNoteRead.con at h
  simp only at h
  split at h
  · rename_i pa0
    obtain ⟨a0, ta0, h⟩ := withRow_some (by simp) h
    exact ⟨_, (.cons (.val (.cons ta0 .nil)) .nil), (spec_DrawNoteRead.evs ⟨(), spec_l6Open.c k, spec_l72Note.c k, spec_NoteWrite.c k, spec_l72Bend.c k⟩ k a0 K).trans h⟩
  · cases h
theorem spec_DrawNoteRead.ds : dstB Tryd.f41.ntmps (bodyOf Tryd.f41) = true := by kernel_rfl
theorem spec_DrawNoteRead.cb : callB E.P 41 = true := by kernel_rfl
theorem spec_DrawNoteRead.ok {R : Type} (B : Base) (k : Nat) : ConOk E.P B 41 (spec_DrawNoteRead.con (spec_DrawNoteRead.c (R := R) k)) := con_ok E_orders E_eqs (GOk.cons spec_l6Open.cb (spec_l6Open.ok B k) (GOk.cons spec_l72Note.cb (spec_l72Note.ok B k) (GOk.cons spec_NoteWrite.cb (spec_NoteWrite.ok B k) (GOk.cons spec_l72Bend.cb (spec_l72Bend.ok B k) GOk.nil)))) Tryd.func41 (by kernel_rfl) spec_DrawNoteRead.ds rfl (spec_DrawNoteRead.run k)
theorem laws_FnNoteStrict.inn {R : Type} (f : laws_FnNoteStrict.T R) (a0 : List Int) (K : Ret → Option R) : (laws_FnNoteStrict.con f).run [.val false [.row .ro [.int .u8] a0]] K = f a0 (fun r1 => K ⟨[.val false [.s (.bool r1)]], []⟩) := by kernel_rfl
theorem laws_FnNoteStrict.run {R : Type} (k : Nat) (args : List RV) (K : Ret → Option R) (o : R) (h : (laws_FnNoteStrict.con (laws_FnNoteStrict.c k)).run args K = some o) : ∃ args', All2 TyRV args args' ∧ evFunc E (laws_FnNoteStrict.G ⟨(), spec_DrawNoteRead.c k, spec_NoteRead.c k, impl_NoteRead.c k, impl_NoteOk.c k, impl_NoteWrite.c k⟩) k laws_FnNoteStrict.H [] false Tryd.f12 args' K = some o := by
  unfold laws_FnNoteStrict.con at h
  simp only at h
  split at h
  · rename_i pa0
    obtain ⟨a0, ta0, h⟩ := withRow_some (by simp) h
    exact ⟨_, (.cons (.val (.cons ta0 .nil)) .nil), (laws_FnNoteStrict.evs ⟨(), spec_DrawNoteRead.c k, spec_NoteRead.c k, impl_NoteRead.c k, impl_NoteOk.c k, impl_NoteWrite.c k⟩ k a0 K).trans h⟩
  · cases h
theorem laws_FnNoteStrict.ds : dstB Tryd.f12.ntmps (bodyOf Tryd.f12) = true := by kernel_rfl
theorem laws_FnNoteStrict.cb : callB E.P 12 = true := by kernel_rfl
theorem laws_FnNoteStrict.ok {R : Type} (B : Base) (hI : ExtI E.P B) (hS : ExtS E.P B) (k : Nat) : ConOk E.P B 12 (laws_FnNoteStrict.con (laws_FnNoteStrict.c (R := R) k)) := con_ok E_orders E_eqs (GOk.cons spec_DrawNoteRead.cb (spec_DrawNoteRead.ok B k) (GOk.cons spec_NoteRead.cb (spec_NoteRead.ok B k) (GOk.cons impl_NoteRead.cb (impl_NoteRead.ok B hI hS k) (GOk.cons impl_NoteOk.cb (impl_NoteOk.ok B k) (GOk.cons impl_NoteWrite.cb (impl_NoteWrite.ok B hI k) GOk.nil))))) Tryd.func12 (by kernel_rfl) laws_FnNoteStrict.ds rfl (laws_FnNoteStrict.run k)
end Go.Ev.F
