/- What the Go functions compute is what the machine does. No condition. Written by a program of this session. -/
import Derived.Test.YtidmkpeokahjoaaDoorEvtFnExactShelfPack
import Derived.Test.YtidmkpeokahjoaaDoorSoE
import Derived.Test.YtidmkpeokahjoaaDoorExt
import Derived.Test.YtidmkpeokahjoaaDoorShf
namespace Go.Ev.F
open Go.Proofs
set_option linter.unusedVariables false
set_option maxRecDepth 100000
theorem E_orders : E.P.follows .mixedOrders = true := by kernel_rfl
theorem E_eqs : ∀ t ∈ E.eqs, eqFree E.P t = true := List.all_eq_true.mp (by kernel_rfl)
theorem laws_szShelf.inn {R : Type} (f : laws_szShelf.T R) (a0_0 : ByteArray) (a0_1 : Int) (a1 : Int) (K : Ret → Option R) : (laws_szShelf.con f).run [.val true [.s (.string a0_0), .s (.int .i64 a0_1)], .val false [.s (.int .i64 a1)]] K = f a0_0 a0_1 a1 (fun r1 => K ⟨[.val false [.s (.int .i64 r1)]], []⟩) := by kernel_rfl
theorem laws_szShelf.run {R : Type} (k : Nat) (args : List RV) (K : Ret → Option R) (o : R) (h : (laws_szShelf.con (laws_szShelf.c k)).run args K = some o) : ∃ args', All2 TyRV args args' ∧ evFunc E (laws_szShelf.G ⟨()⟩) k laws_szShelf.H [] false Tryd.f14 args' K = some o := by
  unfold laws_szShelf.con at h
  simp only at h
  split at h
  · rename_i a0_0 a0_1 a1
    exact ⟨_, (.cons (.val (.cons .s (.cons .s .nil))) (.cons (.val (.cons .s .nil)) .nil)), (laws_szShelf.evs ⟨()⟩ k a0_0 a0_1 a1 K).trans h⟩
  · cases h
theorem laws_szShelf.ds : dstB Tryd.f14.ntmps (bodyOf Tryd.f14) = true := by kernel_rfl
theorem laws_szShelf.cb : callB E.P 14 = true := by kernel_rfl
theorem laws_szShelf.ok {R : Type} (B : Base) (k : Nat) : ConOk E.P B 14 (laws_szShelf.con (laws_szShelf.c (R := R) k)) := con_ok E_orders E_eqs GOk.nil Tryd.func14 (by kernel_rfl) laws_szShelf.ds rfl (laws_szShelf.run k)
theorem laws_toShelf.inn {R : Type} (f : laws_toShelf.T R) (a0_0 : ByteArray) (a0_1 : Int) (K : Ret → Option R) : (laws_toShelf.con f).run [.val true [.s (.string a0_0), .s (.int .i64 a0_1)]] K = f a0_0 a0_1 (fun r1 r2 => K ⟨[.val true [.s (.string r1), .s (.int .i64 r2)]], []⟩) := by kernel_rfl
theorem laws_toShelf.run {R : Type} (k : Nat) (args : List RV) (K : Ret → Option R) (o : R) (h : (laws_toShelf.con (laws_toShelf.c k)).run args K = some o) : ∃ args', All2 TyRV args args' ∧ evFunc E (laws_toShelf.G ⟨()⟩) k laws_toShelf.H [] false Tryd.f16 args' K = some o := by
  unfold laws_toShelf.con at h
  simp only at h
  split at h
  · rename_i a0_0 a0_1
    exact ⟨_, (.cons (.val (.cons .s (.cons .s .nil))) .nil), (laws_toShelf.evs ⟨()⟩ k a0_0 a0_1 K).trans h⟩
  · cases h
theorem laws_toShelf.ds : dstB Tryd.f16.ntmps (bodyOf Tryd.f16) = true := by kernel_rfl
theorem laws_toShelf.cb : callB E.P 16 = true := by kernel_rfl
theorem laws_toShelf.ok {R : Type} (B : Base) (k : Nat) : ConOk E.P B 16 (laws_toShelf.con (laws_toShelf.c (R := R) k)) := con_ok E_orders E_eqs GOk.nil Tryd.func16 (by kernel_rfl) laws_toShelf.ds rfl (laws_toShelf.run k)
theorem laws_eqShelf.inn {R : Type} (f : laws_eqShelf.T R) (a0_0 : ByteArray) (a0_1 : Int) (a1_0 : ByteArray) (a1_1 : Int) (K : Ret → Option R) : (laws_eqShelf.con f).run [.val true [.s (.string a0_0), .s (.int .i64 a0_1)], .val true [.s (.string a1_0), .s (.int .i64 a1_1)]] K = f a0_0 a0_1 a1_0 a1_1 (fun r1 => K ⟨[.val false [.s (.bool r1)]], []⟩) := by kernel_rfl
theorem laws_eqShelf.run {R : Type} (k : Nat) (args : List RV) (K : Ret → Option R) (o : R) (h : (laws_eqShelf.con (laws_eqShelf.c k)).run args K = some o) : ∃ args', All2 TyRV args args' ∧ evFunc E (laws_eqShelf.G ⟨()⟩) k laws_eqShelf.H [] false Tryd.f18 args' K = some o := by
  unfold laws_eqShelf.con at h
  simp only at h
  split at h
  · rename_i a0_0 a0_1 a1_0 a1_1
    exact ⟨_, (.cons (.val (.cons .s (.cons .s .nil))) (.cons (.val (.cons .s (.cons .s .nil))) .nil)), (laws_eqShelf.evs ⟨()⟩ k a0_0 a0_1 a1_0 a1_1 K).trans h⟩
  · cases h
theorem laws_eqShelf.ds : dstB Tryd.f18.ntmps (bodyOf Tryd.f18) = true := by kernel_rfl
theorem laws_eqShelf.cb : callB E.P 18 = true := by kernel_rfl
theorem laws_eqShelf.ok {R : Type} (B : Base) (k : Nat) : ConOk E.P B 18 (laws_eqShelf.con (laws_eqShelf.c (R := R) k)) := con_ok E_orders E_eqs GOk.nil Tryd.func18 (by kernel_rfl) laws_eqShelf.ds rfl (laws_eqShelf.run k)
theorem laws_szStringS.inn {R : Type} (f : laws_szStringS.T R) (a0 : List ByteArray) (a1 : Int) (K : Ret → Option R) : (laws_szStringS.con f).run [.val false [.row .ro [.str] a0], .val false [.s (.int .i64 a1)]] K = f a0 a1 (fun r1 => K ⟨[.val false [.s (.int .i64 r1)]], []⟩) := by kernel_rfl
theorem laws_szStringS.run {R : Type} (k : Nat) (args : List RV) (K : Ret → Option R) (o : R) (h : (laws_szStringS.con (laws_szStringS.c k)).run args K = some o) : ∃ args', All2 TyRV args args' ∧ evFunc E (laws_szStringS.G ⟨()⟩) k laws_szStringS.H [] false Tryd.f19 args' K = some o := by
  unfold laws_szStringS.con at h
  simp only at h
  split at h
  · rename_i pa0 a1
    obtain ⟨a0, ta0, h⟩ := withRow_some (by simp) h
    exact ⟨_, (.cons (.val (.cons ta0 .nil)) (.cons (.val (.cons .s .nil)) .nil)), (laws_szStringS.evs ⟨()⟩ k a0 a1 K).trans h⟩
  · cases h
theorem laws_szStringS.ds : dstB Tryd.f19.ntmps (bodyOf Tryd.f19) = true := by kernel_rfl
theorem laws_szStringS.cb : callB E.P 19 = true := by kernel_rfl
theorem laws_szStringS.ok {R : Type} (B : Base) (k : Nat) : ConOk E.P B 19 (laws_szStringS.con (laws_szStringS.c (R := R) k)) := con_ok E_orders E_eqs GOk.nil Tryd.func19 (by kernel_rfl) laws_szStringS.ds rfl (laws_szStringS.run k)
theorem spec_l6In.inn {R : Type} (f : spec_l6In.T R) (a0 : Int) (a1 : Int) (a2 : Int) (K : Ret → Option R) : (spec_l6In.con f).run [.val false [.s (.int .i64 a0)], .val false [.s (.int .i64 a1)], .val false [.s (.int .i64 a2)]] K = f a0 a1 a2 (fun r1 => K ⟨[.val false [.s (.bool r1)]], []⟩) := by kernel_rfl
theorem spec_l6In.run {R : Type} (k : Nat) (args : List RV) (K : Ret → Option R) (o : R) (h : (spec_l6In.con (spec_l6In.c k)).run args K = some o) : ∃ args', All2 TyRV args args' ∧ evFunc E (spec_l6In.G ⟨()⟩) k spec_l6In.H [] false Tryd.f56 args' K = some o := by
  unfold spec_l6In.con at h
  simp only at h
  split at h
  · rename_i a0 a1 a2
    exact ⟨_, (.cons (.val (.cons .s .nil)) (.cons (.val (.cons .s .nil)) (.cons (.val (.cons .s .nil)) .nil))), (spec_l6In.evs ⟨()⟩ k a0 a1 a2 K).trans h⟩
  · cases h
theorem spec_l6In.ds : dstB Tryd.f56.ntmps (bodyOf Tryd.f56) = true := by kernel_rfl
theorem spec_l6In.cb : callB E.P 56 = true := by kernel_rfl
theorem spec_l6In.ok {R : Type} (B : Base) (k : Nat) : ConOk E.P B 56 (spec_l6In.con (spec_l6In.c (R := R) k)) := con_ok E_orders E_eqs GOk.nil Tryd.func56 (by kernel_rfl) spec_l6In.ds rfl (spec_l6In.run k)
theorem spec_l6Dec.inn {R : Type} (f : spec_l6Dec.T R) (a0 : Int) (K : Ret → Option R) : (spec_l6Dec.con f).run [.val false [.s (.int .i64 a0)]] K = f a0 (fun r1 => K ⟨[.val false [.s (.string r1)]], []⟩) := by kernel_rfl
theorem spec_l6Dec.run {R : Type} (k : Nat) (args : List RV) (K : Ret → Option R) (o : R) (h : (spec_l6Dec.con (spec_l6Dec.c (k + 1))).run args K = some o) : ∃ args', All2 TyRV args args' ∧ evFunc E (spec_l6Dec.G ⟨(), spec_l6Dec.c k⟩) k spec_l6Dec.H [] false Tryd.f68 args' K = some o := by
  unfold spec_l6Dec.con at h
  simp only at h
  split at h
  · rename_i a0
    exact ⟨_, (.cons (.val (.cons .s .nil)) .nil), (spec_l6Dec.evs ⟨(), spec_l6Dec.c k⟩ k a0 K).trans h⟩
  · cases h
theorem spec_l6Dec.ds : dstB Tryd.f68.ntmps (bodyOf Tryd.f68) = true := by kernel_rfl
theorem spec_l6Dec.cb : callB E.P 68 = true := by kernel_rfl
theorem spec_l6Dec.ok {R : Type} (B : Base) : ∀ k, ConOk E.P B 68 (spec_l6Dec.con (spec_l6Dec.c (R := R) k))
  | 0 => by
    intro args K o h
    exfalso
    unfold spec_l6Dec.con at h
    simp only at h
    split at h
    · cases h
    · cases h
  | k + 1 => by
    have ih := spec_l6Dec.ok (R := R) B k
    exact con_ok E_orders E_eqs (GOk.cons spec_l6Dec.cb ih GOk.nil) Tryd.func68 (by kernel_rfl) spec_l6Dec.ds rfl (spec_l6Dec.run k)
theorem spec_l3Dec.inn {R : Type} (f : spec_l3Dec.T R) (a0 : ByteArray) (K : Ret → Option R) : (spec_l3Dec.con f).run [.val false [.s (.string a0)]] K = f a0 (fun r1 => K ⟨[.val false [.s (.int .i64 r1)]], []⟩) := by kernel_rfl
theorem spec_l3Dec.run {R : Type} (k : Nat) (args : List RV) (K : Ret → Option R) (o : R) (h : (spec_l3Dec.con (spec_l3Dec.c k)).run args K = some o) : ∃ args', All2 TyRV args args' ∧ evFunc E (spec_l3Dec.G ⟨(), spec_l6Dec.c k⟩) k spec_l3Dec.H [] false Tryd.f91 args' K = some o := by
  unfold spec_l3Dec.con at h
  simp only at h
  split at h
  · rename_i a0
    exact ⟨_, (.cons (.val (.cons .s .nil)) .nil), (spec_l3Dec.evs ⟨(), spec_l6Dec.c k⟩ k a0 K).trans h⟩
  · cases h
theorem spec_l3Dec.ds : dstB Tryd.f91.ntmps (bodyOf Tryd.f91) = true := by kernel_rfl
theorem spec_l3Dec.cb : callB E.P 91 = true := by kernel_rfl
theorem spec_l3Dec.ok {R : Type} (B : Base) (k : Nat) : ConOk E.P B 91 (spec_l3Dec.con (spec_l3Dec.c (R := R) k)) := con_ok E_orders E_eqs (GOk.cons spec_l6Dec.cb (spec_l6Dec.ok B k) GOk.nil) Tryd.func91 (by kernel_rfl) spec_l3Dec.ds rfl (spec_l3Dec.run k)
theorem spec_l11One.inn {R : Type} (f : spec_l11One.T R) (a0 : ByteArray) (K : Ret → Option R) : (spec_l11One.con f).run [.val false [.s (.string a0)]] K = f a0 (fun r1 r2 => K ⟨[.val false [.s (.string r1)], .val false [.s (.int .i64 r2)]], []⟩) := by kernel_rfl
theorem spec_l11One.run {R : Type} (k : Nat) (args : List RV) (K : Ret → Option R) (o : R) (h : (spec_l11One.con (spec_l11One.c k)).run args K = some o) : ∃ args', All2 TyRV args args' ∧ evFunc E (spec_l11One.G ⟨(), spec_l3Dec.c k⟩) k spec_l11One.H [] false Tryd.f87 args' K = some o := by
  unfold spec_l11One.con at h
  simp only at h
  split at h
  · rename_i a0
    exact ⟨_, (.cons (.val (.cons .s .nil)) .nil), (spec_l11One.evs ⟨(), spec_l3Dec.c k⟩ k a0 K).trans h⟩
  · cases h
theorem spec_l11One.ds : dstB Tryd.f87.ntmps (bodyOf Tryd.f87) = true := by kernel_rfl
theorem spec_l11One.cb : callB E.P 87 = true := by kernel_rfl
theorem spec_l11One.ok {R : Type} (B : Base) (k : Nat) : ConOk E.P B 87 (spec_l11One.con (spec_l11One.c (R := R) k)) := con_ok E_orders E_eqs (GOk.cons spec_l3Dec.cb (spec_l3Dec.ok B k) GOk.nil) Tryd.func87 (by kernel_rfl) spec_l11One.ds rfl (spec_l11One.run k)
theorem spec_ShelfRead.inn {R : Type} (f : spec_ShelfRead.T R) (a0 : ByteArray) (K : Ret → Option R) : (spec_ShelfRead.con f).run [.val false [.s (.string a0)]] K = f a0 (fun r1 r2 => K ⟨[.val false [.row .own [.str] r1], .val false [.s (.int .i64 r2)]], []⟩) := by kernel_rfl
theorem spec_ShelfRead.run {R : Type} (k : Nat) (args : List RV) (K : Ret → Option R) (o : R) (h : (spec_ShelfRead.con (spec_ShelfRead.c k)).run args K = some o) : ∃ args', All2 TyRV args args' ∧ evFunc E (spec_ShelfRead.G ⟨(), spec_l11One.c k⟩) k spec_ShelfRead.H [] false Tryd.f57 args' K = some o := by
  unfold spec_ShelfRead.con at h
  simp only at h
  split at h
  · rename_i a0
    exact ⟨_, (.cons (.val (.cons .s .nil)) .nil), (spec_ShelfRead.evs ⟨(), spec_l11One.c k⟩ k a0 K).trans h⟩
  · cases h
theorem spec_ShelfRead.ds : dstB Tryd.f57.ntmps (bodyOf Tryd.f57) = true := by kernel_rfl
theorem spec_ShelfRead.cb : callB E.P 57 = true := by kernel_rfl
theorem spec_ShelfRead.ok {R : Type} (B : Base) (k : Nat) : ConOk E.P B 57 (spec_ShelfRead.con (spec_ShelfRead.c (R := R) k)) := con_ok E_orders E_eqs (GOk.cons spec_l11One.cb (spec_l11One.ok B k) GOk.nil) Tryd.func57 (by kernel_rfl) spec_ShelfRead.ds rfl (spec_ShelfRead.run k)
theorem spec_ShelfOk.inn {R : Type} (f : spec_ShelfOk.T R) (a0_0 : ByteArray) (a0_1 : Int) (K : Ret → Option R) : (spec_ShelfOk.con f).run [.val true [.s (.string a0_0), .s (.int .i64 a0_1)]] K = f a0_0 a0_1 (fun r1 => K ⟨[.val false [.s (.bool r1)]], []⟩) := by kernel_rfl
theorem spec_ShelfOk.run {R : Type} (k : Nat) (args : List RV) (K : Ret → Option R) (o : R) (h : (spec_ShelfOk.con (spec_ShelfOk.c k)).run args K = some o) : ∃ args', All2 TyRV args args' ∧ evFunc E (spec_ShelfOk.G ⟨(), spec_l6In.c k, spec_ShelfRead.c k⟩) k spec_ShelfOk.H [] false Tryd.f25 args' K = some o := by
  unfold spec_ShelfOk.con at h
  simp only at h
  split at h
  · rename_i a0_0 a0_1
    exact ⟨_, (.cons (.val (.cons .s (.cons .s .nil))) .nil), (spec_ShelfOk.evs ⟨(), spec_l6In.c k, spec_ShelfRead.c k⟩ k a0_0 a0_1 K).trans h⟩
  · cases h
theorem spec_ShelfOk.ds : dstB Tryd.f25.ntmps (bodyOf Tryd.f25) = true := by kernel_rfl
theorem spec_ShelfOk.cb : callB E.P 25 = true := by kernel_rfl
theorem spec_ShelfOk.ok {R : Type} (B : Base) (k : Nat) : ConOk E.P B 25 (spec_ShelfOk.con (spec_ShelfOk.c (R := R) k)) := con_ok E_orders E_eqs (GOk.cons spec_l6In.cb (spec_l6In.ok B k) (GOk.cons spec_ShelfRead.cb (spec_ShelfRead.ok B k) GOk.nil)) Tryd.func25 (by kernel_rfl) spec_ShelfOk.ds rfl (spec_ShelfOk.run k)
theorem spec_l11RecOk.inn {R : Type} (f : spec_l11RecOk.T R) (a0 : ByteArray) (K : Ret → Option R) : (spec_l11RecOk.con f).run [.val false [.s (.string a0)]] K = f a0 (fun r1 => K ⟨[.val false [.s (.bool r1)]], []⟩) := by kernel_rfl
theorem spec_l11RecOk.run {R : Type} (k : Nat) (args : List RV) (K : Ret → Option R) (o : R) (h : (spec_l11RecOk.con (spec_l11RecOk.c k)).run args K = some o) : ∃ args', All2 TyRV args args' ∧ evFunc E (spec_l11RecOk.G ⟨(), spec_l6In.c k⟩) k spec_l11RecOk.H [] false Tryd.f50 args' K = some o := by
  unfold spec_l11RecOk.con at h
  simp only at h
  split at h
  · rename_i a0
    exact ⟨_, (.cons (.val (.cons .s .nil)) .nil), (spec_l11RecOk.evs ⟨(), spec_l6In.c k⟩ k a0 K).trans h⟩
  · cases h
theorem spec_l11RecOk.ds : dstB Tryd.f50.ntmps (bodyOf Tryd.f50) = true := by kernel_rfl
theorem spec_l11RecOk.cb : callB E.P 50 = true := by kernel_rfl
theorem spec_l11RecOk.ok {R : Type} (B : Base) (k : Nat) : ConOk E.P B 50 (spec_l11RecOk.con (spec_l11RecOk.c (R := R) k)) := con_ok E_orders E_eqs (GOk.cons spec_l6In.cb (spec_l6In.ok B k) GOk.nil) Tryd.func50 (by kernel_rfl) spec_l11RecOk.ds rfl (spec_l11RecOk.run k)
theorem spec_l11Rec.inn {R : Type} (f : spec_l11Rec.T R) (a0 : ByteArray) (K : Ret → Option R) : (spec_l11Rec.con f).run [.val false [.s (.string a0)]] K = f a0 (fun r1 => K ⟨[.val false [.s (.string r1)]], []⟩) := by kernel_rfl
theorem spec_l11Rec.run {R : Type} (k : Nat) (args : List RV) (K : Ret → Option R) (o : R) (h : (spec_l11Rec.con (spec_l11Rec.c k)).run args K = some o) : ∃ args', All2 TyRV args args' ∧ evFunc E (spec_l11Rec.G ⟨(), spec_l6Dec.c k⟩) k spec_l11Rec.H [] false Tryd.f51 args' K = some o := by
  unfold spec_l11Rec.con at h
  simp only at h
  split at h
  · rename_i a0
    exact ⟨_, (.cons (.val (.cons .s .nil)) .nil), (spec_l11Rec.evs ⟨(), spec_l6Dec.c k⟩ k a0 K).trans h⟩
  · cases h
theorem spec_l11Rec.ds : dstB Tryd.f51.ntmps (bodyOf Tryd.f51) = true := by kernel_rfl
theorem spec_l11Rec.cb : callB E.P 51 = true := by kernel_rfl
theorem spec_l11Rec.ok {R : Type} (B : Base) (k : Nat) : ConOk E.P B 51 (spec_l11Rec.con (spec_l11Rec.c (R := R) k)) := con_ok E_orders E_eqs (GOk.cons spec_l6Dec.cb (spec_l6Dec.ok B k) GOk.nil) Tryd.func51 (by kernel_rfl) spec_l11Rec.ds rfl (spec_l11Rec.run k)
theorem spec_ShelfPack.inn {R : Type} (f : spec_ShelfPack.T R) (a0_0 : ByteArray) (a0_1 : Int) (a1 : List ByteArray) (K : Ret → Option R) : (spec_ShelfPack.con f).run [.val true [.s (.string a0_0), .s (.int .i64 a0_1)], .val false [.row .ro [.str] a1]] K = f a0_0 a0_1 a1 (fun r1 r2 r3 => K ⟨[.val true [.s (.string r1), .s (.int .i64 r2)], .val false [.s (.bool r3)]], []⟩) := by kernel_rfl
theorem spec_ShelfPack.run {R : Type} (k : Nat) (args : List RV) (K : Ret → Option R) (o : R) (h : (spec_ShelfPack.con (spec_ShelfPack.c k)).run args K = some o) : ∃ args', All2 TyRV args args' ∧ evFunc E (spec_ShelfPack.G ⟨(), spec_ShelfOk.c k, spec_l11RecOk.c k, spec_l11Rec.c k⟩) k spec_ShelfPack.H [] false Tryd.f20 args' K = some o := by
  unfold spec_ShelfPack.con at h
  simp only at h
  split at h
  · rename_i a0_0 a0_1 pa1
    obtain ⟨a1, ta1, h⟩ := withRow_some (by simp) h
    exact ⟨_, (.cons (.val (.cons .s (.cons .s .nil))) (.cons (.val (.cons ta1 .nil)) .nil)), (spec_ShelfPack.evs ⟨(), spec_ShelfOk.c k, spec_l11RecOk.c k, spec_l11Rec.c k⟩ k a0_0 a0_1 a1 K).trans h⟩
  · cases h
theorem spec_ShelfPack.ds : dstB Tryd.f20.ntmps (bodyOf Tryd.f20) = true := by kernel_rfl
theorem spec_ShelfPack.cb : callB E.P 20 = true := by kernel_rfl
theorem spec_ShelfPack.ok {R : Type} (B : Base) (k : Nat) : ConOk E.P B 20 (spec_ShelfPack.con (spec_ShelfPack.c (R := R) k)) := con_ok E_orders E_eqs (GOk.cons spec_ShelfOk.cb (spec_ShelfOk.ok B k) (GOk.cons spec_l11RecOk.cb (spec_l11RecOk.ok B k) (GOk.cons spec_l11Rec.cb (spec_l11Rec.ok B k) GOk.nil))) Tryd.func20 (by kernel_rfl) spec_ShelfPack.ds rfl (spec_ShelfPack.run k)
theorem laws_toStringS.inn {R : Type} (f : laws_toStringS.T R) (a0 : List ByteArray) (K : Ret → Option R) : (laws_toStringS.con f).run [.val false [.row .ro [.str] a0]] K = f a0 (fun r1 => K ⟨[.val false [.row .own [.str] r1]], []⟩) := by kernel_rfl
theorem laws_toStringS.run {R : Type} (k : Nat) (args : List RV) (K : Ret → Option R) (o : R) (h : (laws_toStringS.con (laws_toStringS.c k)).run args K = some o) : ∃ args', All2 TyRV args args' ∧ evFunc E (laws_toStringS.G ⟨()⟩) k laws_toStringS.H [] false Tryd.f21 args' K = some o := by
  unfold laws_toStringS.con at h
  simp only at h
  split at h
  · rename_i pa0
    obtain ⟨a0, ta0, h⟩ := withRow_some (by simp) h
    exact ⟨_, (.cons (.val (.cons ta0 .nil)) .nil), (laws_toStringS.evs ⟨()⟩ k a0 K).trans h⟩
  · cases h
theorem laws_toStringS.ds : dstB Tryd.f21.ntmps (bodyOf Tryd.f21) = true := by kernel_rfl
theorem laws_toStringS.cb : callB E.P 21 = true := by kernel_rfl
theorem laws_toStringS.ok {R : Type} (B : Base) (k : Nat) : ConOk E.P B 21 (laws_toStringS.con (laws_toStringS.c (R := R) k)) := con_ok E_orders E_eqs GOk.nil Tryd.func21 (by kernel_rfl) laws_toStringS.ds rfl (laws_toStringS.run k)
theorem impl_in.inn {R : Type} (f : impl_in.T R) (a0 : Int) (a1 : Int) (a2 : Int) (K : Ret → Option R) : (impl_in.con f).run [.val false [.s (.int .i64 a0)], .val false [.s (.int .i64 a1)], .val false [.s (.int .i64 a2)]] K = f a0 a1 a2 (fun r1 => K ⟨[.val false [.s (.bool r1)]], []⟩) := by kernel_rfl
theorem impl_in.run {R : Type} (k : Nat) (args : List RV) (K : Ret → Option R) (o : R) (h : (impl_in.con (impl_in.c k)).run args K = some o) : ∃ args', All2 TyRV args args' ∧ evFunc E (impl_in.G ⟨()⟩) k impl_in.H [] false Tryd.f60 args' K = some o := by
  unfold impl_in.con at h
  simp only at h
  split at h
  · rename_i a0 a1 a2
    exact ⟨_, (.cons (.val (.cons .s .nil)) (.cons (.val (.cons .s .nil)) (.cons (.val (.cons .s .nil)) .nil))), (impl_in.evs ⟨()⟩ k a0 a1 a2 K).trans h⟩
  · cases h
theorem impl_in.ds : dstB Tryd.f60.ntmps (bodyOf Tryd.f60) = true := by kernel_rfl
theorem impl_in.cb : callB E.P 60 = true := by kernel_rfl
theorem impl_in.ok {R : Type} (B : Base) (k : Nat) : ConOk E.P B 60 (impl_in.con (impl_in.c (R := R) k)) := con_ok E_orders E_eqs GOk.nil Tryd.func60 (by kernel_rfl) impl_in.ds rfl (impl_in.run k)
theorem impl_natural.inn {R : Type} (f : impl_natural.T R) (a0 : ByteArray) (K : Ret → Option R) : (impl_natural.con f).run [.val false [.s (.string a0)]] K = f a0 (fun r1 r2 => K ⟨[.val false [.s (.int .i64 r1)], .val false [.s (.bool r2)]], []⟩) := by kernel_rfl
theorem impl_natural.run {R : Type} (k : Nat) (args : List RV) (K : Ret → Option R) (o : R) (h : (impl_natural.con (impl_natural.c k)).run args K = some o) : ∃ args', All2 TyRV args args' ∧ evFunc E (impl_natural.G ⟨(), impl_in.c k⟩) k impl_natural.H [] false Tryd.f59 args' K = some o := by
  unfold impl_natural.con at h
  simp only at h
  split at h
  · rename_i a0
    exact ⟨_, (.cons (.val (.cons .s .nil)) .nil), (impl_natural.evs ⟨(), impl_in.c k⟩ k a0 K).trans h⟩
  · cases h
theorem impl_natural.ds : dstB Tryd.f59.ntmps (bodyOf Tryd.f59) = true := by kernel_rfl
theorem impl_natural.cb : callB E.P 59 = true := by kernel_rfl
theorem impl_natural.ok {R : Type} (B : Base) (k : Nat) : ConOk E.P B 59 (impl_natural.con (impl_natural.c (R := R) k)) := con_ok E_orders E_eqs (GOk.cons impl_in.cb (impl_in.ok B k) GOk.nil) Tryd.func59 (by kernel_rfl) impl_natural.ds rfl (impl_natural.run k)
theorem impl_copied_string.inn {R : Type} (f : impl_copied_string.T R) (a0 : List ByteArray) (K : Ret → Option R) : (impl_copied_string.con f).run [.val false [.row .ro [.str] a0]] K = f a0 (fun r1 => K ⟨[.val false [.row .own [.str] r1]], []⟩) := by kernel_rfl
theorem impl_copied_string.run {R : Type} (k : Nat) (args : List RV) (K : Ret → Option R) (o : R) (h : (impl_copied_string.con (impl_copied_string.c k)).run args K = some o) : ∃ args', All2 TyRV args args' ∧ evFunc E (impl_copied_string.G ⟨()⟩) k impl_copied_string.H [] false Tryd.f61 args' K = some o := by
  unfold impl_copied_string.con at h
  simp only at h
  split at h
  · rename_i pa0
    obtain ⟨a0, ta0, h⟩ := withRow_some (by simp) h
    exact ⟨_, (.cons (.val (.cons ta0 .nil)) .nil), (impl_copied_string.evs ⟨()⟩ k a0 K).trans h⟩
  · cases h
theorem impl_copied_string.ds : dstB Tryd.f61.ntmps (bodyOf Tryd.f61) = true := by kernel_rfl
theorem impl_copied_string.cb : callB E.P 61 = true := by kernel_rfl
theorem impl_copied_string.ok {R : Type} (B : Base) (k : Nat) : ConOk E.P B 61 (impl_copied_string.con (impl_copied_string.c (R := R) k)) := con_ok E_orders E_eqs GOk.nil Tryd.func61 (by kernel_rfl) impl_copied_string.ds rfl (impl_copied_string.run k)
theorem impl_ShelfRead.inn {R : Type} (f : impl_ShelfRead.T R) (a0 : ByteArray) (K : Ret → Option R) : (impl_ShelfRead.con f).run [.val false [.s (.string a0)]] K = f a0 (fun r1 r2 => K ⟨[.val false [.row .own [.str] r1], .val false [.s (.int .i64 r2)]], []⟩) := by kernel_rfl
theorem impl_ShelfRead.run {R : Type} (k : Nat) (args : List RV) (K : Ret → Option R) (o : R) (h : (impl_ShelfRead.con (impl_ShelfRead.c k)).run args K = some o) : ∃ args', All2 TyRV args args' ∧ evFunc E (impl_ShelfRead.G ⟨(), impl_natural.c k, impl_in.c k, impl_copied_string.c k⟩) k impl_ShelfRead.H [] false Tryd.f27 args' K = some o := by
  unfold impl_ShelfRead.con at h
  simp only at h
  split at h
  · rename_i a0
    exact ⟨_, (.cons (.val (.cons .s .nil)) .nil), (impl_ShelfRead.evs ⟨(), impl_natural.c k, impl_in.c k, impl_copied_string.c k⟩ k a0 K).trans h⟩
  · cases h
theorem impl_ShelfRead.ds : dstB Tryd.f27.ntmps (bodyOf Tryd.f27) = true := by kernel_rfl
theorem impl_ShelfRead.cb : callB E.P 27 = true := by kernel_rfl
theorem impl_ShelfRead.ok {R : Type} (B : Base) (k : Nat) : ConOk E.P B 27 (impl_ShelfRead.con (impl_ShelfRead.c (R := R) k)) := con_ok E_orders E_eqs (GOk.cons impl_natural.cb (impl_natural.ok B k) (GOk.cons impl_in.cb (impl_in.ok B k) (GOk.cons impl_copied_string.cb (impl_copied_string.ok B k) GOk.nil))) Tryd.func27 (by kernel_rfl) impl_ShelfRead.ds rfl (impl_ShelfRead.run k)
theorem impl_ShelfOk.inn {R : Type} (f : impl_ShelfOk.T R) (a0_0 : ByteArray) (a0_1 : Int) (K : Ret → Option R) : (impl_ShelfOk.con f).run [.val true [.s (.string a0_0), .s (.int .i64 a0_1)]] K = f a0_0 a0_1 (fun r1 => K ⟨[.val false [.s (.bool r1)]], []⟩) := by kernel_rfl
theorem impl_ShelfOk.run {R : Type} (k : Nat) (args : List RV) (K : Ret → Option R) (o : R) (h : (impl_ShelfOk.con (impl_ShelfOk.c k)).run args K = some o) : ∃ args', All2 TyRV args args' ∧ evFunc E (impl_ShelfOk.G ⟨(), impl_in.c k, impl_ShelfRead.c k⟩) k impl_ShelfOk.H [] false Tryd.f28 args' K = some o := by
  unfold impl_ShelfOk.con at h
  simp only at h
  split at h
  · rename_i a0_0 a0_1
    exact ⟨_, (.cons (.val (.cons .s (.cons .s .nil))) .nil), (impl_ShelfOk.evs ⟨(), impl_in.c k, impl_ShelfRead.c k⟩ k a0_0 a0_1 K).trans h⟩
  · cases h
theorem impl_ShelfOk.ds : dstB Tryd.f28.ntmps (bodyOf Tryd.f28) = true := by kernel_rfl
theorem impl_ShelfOk.cb : callB E.P 28 = true := by kernel_rfl
theorem impl_ShelfOk.ok {R : Type} (B : Base) (k : Nat) : ConOk E.P B 28 (impl_ShelfOk.con (impl_ShelfOk.c (R := R) k)) := con_ok E_orders E_eqs (GOk.cons impl_in.cb (impl_in.ok B k) (GOk.cons impl_ShelfRead.cb (impl_ShelfRead.ok B k) GOk.nil)) Tryd.func28 (by kernel_rfl) impl_ShelfOk.ds rfl (impl_ShelfOk.run k)
theorem impl_recOk.inn {R : Type} (f : impl_recOk.T R) (a0 : ByteArray) (K : Ret → Option R) : (impl_recOk.con f).run [.val false [.s (.string a0)]] K = f a0 (fun r1 => K ⟨[.val false [.s (.bool r1)]], []⟩) := by kernel_rfl
theorem impl_recOk.run {R : Type} (k : Nat) (args : List RV) (K : Ret → Option R) (o : R) (h : (impl_recOk.con (impl_recOk.c k)).run args K = some o) : ∃ args', All2 TyRV args args' ∧ evFunc E (impl_recOk.G ⟨(), impl_in.c k⟩) k impl_recOk.H [] false Tryd.f52 args' K = some o := by
  unfold impl_recOk.con at h
  simp only at h
  split at h
  · rename_i a0
    exact ⟨_, (.cons (.val (.cons .s .nil)) .nil), (impl_recOk.evs ⟨(), impl_in.c k⟩ k a0 K).trans h⟩
  · cases h
theorem impl_recOk.ds : dstB Tryd.f52.ntmps (bodyOf Tryd.f52) = true := by kernel_rfl
theorem impl_recOk.cb : callB E.P 52 = true := by kernel_rfl
theorem impl_recOk.ok {R : Type} (B : Base) (k : Nat) : ConOk E.P B 52 (impl_recOk.con (impl_recOk.c (R := R) k)) := con_ok E_orders E_eqs (GOk.cons impl_in.cb (impl_in.ok B k) GOk.nil) Tryd.func52 (by kernel_rfl) impl_recOk.ds rfl (impl_recOk.run k)
theorem strconv_Itoa.inn {R : Type} (f : strconv_Itoa.T R) (a0 : Int) (K : Ret → Option R) : (strconv_Itoa.con f).run [.val false [.s (.int .i64 a0)]] K = f a0 (fun r1 => K ⟨[.val false [.s (.string r1)]], []⟩) := by kernel_rfl
theorem strconv_Itoa.cb : callB E.P 70 = true := by kernel_rfl
theorem strconv_Itoa.ok {R : Type} (B : Base) (hI : ExtI E.P B) (k : Nat) : ConOk E.P B 70 (strconv_Itoa.con (strconv_Itoa.c (R := R) k)) := by
  refine itoa_conok (fun n h0 h1 w hw => Tryd.strconv_Itoa n h0 h1 w (hI w hw)) _ rfl fun args K o h => ?_
  unfold strconv_Itoa.con at h
  simp only at h
  split at h
  · rename_i a0
    unfold strconv_Itoa.c at h
    cases hc : (decide (-9223372036854775808 ≤ a0) && decide (a0 ≤ 9223372036854775807)) with
    | false => rw [hc] at h; cases h
    | true =>
      rw [hc] at h
      simp only [Bool.and_eq_true, decide_eq_true_eq] at hc
      exact ⟨a0, rfl, hc, h⟩
  · cases h
theorem impl_stored.inn {R : Type} (f : impl_stored.T R) (a0 : ByteArray) (K : Ret → Option R) : (impl_stored.con f).run [.val false [.s (.string a0)]] K = f a0 (fun r1 => K ⟨[.val false [.s (.string r1)]], []⟩) := by kernel_rfl
theorem impl_stored.run {R : Type} (k : Nat) (args : List RV) (K : Ret → Option R) (o : R) (h : (impl_stored.con (impl_stored.c k)).run args K = some o) : ∃ args', All2 TyRV args args' ∧ evFunc E (impl_stored.G ⟨(), strconv_Itoa.c k⟩) k impl_stored.H [] false Tryd.f53 args' K = some o := by
  unfold impl_stored.con at h
  simp only at h
  split at h
  · rename_i a0
    exact ⟨_, (.cons (.val (.cons .s .nil)) .nil), (impl_stored.evs ⟨(), strconv_Itoa.c k⟩ k a0 K).trans h⟩
  · cases h
theorem impl_stored.ds : dstB Tryd.f53.ntmps (bodyOf Tryd.f53) = true := by kernel_rfl
theorem impl_stored.cb : callB E.P 53 = true := by kernel_rfl
theorem impl_stored.ok {R : Type} (B : Base) (hI : ExtI E.P B) (k : Nat) : ConOk E.P B 53 (impl_stored.con (impl_stored.c (R := R) k)) := con_ok E_orders E_eqs (GOk.cons strconv_Itoa.cb (strconv_Itoa.ok B hI k) GOk.nil) Tryd.func53 (by kernel_rfl) impl_stored.ds rfl (impl_stored.run k)
theorem impl_ShelfPack.inn {R : Type} (f : impl_ShelfPack.T R) (a0_0 : ByteArray) (a0_1 : Int) (a1 : List ByteArray) (K : Ret → Option R) : (impl_ShelfPack.con f).run [.val true [.s (.string a0_0), .s (.int .i64 a0_1)], .val false [.row .ro [.str] a1]] K = f a0_0 a0_1 a1 (fun r1 r2 r3 => K ⟨[.val true [.s (.string r1), .s (.int .i64 r2)], .val false [.s (.bool r3)]], []⟩) := by kernel_rfl
theorem impl_ShelfPack.run {R : Type} (k : Nat) (args : List RV) (K : Ret → Option R) (o : R) (h : (impl_ShelfPack.con (impl_ShelfPack.c k)).run args K = some o) : ∃ args', All2 TyRV args args' ∧ evFunc E (impl_ShelfPack.G ⟨(), impl_ShelfOk.c k, impl_recOk.c k, impl_stored.c k⟩) k impl_ShelfPack.H [] false Tryd.f22 args' K = some o := by
  unfold impl_ShelfPack.con at h
  simp only at h
  split at h
  · rename_i a0_0 a0_1 pa1
    obtain ⟨a1, ta1, h⟩ := withRow_some (by simp) h
    exact ⟨_, (.cons (.val (.cons .s (.cons .s .nil))) (.cons (.val (.cons ta1 .nil)) .nil)), (impl_ShelfPack.evs ⟨(), impl_ShelfOk.c k, impl_recOk.c k, impl_stored.c k⟩ k a0_0 a0_1 a1 K).trans h⟩
  · cases h
theorem impl_ShelfPack.ds : dstB Tryd.f22.ntmps (bodyOf Tryd.f22) = true := by kernel_rfl
theorem impl_ShelfPack.cb : callB E.P 22 = true := by kernel_rfl
theorem impl_ShelfPack.ok {R : Type} (B : Base) (hI : ExtI E.P B) (k : Nat) : ConOk E.P B 22 (impl_ShelfPack.con (impl_ShelfPack.c (R := R) k)) := con_ok E_orders E_eqs (GOk.cons impl_ShelfOk.cb (impl_ShelfOk.ok B k) (GOk.cons impl_recOk.cb (impl_recOk.ok B k) (GOk.cons impl_stored.cb (impl_stored.ok B hI k) GOk.nil))) Tryd.func22 (by kernel_rfl) impl_ShelfPack.ds rfl (impl_ShelfPack.run k)
theorem laws_eqStringS.inn {R : Type} (f : laws_eqStringS.T R) (a0 : List ByteArray) (a1 : List ByteArray) (K : Ret → Option R) : (laws_eqStringS.con f).run [.val false [.row .ro [.str] a0], .val false [.row .ro [.str] a1]] K = f a0 a1 (fun r1 => K ⟨[.val false [.s (.bool r1)]], []⟩) := by kernel_rfl
theorem laws_eqStringS.run {R : Type} (k : Nat) (args : List RV) (K : Ret → Option R) (o : R) (h : (laws_eqStringS.con (laws_eqStringS.c k)).run args K = some o) : ∃ args', All2 TyRV args args' ∧ evFunc E (laws_eqStringS.G ⟨()⟩) k laws_eqStringS.H [] false Tryd.f23 args' K = some o := by
  unfold laws_eqStringS.con at h
  simp only at h
  split at h
  · rename_i pa0 pa1
    obtain ⟨a0, ta0, h⟩ := withRow_some (by simp) h
    obtain ⟨a1, ta1, h⟩ := withRow_some (by simp) h
    exact ⟨_, (.cons (.val (.cons ta0 .nil)) (.cons (.val (.cons ta1 .nil)) .nil)), (laws_eqStringS.evs ⟨()⟩ k a0 a1 K).trans h⟩
  · cases h
theorem laws_eqStringS.ds : dstB Tryd.f23.ntmps (bodyOf Tryd.f23) = true := by kernel_rfl
theorem laws_eqStringS.cb : callB E.P 23 = true := by kernel_rfl
theorem laws_eqStringS.ok {R : Type} (B : Base) (k : Nat) : ConOk E.P B 23 (laws_eqStringS.con (laws_eqStringS.c (R := R) k)) := con_ok E_orders E_eqs GOk.nil Tryd.func23 (by kernel_rfl) laws_eqStringS.ds rfl (laws_eqStringS.run k)
theorem laws_FnExactShelfPack.inn {R : Type} (f : laws_FnExactShelfPack.T R) (a0_0 : ByteArray) (a0_1 : Int) (a1 : List ByteArray) (K : Ret → Option R) : (laws_FnExactShelfPack.con f).run [.val true [.s (.string a0_0), .s (.int .i64 a0_1)], .val false [.row .ro [.str] a1]] K = f a0_0 a0_1 a1 (fun r1 => K ⟨[.val false [.s (.bool r1)]], []⟩) := by kernel_rfl
theorem laws_FnExactShelfPack.run {R : Type} (k : Nat) (args : List RV) (K : Ret → Option R) (o : R) (h : (laws_FnExactShelfPack.con (laws_FnExactShelfPack.c k)).run args K = some o) : ∃ args', All2 TyRV args args' ∧ evFunc E (laws_FnExactShelfPack.G ⟨(), laws_szShelf.c k, laws_szStringS.c k, laws_toShelf.c k, laws_toStringS.c k, spec_ShelfPack.c k, impl_ShelfPack.c k, laws_eqShelf.c k, laws_eqStringS.c k⟩) k laws_FnExactShelfPack.H [] false Tryd.f4 args' K = some o := by
  unfold laws_FnExactShelfPack.con at h
  simp only at h
  split at h
  · rename_i a0_0 a0_1 pa1
    obtain ⟨a1, ta1, h⟩ := withRow_some (by simp) h
    exact ⟨_, (.cons (.val (.cons .s (.cons .s .nil))) (.cons (.val (.cons ta1 .nil)) .nil)), (laws_FnExactShelfPack.evs ⟨(), laws_szShelf.c k, laws_szStringS.c k, laws_toShelf.c k, laws_toStringS.c k, spec_ShelfPack.c k, impl_ShelfPack.c k, laws_eqShelf.c k, laws_eqStringS.c k⟩ k a0_0 a0_1 a1 K).trans h⟩
  · cases h
theorem laws_FnExactShelfPack.ds : dstB Tryd.f4.ntmps (bodyOf Tryd.f4) = true := by kernel_rfl
theorem laws_FnExactShelfPack.cb : callB E.P 4 = true := by kernel_rfl
theorem laws_FnExactShelfPack.ok {R : Type} (B : Base) (hI : ExtI E.P B) (k : Nat) : ConOk E.P B 4 (laws_FnExactShelfPack.con (laws_FnExactShelfPack.c (R := R) k)) := con_ok E_orders E_eqs (GOk.cons laws_szShelf.cb (laws_szShelf.ok B k) (GOk.cons laws_szStringS.cb (laws_szStringS.ok B k) (GOk.cons laws_toShelf.cb (laws_toShelf.ok B k) (GOk.cons laws_toStringS.cb (laws_toStringS.ok B k) (GOk.cons spec_ShelfPack.cb (spec_ShelfPack.ok B k) (GOk.cons impl_ShelfPack.cb (impl_ShelfPack.ok B hI k) (GOk.cons laws_eqShelf.cb (laws_eqShelf.ok B k) (GOk.cons laws_eqStringS.cb (laws_eqStringS.ok B k) GOk.nil)))))))) Tryd.func4 (by kernel_rfl) laws_FnExactShelfPack.ds rfl (laws_FnExactShelfPack.run k)
end Go.Ev.F
