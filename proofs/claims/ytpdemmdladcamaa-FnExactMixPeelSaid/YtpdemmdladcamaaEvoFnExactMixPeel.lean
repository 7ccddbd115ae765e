/- What the Go functions compute is what the machine does. No condition. Written by a program of this session. -/
import Derived.Test.YtpdemmdladcamaaEvtFnExactMixPeel
import Derived.Test.YtpdemmdladcamaaSoE
namespace Go.Ev.F
open Go.Proofs
set_option linter.unusedVariables false
set_option maxRecDepth 100000
theorem E_orders : E.P.follows .mixedOrders = true := by kernel_rfl
theorem E_eqs : ∀ t ∈ E.eqs, eqFree E.P t = true := List.all_eq_true.mp (by kernel_rfl)
theorem laws_eqStringS.inn {R : Type} (f : laws_eqStringS.T R) (a0 : List ByteArray) (a1 : List ByteArray) (K : Ret → Option R) : (laws_eqStringS.con f).run [.val false [.row .ro [.str] a0], .val false [.row .ro [.str] a1]] K = f a0 a1 (fun r1 => K ⟨[.val false [.s (.bool r1)]], []⟩) := by kernel_rfl
theorem laws_eqStringS.run {R : Type} (k : Nat) (args : List RV) (K : Ret → Option R) (o : R) (h : (laws_eqStringS.con (laws_eqStringS.c k)).run args K = some o) : ∃ args', All2 TyRV args args' ∧ evFunc E (laws_eqStringS.G ⟨()⟩) k laws_eqStringS.H [] false Try.f22 args' K = some o := by
  unfold laws_eqStringS.con at h
  simp only at h
  split at h
  · rename_i pa0 pa1
    obtain ⟨a0, ta0, h⟩ := withRow_some (by simp) h
    obtain ⟨a1, ta1, h⟩ := withRow_some (by simp) h
    exact ⟨_, (.cons (.val (.cons ta0 .nil)) (.cons (.val (.cons ta1 .nil)) .nil)), (laws_eqStringS.evs ⟨()⟩ k a0 a1 K).trans h⟩
  · cases h
theorem laws_eqStringS.ds : dstB Try.f22.ntmps (bodyOf Try.f22) = true := by kernel_rfl
theorem laws_eqStringS.cb : callB E.P 22 = true := by kernel_rfl
theorem laws_eqStringS.ok {R : Type} (B : Base) (k : Nat) : ConOk E.P B 22 (laws_eqStringS.con (laws_eqStringS.c (R := R) k)) := con_ok E_orders E_eqs GOk.nil Try.func22 (by kernel_rfl) laws_eqStringS.ds rfl (laws_eqStringS.run k)
theorem laws_markText.inn {R : Type} (f : laws_markText.T R) (a0 : Int) (K : Ret → Option R) : (laws_markText.con f).run [.val false [.s (.int .i64 a0)]] K = f a0 (fun r1 => K ⟨[.val false [.s (.string r1)]], []⟩) := by kernel_rfl
theorem laws_markText.run {R : Type} (k : Nat) (args : List RV) (K : Ret → Option R) (o : R) (h : (laws_markText.con (laws_markText.c k)).run args K = some o) : ∃ args', All2 TyRV args args' ∧ evFunc E (laws_markText.G ⟨()⟩) k laws_markText.H [] false Try.f54 args' K = some o := by
  unfold laws_markText.con at h
  simp only at h
  split at h
  · rename_i a0
    exact ⟨_, (.cons (.val (.cons .s .nil)) .nil), (laws_markText.evs ⟨()⟩ k a0 K).trans h⟩
  · cases h
theorem laws_markText.ds : dstB Try.f54.ntmps (bodyOf Try.f54) = true := by kernel_rfl
theorem laws_markText.cb : callB E.P 54 = true := by kernel_rfl
theorem laws_markText.ok {R : Type} (B : Base) (k : Nat) : ConOk E.P B 54 (laws_markText.con (laws_markText.c (R := R) k)) := con_ok E_orders E_eqs GOk.nil Try.func54 (by kernel_rfl) laws_markText.ds rfl (laws_markText.run k)
theorem laws_markStringS.inn {R : Type} (f : laws_markStringS.T R) (a0 : List ByteArray) (a1 : Int) (K : Ret → Option R) : (laws_markStringS.con f).run [.val false [.row .ro [.str] a0], .val false [.s (.int .i64 a1)]] K = f a0 a1 (fun r1 r2 => K ⟨[.val false [.s (.int .i64 r1)]], [[.row .fix [.str] r2]]⟩) := by kernel_rfl
theorem laws_markStringS.run {R : Type} (k : Nat) (args : List RV) (K : Ret → Option R) (o : R) (h : (laws_markStringS.con (laws_markStringS.c k)).run args K = some o) : ∃ args', All2 TyRV args args' ∧ evFunc E (laws_markStringS.G ⟨(), laws_markText.c k⟩) k laws_markStringS.H [0] false Try.f23 args' K = some o := by
  unfold laws_markStringS.con at h
  simp only at h
  split at h
  · rename_i pa0 a1
    obtain ⟨a0, ta0, h⟩ := withRow_some (by simp) h
    exact ⟨_, (.cons (.val (.cons ta0 .nil)) (.cons (.val (.cons .s .nil)) .nil)), (laws_markStringS.evs ⟨(), laws_markText.c k⟩ k a0 a1 K).trans h⟩
  · cases h
theorem laws_markStringS.ds : dstB Try.f23.ntmps (bodyOf Try.f23) = true := by kernel_rfl
theorem laws_markStringS.cb : callB E.P 23 = true := by kernel_rfl
theorem laws_markStringS.ok {R : Type} (B : Base) (k : Nat) : ConOk E.P B 23 (laws_markStringS.con (laws_markStringS.c (R := R) k)) := con_ok E_orders E_eqs (GOk.cons laws_markText.cb (laws_markText.ok B k) GOk.nil) Try.func23 (by kernel_rfl) laws_markStringS.ds rfl (laws_markStringS.run k)
theorem laws_heldStringS.inn {R : Type} (f : laws_heldStringS.T R) (a0 : List ByteArray) (a1 : Int) (K : Ret → Option R) : (laws_heldStringS.con f).run [.val false [.row .ro [.str] a0], .val false [.s (.int .i64 a1)]] K = f a0 a1 (fun r1 => K ⟨[.val false [.s (.int .i64 r1)]], []⟩) := by kernel_rfl
theorem laws_heldStringS.run {R : Type} (k : Nat) (args : List RV) (K : Ret → Option R) (o : R) (h : (laws_heldStringS.con (laws_heldStringS.c k)).run args K = some o) : ∃ args', All2 TyRV args args' ∧ evFunc E (laws_heldStringS.G ⟨(), laws_markText.c k⟩) k laws_heldStringS.H [] false Try.f24 args' K = some o := by
  unfold laws_heldStringS.con at h
  simp only at h
  split at h
  · rename_i pa0 a1
    obtain ⟨a0, ta0, h⟩ := withRow_some (by simp) h
    exact ⟨_, (.cons (.val (.cons ta0 .nil)) (.cons (.val (.cons .s .nil)) .nil)), (laws_heldStringS.evs ⟨(), laws_markText.c k⟩ k a0 a1 K).trans h⟩
  · cases h
theorem laws_heldStringS.ds : dstB Try.f24.ntmps (bodyOf Try.f24) = true := by kernel_rfl
theorem laws_heldStringS.cb : callB E.P 24 = true := by kernel_rfl
theorem laws_heldStringS.ok {R : Type} (B : Base) (k : Nat) : ConOk E.P B 24 (laws_heldStringS.con (laws_heldStringS.c (R := R) k)) := con_ok E_orders E_eqs (GOk.cons laws_markText.cb (laws_markText.ok B k) GOk.nil) Try.func24 (by kernel_rfl) laws_heldStringS.ds rfl (laws_heldStringS.run k)
theorem laws_szMixed.inn {R : Type} (f : laws_szMixed.T R) (a0_0 : Int) (a0_1 : ByteArray) (a1 : Int) (K : Ret → Option R) : (laws_szMixed.con f).run [.val true [.s (.int .i64 a0_0), .s (.string a0_1)], .val false [.s (.int .i64 a1)]] K = f a0_0 a0_1 a1 (fun r1 => K ⟨[.val false [.s (.int .i64 r1)]], []⟩) := by kernel_rfl
theorem laws_szMixed.run {R : Type} (k : Nat) (args : List RV) (K : Ret → Option R) (o : R) (h : (laws_szMixed.con (laws_szMixed.c k)).run args K = some o) : ∃ args', All2 TyRV args args' ∧ evFunc E (laws_szMixed.G ⟨()⟩) k laws_szMixed.H [] false Try.f68 args' K = some o := by
  unfold laws_szMixed.con at h
  simp only at h
  split at h
  · rename_i a0_0 a0_1 a1
    exact ⟨_, (.cons (.val (.cons .s (.cons .s .nil))) (.cons (.val (.cons .s .nil)) .nil)), (laws_szMixed.evs ⟨()⟩ k a0_0 a0_1 a1 K).trans h⟩
  · cases h
theorem laws_szMixed.ds : dstB Try.f68.ntmps (bodyOf Try.f68) = true := by kernel_rfl
theorem laws_szMixed.cb : callB E.P 68 = true := by kernel_rfl
theorem laws_szMixed.ok {R : Type} (B : Base) (k : Nat) : ConOk E.P B 68 (laws_szMixed.con (laws_szMixed.c (R := R) k)) := con_ok E_orders E_eqs GOk.nil Try.func68 (by kernel_rfl) laws_szMixed.ds rfl (laws_szMixed.run k)
theorem laws_szMixedS.inn {R : Type} (f : laws_szMixedS.T R) (a0 : List (Int × ByteArray)) (a1 : Int) (K : Ret → Option R) : (laws_szMixedS.con f).run [.val false [.row .ro [.int .i64, .str] a0], .val false [.s (.int .i64 a1)]] K = f a0 a1 (fun r1 => K ⟨[.val false [.s (.int .i64 r1)]], []⟩) := by kernel_rfl
theorem laws_szMixedS.run {R : Type} (k : Nat) (args : List RV) (K : Ret → Option R) (o : R) (h : (laws_szMixedS.con (laws_szMixedS.c k)).run args K = some o) : ∃ args', All2 TyRV args args' ∧ evFunc E (laws_szMixedS.G ⟨(), laws_szMixed.c k⟩) k laws_szMixedS.H [] false Try.f41 args' K = some o := by
  unfold laws_szMixedS.con at h
  simp only at h
  split at h
  · rename_i pa0 a1
    obtain ⟨a0, ta0, h⟩ := withRow_some (by simp) h
    exact ⟨_, (.cons (.val (.cons ta0 .nil)) (.cons (.val (.cons .s .nil)) .nil)), (laws_szMixedS.evs ⟨(), laws_szMixed.c k⟩ k a0 a1 K).trans h⟩
  · cases h
theorem laws_szMixedS.ds : dstB Try.f41.ntmps (bodyOf Try.f41) = true := by kernel_rfl
theorem laws_szMixedS.cb : callB E.P 41 = true := by kernel_rfl
theorem laws_szMixedS.ok {R : Type} (B : Base) (k : Nat) : ConOk E.P B 41 (laws_szMixedS.con (laws_szMixedS.c (R := R) k)) := con_ok E_orders E_eqs (GOk.cons laws_szMixed.cb (laws_szMixed.ok B k) GOk.nil) Try.func41 (by kernel_rfl) laws_szMixedS.ds rfl (laws_szMixedS.run k)
theorem laws_toMixed.inn {R : Type} (f : laws_toMixed.T R) (a0_0 : Int) (a0_1 : ByteArray) (K : Ret → Option R) : (laws_toMixed.con f).run [.val true [.s (.int .i64 a0_0), .s (.string a0_1)]] K = f a0_0 a0_1 (fun r1 r2 => K ⟨[.val true [.s (.int .i64 r1), .s (.string r2)]], []⟩) := by kernel_rfl
theorem laws_toMixed.run {R : Type} (k : Nat) (args : List RV) (K : Ret → Option R) (o : R) (h : (laws_toMixed.con (laws_toMixed.c k)).run args K = some o) : ∃ args', All2 TyRV args args' ∧ evFunc E (laws_toMixed.G ⟨()⟩) k laws_toMixed.H [] false Try.f70 args' K = some o := by
  unfold laws_toMixed.con at h
  simp only at h
  split at h
  · rename_i a0_0 a0_1
    exact ⟨_, (.cons (.val (.cons .s (.cons .s .nil))) .nil), (laws_toMixed.evs ⟨()⟩ k a0_0 a0_1 K).trans h⟩
  · cases h
theorem laws_toMixed.ds : dstB Try.f70.ntmps (bodyOf Try.f70) = true := by kernel_rfl
theorem laws_toMixed.cb : callB E.P 70 = true := by kernel_rfl
theorem laws_toMixed.ok {R : Type} (B : Base) (k : Nat) : ConOk E.P B 70 (laws_toMixed.con (laws_toMixed.c (R := R) k)) := con_ok E_orders E_eqs GOk.nil Try.func70 (by kernel_rfl) laws_toMixed.ds rfl (laws_toMixed.run k)
theorem laws_toMixedS.inn {R : Type} (f : laws_toMixedS.T R) (a0 : List (Int × ByteArray)) (K : Ret → Option R) : (laws_toMixedS.con f).run [.val false [.row .ro [.int .i64, .str] a0]] K = f a0 (fun r1 => K ⟨[.val false [.row .own [.int .i64, .str] r1]], []⟩) := by kernel_rfl
theorem laws_toMixedS.run {R : Type} (k : Nat) (args : List RV) (K : Ret → Option R) (o : R) (h : (laws_toMixedS.con (laws_toMixedS.c k)).run args K = some o) : ∃ args', All2 TyRV args args' ∧ evFunc E (laws_toMixedS.G ⟨(), laws_toMixed.c k⟩) k laws_toMixedS.H [] false Try.f43 args' K = some o := by
  unfold laws_toMixedS.con at h
  simp only at h
  split at h
  · rename_i pa0
    obtain ⟨a0, ta0, h⟩ := withRow_some (by simp) h
    exact ⟨_, (.cons (.val (.cons ta0 .nil)) .nil), (laws_toMixedS.evs ⟨(), laws_toMixed.c k⟩ k a0 K).trans h⟩
  · cases h
theorem laws_toMixedS.ds : dstB Try.f43.ntmps (bodyOf Try.f43) = true := by kernel_rfl
theorem laws_toMixedS.cb : callB E.P 43 = true := by kernel_rfl
theorem laws_toMixedS.ok {R : Type} (B : Base) (k : Nat) : ConOk E.P B 43 (laws_toMixedS.con (laws_toMixedS.c (R := R) k)) := con_ok E_orders E_eqs (GOk.cons laws_toMixed.cb (laws_toMixed.ok B k) GOk.nil) Try.func43 (by kernel_rfl) laws_toMixedS.ds rfl (laws_toMixedS.run k)
theorem laws_eqMixed.inn {R : Type} (f : laws_eqMixed.T R) (a0_0 : Int) (a0_1 : ByteArray) (a1_0 : Int) (a1_1 : ByteArray) (K : Ret → Option R) : (laws_eqMixed.con f).run [.val true [.s (.int .i64 a0_0), .s (.string a0_1)], .val true [.s (.int .i64 a1_0), .s (.string a1_1)]] K = f a0_0 a0_1 a1_0 a1_1 (fun r1 => K ⟨[.val false [.s (.bool r1)]], []⟩) := by kernel_rfl
theorem laws_eqMixed.run {R : Type} (k : Nat) (args : List RV) (K : Ret → Option R) (o : R) (h : (laws_eqMixed.con (laws_eqMixed.c k)).run args K = some o) : ∃ args', All2 TyRV args args' ∧ evFunc E (laws_eqMixed.G ⟨()⟩) k laws_eqMixed.H [] false Try.f71 args' K = some o := by
  unfold laws_eqMixed.con at h
  simp only at h
  split at h
  · rename_i a0_0 a0_1 a1_0 a1_1
    exact ⟨_, (.cons (.val (.cons .s (.cons .s .nil))) (.cons (.val (.cons .s (.cons .s .nil))) .nil)), (laws_eqMixed.evs ⟨()⟩ k a0_0 a0_1 a1_0 a1_1 K).trans h⟩
  · cases h
theorem laws_eqMixed.ds : dstB Try.f71.ntmps (bodyOf Try.f71) = true := by kernel_rfl
theorem laws_eqMixed.cb : callB E.P 71 = true := by kernel_rfl
theorem laws_eqMixed.ok {R : Type} (B : Base) (k : Nat) : ConOk E.P B 71 (laws_eqMixed.con (laws_eqMixed.c (R := R) k)) := con_ok E_orders E_eqs GOk.nil Try.func71 (by kernel_rfl) laws_eqMixed.ds rfl (laws_eqMixed.run k)
theorem laws_eqMixedS.inn {R : Type} (f : laws_eqMixedS.T R) (a0 : List (Int × ByteArray)) (a1 : List (Int × ByteArray)) (K : Ret → Option R) : (laws_eqMixedS.con f).run [.val false [.row .ro [.int .i64, .str] a0], .val false [.row .ro [.int .i64, .str] a1]] K = f a0 a1 (fun r1 => K ⟨[.val false [.s (.bool r1)]], []⟩) := by kernel_rfl
theorem laws_eqMixedS.run {R : Type} (k : Nat) (args : List RV) (K : Ret → Option R) (o : R) (h : (laws_eqMixedS.con (laws_eqMixedS.c k)).run args K = some o) : ∃ args', All2 TyRV args args' ∧ evFunc E (laws_eqMixedS.G ⟨(), laws_eqMixed.c k⟩) k laws_eqMixedS.H [] false Try.f44 args' K = some o := by
  unfold laws_eqMixedS.con at h
  simp only at h
  split at h
  · rename_i pa0 pa1
    obtain ⟨a0, ta0, h⟩ := withRow_some (by simp) h
    obtain ⟨a1, ta1, h⟩ := withRow_some (by simp) h
    exact ⟨_, (.cons (.val (.cons ta0 .nil)) (.cons (.val (.cons ta1 .nil)) .nil)), (laws_eqMixedS.evs ⟨(), laws_eqMixed.c k⟩ k a0 a1 K).trans h⟩
  · cases h
theorem laws_eqMixedS.ds : dstB Try.f44.ntmps (bodyOf Try.f44) = true := by kernel_rfl
theorem laws_eqMixedS.cb : callB E.P 44 = true := by kernel_rfl
theorem laws_eqMixedS.ok {R : Type} (B : Base) (k : Nat) : ConOk E.P B 44 (laws_eqMixedS.con (laws_eqMixedS.c (R := R) k)) := con_ok E_orders E_eqs (GOk.cons laws_eqMixed.cb (laws_eqMixed.ok B k) GOk.nil) Try.func44 (by kernel_rfl) laws_eqMixedS.ds rfl (laws_eqMixedS.run k)
theorem spec_l6In.inn {R : Type} (f : spec_l6In.T R) (a0 : Int) (a1 : Int) (a2 : Int) (K : Ret → Option R) : (spec_l6In.con f).run [.val false [.s (.int .i64 a0)], .val false [.s (.int .i64 a1)], .val false [.s (.int .i64 a2)]] K = f a0 a1 a2 (fun r1 => K ⟨[.val false [.s (.bool r1)]], []⟩) := by kernel_rfl
theorem spec_l6In.run {R : Type} (k : Nat) (args : List RV) (K : Ret → Option R) (o : R) (h : (spec_l6In.con (spec_l6In.c k)).run args K = some o) : ∃ args', All2 TyRV args args' ∧ evFunc E (spec_l6In.G ⟨()⟩) k spec_l6In.H [] false Try.f69 args' K = some o := by
  unfold spec_l6In.con at h
  simp only at h
  split at h
  · rename_i a0 a1 a2
    exact ⟨_, (.cons (.val (.cons .s .nil)) (.cons (.val (.cons .s .nil)) (.cons (.val (.cons .s .nil)) .nil))), (spec_l6In.evs ⟨()⟩ k a0 a1 a2 K).trans h⟩
  · cases h
theorem spec_l6In.ds : dstB Try.f69.ntmps (bodyOf Try.f69) = true := by kernel_rfl
theorem spec_l6In.cb : callB E.P 69 = true := by kernel_rfl
theorem spec_l6In.ok {R : Type} (B : Base) (k : Nat) : ConOk E.P B 69 (spec_l6In.con (spec_l6In.c (R := R) k)) := con_ok E_orders E_eqs GOk.nil Try.func69 (by kernel_rfl) spec_l6In.ds rfl (spec_l6In.run k)
theorem spec_l1Ok.inn {R : Type} (f : spec_l1Ok.T R) (a0 : Int) (a1 : Int) (K : Ret → Option R) : (spec_l1Ok.con f).run [.val false [.s (.int .i64 a0)], .val false [.s (.int .i64 a1)]] K = f a0 a1 (fun r1 => K ⟨[.val false [.s (.bool r1)]], []⟩) := by kernel_rfl
theorem spec_l1Ok.run {R : Type} (k : Nat) (args : List RV) (K : Ret → Option R) (o : R) (h : (spec_l1Ok.con (spec_l1Ok.c k)).run args K = some o) : ∃ args', All2 TyRV args args' ∧ evFunc E (spec_l1Ok.G ⟨(), spec_l6In.c k⟩) k spec_l1Ok.H [] false Try.f57 args' K = some o := by
  unfold spec_l1Ok.con at h
  simp only at h
  split at h
  · rename_i a0 a1
    exact ⟨_, (.cons (.val (.cons .s .nil)) (.cons (.val (.cons .s .nil)) .nil)), (spec_l1Ok.evs ⟨(), spec_l6In.c k⟩ k a0 a1 K).trans h⟩
  · cases h
theorem spec_l1Ok.ds : dstB Try.f57.ntmps (bodyOf Try.f57) = true := by kernel_rfl
theorem spec_l1Ok.cb : callB E.P 57 = true := by kernel_rfl
theorem spec_l1Ok.ok {R : Type} (B : Base) (k : Nat) : ConOk E.P B 57 (spec_l1Ok.con (spec_l1Ok.c (R := R) k)) := con_ok E_orders E_eqs (GOk.cons spec_l6In.cb (spec_l6In.ok B k) GOk.nil) Try.func57 (by kernel_rfl) spec_l1Ok.ds rfl (spec_l1Ok.run k)
theorem spec_l2Mixed.inn {R : Type} (f : spec_l2Mixed.T R) (a0 : Int) (a1_0 : Int) (a1_1 : ByteArray) (K : Ret → Option R) : (spec_l2Mixed.con f).run [.val false [.s (.int .i64 a0)], .val true [.s (.int .i64 a1_0), .s (.string a1_1)]] K = f a0 a1_0 a1_1 (fun r1 => K ⟨[.val false [.s (.bool r1)]], []⟩) := by kernel_rfl
theorem spec_l2Mixed.run {R : Type} (k : Nat) (args : List RV) (K : Ret → Option R) (o : R) (h : (spec_l2Mixed.con (spec_l2Mixed.c k)).run args K = some o) : ∃ args', All2 TyRV args args' ∧ evFunc E (spec_l2Mixed.G ⟨(), spec_l1Ok.c k⟩) k spec_l2Mixed.H [] false Try.f72 args' K = some o := by
  unfold spec_l2Mixed.con at h
  simp only at h
  split at h
  · rename_i a0 a1_0 a1_1
    exact ⟨_, (.cons (.val (.cons .s .nil)) (.cons (.val (.cons .s (.cons .s .nil))) .nil)), (spec_l2Mixed.evs ⟨(), spec_l1Ok.c k⟩ k a0 a1_0 a1_1 K).trans h⟩
  · cases h
theorem spec_l2Mixed.ds : dstB Try.f72.ntmps (bodyOf Try.f72) = true := by kernel_rfl
theorem spec_l2Mixed.cb : callB E.P 72 = true := by kernel_rfl
theorem spec_l2Mixed.ok {R : Type} (B : Base) (k : Nat) : ConOk E.P B 72 (spec_l2Mixed.con (spec_l2Mixed.c (R := R) k)) := con_ok E_orders E_eqs (GOk.cons spec_l1Ok.cb (spec_l1Ok.ok B k) GOk.nil) Try.func72 (by kernel_rfl) spec_l2Mixed.ds rfl (spec_l2Mixed.run k)
theorem spec_RandNext.inn {R : Type} (f : spec_RandNext.T R) (a0 : Int) (K : Ret → Option R) : (spec_RandNext.con f).run [.val false [.s (.int .i64 a0)]] K = f a0 (fun r1 => K ⟨[.val false [.s (.int .i64 r1)]], []⟩) := by kernel_rfl
theorem spec_RandNext.run {R : Type} (k : Nat) (args : List RV) (K : Ret → Option R) (o : R) (h : (spec_RandNext.con (spec_RandNext.c k)).run args K = some o) : ∃ args', All2 TyRV args args' ∧ evFunc E (spec_RandNext.G ⟨(), spec_l6In.c k⟩) k spec_RandNext.H [] false Try.f58 args' K = some o := by
  unfold spec_RandNext.con at h
  simp only at h
  split at h
  · rename_i a0
    exact ⟨_, (.cons (.val (.cons .s .nil)) .nil), (spec_RandNext.evs ⟨(), spec_l6In.c k⟩ k a0 K).trans h⟩
  · cases h
theorem spec_RandNext.ds : dstB Try.f58.ntmps (bodyOf Try.f58) = true := by kernel_rfl
theorem spec_RandNext.cb : callB E.P 58 = true := by kernel_rfl
theorem spec_RandNext.ok {R : Type} (B : Base) (k : Nat) : ConOk E.P B 58 (spec_RandNext.con (spec_RandNext.c (R := R) k)) := con_ok E_orders E_eqs (GOk.cons spec_l6In.cb (spec_l6In.ok B k) GOk.nil) Try.func58 (by kernel_rfl) spec_RandNext.ds rfl (spec_RandNext.run k)
theorem spec_l1Weight.inn {R : Type} (f : spec_l1Weight.T R) (a0 : Int) (a1 : Int) (K : Ret → Option R) : (spec_l1Weight.con f).run [.val false [.s (.int .i64 a0)], .val false [.s (.int .i64 a1)]] K = f a0 a1 (fun r1 => K ⟨[.val false [.s (.int .i64 r1)]], []⟩) := by kernel_rfl
theorem spec_l1Weight.run {R : Type} (k : Nat) (args : List RV) (K : Ret → Option R) (o : R) (h : (spec_l1Weight.con (spec_l1Weight.c k)).run args K = some o) : ∃ args', All2 TyRV args args' ∧ evFunc E (spec_l1Weight.G ⟨()⟩) k spec_l1Weight.H [] false Try.f77 args' K = some o := by
  unfold spec_l1Weight.con at h
  simp only at h
  split at h
  · rename_i a0 a1
    exact ⟨_, (.cons (.val (.cons .s .nil)) (.cons (.val (.cons .s .nil)) .nil)), (spec_l1Weight.evs ⟨()⟩ k a0 a1 K).trans h⟩
  · cases h
theorem spec_l1Weight.ds : dstB Try.f77.ntmps (bodyOf Try.f77) = true := by kernel_rfl
theorem spec_l1Weight.cb : callB E.P 77 = true := by kernel_rfl
theorem spec_l1Weight.ok {R : Type} (B : Base) (k : Nat) : ConOk E.P B 77 (spec_l1Weight.con (spec_l1Weight.c (R := R) k)) := con_ok E_orders E_eqs GOk.nil Try.func77 (by kernel_rfl) spec_l1Weight.ds rfl (spec_l1Weight.run k)
theorem spec_MixDegree.inn {R : Type} (f : spec_MixDegree.T R) (a0 : Int) (a1 : Int) (K : Ret → Option R) : (spec_MixDegree.con f).run [.val false [.s (.int .i64 a0)], .val false [.s (.int .i64 a1)]] K = f a0 a1 (fun r1 => K ⟨[.val false [.s (.int .i64 r1)]], []⟩) := by kernel_rfl
theorem spec_MixDegree.run {R : Type} (k : Nat) (args : List RV) (K : Ret → Option R) (o : R) (h : (spec_MixDegree.con (spec_MixDegree.c k)).run args K = some o) : ∃ args', All2 TyRV args args' ∧ evFunc E (spec_MixDegree.G ⟨(), spec_l1Ok.c k, spec_l1Weight.c k, spec_RandNext.c k⟩) k spec_MixDegree.H [] false Try.f59 args' K = some o := by
  unfold spec_MixDegree.con at h
  simp only at h
  split at h
  · rename_i a0 a1
    exact ⟨_, (.cons (.val (.cons .s .nil)) (.cons (.val (.cons .s .nil)) .nil)), (spec_MixDegree.evs ⟨(), spec_l1Ok.c k, spec_l1Weight.c k, spec_RandNext.c k⟩ k a0 a1 K).trans h⟩
  · cases h
theorem spec_MixDegree.ds : dstB Try.f59.ntmps (bodyOf Try.f59) = true := by kernel_rfl
theorem spec_MixDegree.cb : callB E.P 59 = true := by kernel_rfl
theorem spec_MixDegree.ok {R : Type} (B : Base) (k : Nat) : ConOk E.P B 59 (spec_MixDegree.con (spec_MixDegree.c (R := R) k)) := con_ok E_orders E_eqs (GOk.cons spec_l1Ok.cb (spec_l1Ok.ok B k) (GOk.cons spec_l1Weight.cb (spec_l1Weight.ok B k) (GOk.cons spec_RandNext.cb (spec_RandNext.ok B k) GOk.nil))) Try.func59 (by kernel_rfl) spec_MixDegree.ds rfl (spec_MixDegree.run k)
theorem spec_MixOf.inn {R : Type} (f : spec_MixOf.T R) (a0 : Int) (a1 : Int) (K : Ret → Option R) : (spec_MixOf.con f).run [.val false [.s (.int .i64 a0)], .val false [.s (.int .i64 a1)]] K = f a0 a1 (fun r1 => K ⟨[.val false [.row .own [.int .i64] r1]], []⟩) := by kernel_rfl
theorem spec_MixOf.run {R : Type} (k : Nat) (args : List RV) (K : Ret → Option R) (o : R) (h : (spec_MixOf.con (spec_MixOf.c k)).run args K = some o) : ∃ args', All2 TyRV args args' ∧ evFunc E (spec_MixOf.G ⟨(), spec_l1Ok.c k, spec_RandNext.c k, spec_MixDegree.c k⟩) k spec_MixOf.H [] false Try.f27 args' K = some o := by
  unfold spec_MixOf.con at h
  simp only at h
  split at h
  · rename_i a0 a1
    exact ⟨_, (.cons (.val (.cons .s .nil)) (.cons (.val (.cons .s .nil)) .nil)), (spec_MixOf.evs ⟨(), spec_l1Ok.c k, spec_RandNext.c k, spec_MixDegree.c k⟩ k a0 a1 K).trans h⟩
  · cases h
theorem spec_MixOf.ds : dstB Try.f27.ntmps (bodyOf Try.f27) = true := by kernel_rfl
theorem spec_MixOf.cb : callB E.P 27 = true := by kernel_rfl
theorem spec_MixOf.ok {R : Type} (B : Base) (k : Nat) : ConOk E.P B 27 (spec_MixOf.con (spec_MixOf.c (R := R) k)) := con_ok E_orders E_eqs (GOk.cons spec_l1Ok.cb (spec_l1Ok.ok B k) (GOk.cons spec_RandNext.cb (spec_RandNext.ok B k) (GOk.cons spec_MixDegree.cb (spec_MixDegree.ok B k) GOk.nil))) Try.func27 (by kernel_rfl) spec_MixOf.ds rfl (spec_MixOf.run k)
theorem spec_l2Xor.inn {R : Type} (f : spec_l2Xor.T R) (a0 : ByteArray) (a1 : ByteArray) (K : Ret → Option R) : (spec_l2Xor.con f).run [.val false [.s (.string a0)], .val false [.s (.string a1)]] K = f a0 a1 (fun r1 => K ⟨[.val false [.s (.string r1)]], []⟩) := by kernel_rfl
theorem spec_l2Xor.run {R : Type} (k : Nat) (args : List RV) (K : Ret → Option R) (o : R) (h : (spec_l2Xor.con (spec_l2Xor.c k)).run args K = some o) : ∃ args', All2 TyRV args args' ∧ evFunc E (spec_l2Xor.G ⟨()⟩) k spec_l2Xor.H [] false Try.f65 args' K = some o := by
  unfold spec_l2Xor.con at h
  simp only at h
  split at h
  · rename_i a0 a1
    exact ⟨_, (.cons (.val (.cons .s .nil)) (.cons (.val (.cons .s .nil)) .nil)), (spec_l2Xor.evs ⟨()⟩ k a0 a1 K).trans h⟩
  · cases h
theorem spec_l2Xor.ds : dstB Try.f65.ntmps (bodyOf Try.f65) = true := by kernel_rfl
theorem spec_l2Xor.cb : callB E.P 65 = true := by kernel_rfl
theorem spec_l2Xor.ok {R : Type} (B : Base) (k : Nat) : ConOk E.P B 65 (spec_l2Xor.con (spec_l2Xor.c (R := R) k)) := con_ok E_orders E_eqs GOk.nil Try.func65 (by kernel_rfl) spec_l2Xor.ds rfl (spec_l2Xor.run k)
theorem spec_l2Left.inn {R : Type} (f : spec_l2Left.T R) (a0 : Int) (a1_0 : Int) (a1_1 : ByteArray) (a2 : List ByteArray) (K : Ret → Option R) : (spec_l2Left.con f).run [.val false [.s (.int .i64 a0)], .val true [.s (.int .i64 a1_0), .s (.string a1_1)], .val false [.row .ro [.str] a2]] K = f a0 a1_0 a1_1 a2 (fun r1 r2 => K ⟨[.val false [.row .own [.int .i64] r1], .val false [.s (.string r2)]], []⟩) := by kernel_rfl
theorem spec_l2Left.run {R : Type} (k : Nat) (args : List RV) (K : Ret → Option R) (o : R) (h : (spec_l2Left.con (spec_l2Left.c k)).run args K = some o) : ∃ args', All2 TyRV args args' ∧ evFunc E (spec_l2Left.G ⟨(), spec_MixOf.c k, spec_l2Xor.c k⟩) k spec_l2Left.H [] false Try.f73 args' K = some o := by
  unfold spec_l2Left.con at h
  simp only at h
  split at h
  · rename_i a0 a1_0 a1_1 pa2
    obtain ⟨a2, ta2, h⟩ := withRow_some (by simp) h
    exact ⟨_, (.cons (.val (.cons .s .nil)) (.cons (.val (.cons .s (.cons .s .nil))) (.cons (.val (.cons ta2 .nil)) .nil))), (spec_l2Left.evs ⟨(), spec_MixOf.c k, spec_l2Xor.c k⟩ k a0 a1_0 a1_1 a2 K).trans h⟩
  · cases h
theorem spec_l2Left.ds : dstB Try.f73.ntmps (bodyOf Try.f73) = true := by kernel_rfl
theorem spec_l2Left.cb : callB E.P 73 = true := by kernel_rfl
theorem spec_l2Left.ok {R : Type} (B : Base) (k : Nat) : ConOk E.P B 73 (spec_l2Left.con (spec_l2Left.c (R := R) k)) := con_ok E_orders E_eqs (GOk.cons spec_MixOf.cb (spec_MixOf.ok B k) (GOk.cons spec_l2Xor.cb (spec_l2Xor.ok B k) GOk.nil)) Try.func73 (by kernel_rfl) spec_l2Left.ds rfl (spec_l2Left.run k)
theorem spec_MixPeel.inn {R : Type} (f : spec_MixPeel.T R) (a0 : Int) (a1 : List (Int × ByteArray)) (K : Ret → Option R) : (spec_MixPeel.con f).run [.val false [.s (.int .i64 a0)], .val false [.row .ro [.int .i64, .str] a1]] K = f a0 a1 (fun r1 => K ⟨[.val false [.row .own [.str] r1]], []⟩) := by kernel_rfl
theorem spec_MixPeel.run {R : Type} (k : Nat) (args : List RV) (K : Ret → Option R) (o : R) (h : (spec_MixPeel.con (spec_MixPeel.c k)).run args K = some o) : ∃ args', All2 TyRV args args' ∧ evFunc E (spec_MixPeel.G ⟨(), spec_l6In.c k, spec_l2Mixed.c k, spec_l2Left.c k⟩) k spec_MixPeel.H [] false Try.f45 args' K = some o := by
  unfold spec_MixPeel.con at h
  simp only at h
  split at h
  · rename_i a0 pa1
    obtain ⟨a1, ta1, h⟩ := withRow_some (by simp) h
    exact ⟨_, (.cons (.val (.cons .s .nil)) (.cons (.val (.cons ta1 .nil)) .nil)), (spec_MixPeel.evs ⟨(), spec_l6In.c k, spec_l2Mixed.c k, spec_l2Left.c k⟩ k a0 a1 K).trans h⟩
  · cases h
theorem spec_MixPeel.ds : dstB Try.f45.ntmps (bodyOf Try.f45) = true := by kernel_rfl
theorem spec_MixPeel.cb : callB E.P 45 = true := by kernel_rfl
theorem spec_MixPeel.ok {R : Type} (B : Base) (k : Nat) : ConOk E.P B 45 (spec_MixPeel.con (spec_MixPeel.c (R := R) k)) := con_ok E_orders E_eqs (GOk.cons spec_l6In.cb (spec_l6In.ok B k) (GOk.cons spec_l2Mixed.cb (spec_l2Mixed.ok B k) (GOk.cons spec_l2Left.cb (spec_l2Left.ok B k) GOk.nil))) Try.func45 (by kernel_rfl) spec_MixPeel.ds rfl (spec_MixPeel.run k)
theorem impl_in.inn {R : Type} (f : impl_in.T R) (a0 : Int) (a1 : Int) (a2 : Int) (K : Ret → Option R) : (impl_in.con f).run [.val false [.s (.int .i64 a0)], .val false [.s (.int .i64 a1)], .val false [.s (.int .i64 a2)]] K = f a0 a1 a2 (fun r1 => K ⟨[.val false [.s (.bool r1)]], []⟩) := by kernel_rfl
theorem impl_in.run {R : Type} (k : Nat) (args : List RV) (K : Ret → Option R) (o : R) (h : (impl_in.con (impl_in.c k)).run args K = some o) : ∃ args', All2 TyRV args args' ∧ evFunc E (impl_in.G ⟨()⟩) k impl_in.H [] false Try.f52 args' K = some o := by
  unfold impl_in.con at h
  simp only at h
  split at h
  · rename_i a0 a1 a2
    exact ⟨_, (.cons (.val (.cons .s .nil)) (.cons (.val (.cons .s .nil)) (.cons (.val (.cons .s .nil)) .nil))), (impl_in.evs ⟨()⟩ k a0 a1 a2 K).trans h⟩
  · cases h
theorem impl_in.ds : dstB Try.f52.ntmps (bodyOf Try.f52) = true := by kernel_rfl
theorem impl_in.cb : callB E.P 52 = true := by kernel_rfl
theorem impl_in.ok {R : Type} (B : Base) (k : Nat) : ConOk E.P B 52 (impl_in.con (impl_in.c (R := R) k)) := con_ok E_orders E_eqs GOk.nil Try.func52 (by kernel_rfl) impl_in.ds rfl (impl_in.run k)
theorem impl_mixOk.inn {R : Type} (f : impl_mixOk.T R) (a0 : Int) (a1 : Int) (K : Ret → Option R) : (impl_mixOk.con f).run [.val false [.s (.int .i64 a0)], .val false [.s (.int .i64 a1)]] K = f a0 a1 (fun r1 => K ⟨[.val false [.s (.bool r1)]], []⟩) := by kernel_rfl
theorem impl_mixOk.run {R : Type} (k : Nat) (args : List RV) (K : Ret → Option R) (o : R) (h : (impl_mixOk.con (impl_mixOk.c k)).run args K = some o) : ∃ args', All2 TyRV args args' ∧ evFunc E (impl_mixOk.G ⟨(), impl_in.c k⟩) k impl_mixOk.H [] false Try.f60 args' K = some o := by
  unfold impl_mixOk.con at h
  simp only at h
  split at h
  · rename_i a0 a1
    exact ⟨_, (.cons (.val (.cons .s .nil)) (.cons (.val (.cons .s .nil)) .nil)), (impl_mixOk.evs ⟨(), impl_in.c k⟩ k a0 a1 K).trans h⟩
  · cases h
theorem impl_mixOk.ds : dstB Try.f60.ntmps (bodyOf Try.f60) = true := by kernel_rfl
theorem impl_mixOk.cb : callB E.P 60 = true := by kernel_rfl
theorem impl_mixOk.ok {R : Type} (B : Base) (k : Nat) : ConOk E.P B 60 (impl_mixOk.con (impl_mixOk.c (R := R) k)) := con_ok E_orders E_eqs (GOk.cons impl_in.cb (impl_in.ok B k) GOk.nil) Try.func60 (by kernel_rfl) impl_mixOk.ds rfl (impl_mixOk.run k)
theorem impl_RandNext.inn {R : Type} (f : impl_RandNext.T R) (a0 : Int) (K : Ret → Option R) : (impl_RandNext.con f).run [.val false [.s (.int .i64 a0)]] K = f a0 (fun r1 => K ⟨[.val false [.s (.int .i64 r1)]], []⟩) := by kernel_rfl
theorem impl_RandNext.run {R : Type} (k : Nat) (args : List RV) (K : Ret → Option R) (o : R) (h : (impl_RandNext.con (impl_RandNext.c k)).run args K = some o) : ∃ args', All2 TyRV args args' ∧ evFunc E (impl_RandNext.G ⟨(), impl_in.c k⟩) k impl_RandNext.H [] false Try.f61 args' K = some o := by
  unfold impl_RandNext.con at h
  simp only at h
  split at h
  · rename_i a0
    exact ⟨_, (.cons (.val (.cons .s .nil)) .nil), (impl_RandNext.evs ⟨(), impl_in.c k⟩ k a0 K).trans h⟩
  · cases h
theorem impl_RandNext.ds : dstB Try.f61.ntmps (bodyOf Try.f61) = true := by kernel_rfl
theorem impl_RandNext.cb : callB E.P 61 = true := by kernel_rfl
theorem impl_RandNext.ok {R : Type} (B : Base) (k : Nat) : ConOk E.P B 61 (impl_RandNext.con (impl_RandNext.c (R := R) k)) := con_ok E_orders E_eqs (GOk.cons impl_in.cb (impl_in.ok B k) GOk.nil) Try.func61 (by kernel_rfl) impl_RandNext.ds rfl (impl_RandNext.run k)
theorem impl_MixDegree.inn {R : Type} (f : impl_MixDegree.T R) (a0 : Int) (a1 : Int) (K : Ret → Option R) : (impl_MixDegree.con f).run [.val false [.s (.int .i64 a0)], .val false [.s (.int .i64 a1)]] K = f a0 a1 (fun r1 => K ⟨[.val false [.s (.int .i64 r1)]], []⟩) := by kernel_rfl
theorem impl_MixDegree.run {R : Type} (k : Nat) (args : List RV) (K : Ret → Option R) (o : R) (h : (impl_MixDegree.con (impl_MixDegree.c k)).run args K = some o) : ∃ args', All2 TyRV args args' ∧ evFunc E (impl_MixDegree.G ⟨(), impl_mixOk.c k, impl_RandNext.c k⟩) k impl_MixDegree.H [] false Try.f34 args' K = some o := by
  unfold impl_MixDegree.con at h
  simp only at h
  split at h
  · rename_i a0 a1
    exact ⟨_, (.cons (.val (.cons .s .nil)) (.cons (.val (.cons .s .nil)) .nil)), (impl_MixDegree.evs ⟨(), impl_mixOk.c k, impl_RandNext.c k⟩ k a0 a1 K).trans h⟩
  · cases h
theorem impl_MixDegree.ds : dstB Try.f34.ntmps (bodyOf Try.f34) = true := by kernel_rfl
theorem impl_MixDegree.cb : callB E.P 34 = true := by kernel_rfl
theorem impl_MixDegree.ok {R : Type} (B : Base) (k : Nat) : ConOk E.P B 34 (impl_MixDegree.con (impl_MixDegree.c (R := R) k)) := con_ok E_orders E_eqs (GOk.cons impl_mixOk.cb (impl_mixOk.ok B k) (GOk.cons impl_RandNext.cb (impl_RandNext.ok B k) GOk.nil)) Try.func34 (by kernel_rfl) impl_MixDegree.ds rfl (impl_MixDegree.run k)
theorem impl_copied_int.inn {R : Type} (f : impl_copied_int.T R) (a0 : List Int) (K : Ret → Option R) : (impl_copied_int.con f).run [.val false [.row .ro [.int .i64] a0]] K = f a0 (fun r1 => K ⟨[.val false [.row .own [.int .i64] r1]], []⟩) := by kernel_rfl
theorem impl_copied_int.run {R : Type} (k : Nat) (args : List RV) (K : Ret → Option R) (o : R) (h : (impl_copied_int.con (impl_copied_int.c k)).run args K = some o) : ∃ args', All2 TyRV args args' ∧ evFunc E (impl_copied_int.G ⟨()⟩) k impl_copied_int.H [] false Try.f62 args' K = some o := by
  unfold impl_copied_int.con at h
  simp only at h
  split at h
  · rename_i pa0
    obtain ⟨a0, ta0, h⟩ := withRow_some (by simp) h
    exact ⟨_, (.cons (.val (.cons ta0 .nil)) .nil), (impl_copied_int.evs ⟨()⟩ k a0 K).trans h⟩
  · cases h
theorem impl_copied_int.ds : dstB Try.f62.ntmps (bodyOf Try.f62) = true := by kernel_rfl
theorem impl_copied_int.cb : callB E.P 62 = true := by kernel_rfl
theorem impl_copied_int.ok {R : Type} (B : Base) (k : Nat) : ConOk E.P B 62 (impl_copied_int.con (impl_copied_int.c (R := R) k)) := con_ok E_orders E_eqs GOk.nil Try.func62 (by kernel_rfl) impl_copied_int.ds rfl (impl_copied_int.run k)
theorem impl_MixOf.inn {R : Type} (f : impl_MixOf.T R) (a0 : Int) (a1 : Int) (K : Ret → Option R) : (impl_MixOf.con f).run [.val false [.s (.int .i64 a0)], .val false [.s (.int .i64 a1)]] K = f a0 a1 (fun r1 => K ⟨[.val false [.row .own [.int .i64] r1]], []⟩) := by kernel_rfl
theorem impl_MixOf.run {R : Type} (k : Nat) (args : List RV) (K : Ret → Option R) (o : R) (h : (impl_MixOf.con (impl_MixOf.c k)).run args K = some o) : ∃ args', All2 TyRV args args' ∧ evFunc E (impl_MixOf.G ⟨(), impl_mixOk.c k, impl_RandNext.c k, impl_MixDegree.c k, impl_copied_int.c k⟩) k impl_MixOf.H [] false Try.f28 args' K = some o := by
  unfold impl_MixOf.con at h
  simp only at h
  split at h
  · rename_i a0 a1
    exact ⟨_, (.cons (.val (.cons .s .nil)) (.cons (.val (.cons .s .nil)) .nil)), (impl_MixOf.evs ⟨(), impl_mixOk.c k, impl_RandNext.c k, impl_MixDegree.c k, impl_copied_int.c k⟩ k a0 a1 K).trans h⟩
  · cases h
theorem impl_MixOf.ds : dstB Try.f28.ntmps (bodyOf Try.f28) = true := by kernel_rfl
theorem impl_MixOf.cb : callB E.P 28 = true := by kernel_rfl
theorem impl_MixOf.ok {R : Type} (B : Base) (k : Nat) : ConOk E.P B 28 (impl_MixOf.con (impl_MixOf.c (R := R) k)) := con_ok E_orders E_eqs (GOk.cons impl_mixOk.cb (impl_mixOk.ok B k) (GOk.cons impl_RandNext.cb (impl_RandNext.ok B k) (GOk.cons impl_MixDegree.cb (impl_MixDegree.ok B k) (GOk.cons impl_copied_int.cb (impl_copied_int.ok B k) GOk.nil)))) Try.func28 (by kernel_rfl) impl_MixOf.ds rfl (impl_MixOf.run k)
theorem impl_xored.inn {R : Type} (f : impl_xored.T R) (a0 : ByteArray) (a1 : ByteArray) (K : Ret → Option R) : (impl_xored.con f).run [.val false [.s (.string a0)], .val false [.s (.string a1)]] K = f a0 a1 (fun r1 => K ⟨[.val false [.s (.string r1)]], []⟩) := by kernel_rfl
theorem impl_xored.run {R : Type} (k : Nat) (args : List RV) (K : Ret → Option R) (o : R) (h : (impl_xored.con (impl_xored.c k)).run args K = some o) : ∃ args', All2 TyRV args args' ∧ evFunc E (impl_xored.G ⟨()⟩) k impl_xored.H [] false Try.f66 args' K = some o := by
  unfold impl_xored.con at h
  simp only at h
  split at h
  · rename_i a0 a1
    exact ⟨_, (.cons (.val (.cons .s .nil)) (.cons (.val (.cons .s .nil)) .nil)), (impl_xored.evs ⟨()⟩ k a0 a1 K).trans h⟩
  · cases h
theorem impl_xored.ds : dstB Try.f66.ntmps (bodyOf Try.f66) = true := by kernel_rfl
theorem impl_xored.cb : callB E.P 66 = true := by kernel_rfl
theorem impl_xored.ok {R : Type} (B : Base) (k : Nat) : ConOk E.P B 66 (impl_xored.con (impl_xored.c (R := R) k)) := con_ok E_orders E_eqs GOk.nil Try.func66 (by kernel_rfl) impl_xored.ds rfl (impl_xored.run k)
theorem impl_MixPeel.inn {R : Type} (f : impl_MixPeel.T R) (a0 : Int) (a1 : List (Int × ByteArray)) (K : Ret → Option R) : (impl_MixPeel.con f).run [.val false [.s (.int .i64 a0)], .val false [.row .ro [.int .i64, .str] a1]] K = f a0 a1 (fun r1 => K ⟨[.val false [.row .own [.str] r1]], []⟩) := by kernel_rfl
theorem impl_MixPeel.run {R : Type} (k : Nat) (args : List RV) (K : Ret → Option R) (o : R) (h : (impl_MixPeel.con (impl_MixPeel.c k)).run args K = some o) : ∃ args', All2 TyRV args args' ∧ evFunc E (impl_MixPeel.G ⟨(), impl_in.c k, impl_MixOf.c k, impl_xored.c k⟩) k impl_MixPeel.H [] false Try.f46 args' K = some o := by
  unfold impl_MixPeel.con at h
  simp only at h
  split at h
  · rename_i a0 pa1
    obtain ⟨a1, ta1, h⟩ := withRow_some (by simp) h
    exact ⟨_, (.cons (.val (.cons .s .nil)) (.cons (.val (.cons ta1 .nil)) .nil)), (impl_MixPeel.evs ⟨(), impl_in.c k, impl_MixOf.c k, impl_xored.c k⟩ k a0 a1 K).trans h⟩
  · cases h
theorem impl_MixPeel.ds : dstB Try.f46.ntmps (bodyOf Try.f46) = true := by kernel_rfl
theorem impl_MixPeel.cb : callB E.P 46 = true := by kernel_rfl
theorem impl_MixPeel.ok {R : Type} (B : Base) (k : Nat) : ConOk E.P B 46 (impl_MixPeel.con (impl_MixPeel.c (R := R) k)) := con_ok E_orders E_eqs (GOk.cons impl_in.cb (impl_in.ok B k) (GOk.cons impl_MixOf.cb (impl_MixOf.ok B k) (GOk.cons impl_xored.cb (impl_xored.ok B k) GOk.nil))) Try.func46 (by kernel_rfl) impl_MixPeel.ds rfl (impl_MixPeel.run k)
theorem laws_markMixedS.inn {R : Type} (f : laws_markMixedS.T R) (a0 : List (Int × ByteArray)) (a1 : Int) (K : Ret → Option R) : (laws_markMixedS.con f).run [.val false [.row .ro [.int .i64, .str] a0], .val false [.s (.int .i64 a1)]] K = f a0 a1 (fun r1 r2 => K ⟨[.val false [.s (.int .i64 r1)]], [[.row .fix [.int .i64, .str] r2]]⟩) := by kernel_rfl
theorem laws_markMixedS.run {R : Type} (k : Nat) (args : List RV) (K : Ret → Option R) (o : R) (h : (laws_markMixedS.con (laws_markMixedS.c k)).run args K = some o) : ∃ args', All2 TyRV args args' ∧ evFunc E (laws_markMixedS.G ⟨(), laws_markText.c k⟩) k laws_markMixedS.H [0] false Try.f47 args' K = some o := by
  unfold laws_markMixedS.con at h
  simp only at h
  split at h
  · rename_i pa0 a1
    obtain ⟨a0, ta0, h⟩ := withRow_some (by simp) h
    exact ⟨_, (.cons (.val (.cons ta0 .nil)) (.cons (.val (.cons .s .nil)) .nil)), (laws_markMixedS.evs ⟨(), laws_markText.c k⟩ k a0 a1 K).trans h⟩
  · cases h
theorem laws_markMixedS.ds : dstB Try.f47.ntmps (bodyOf Try.f47) = true := by kernel_rfl
theorem laws_markMixedS.cb : callB E.P 47 = true := by kernel_rfl
theorem laws_markMixedS.ok {R : Type} (B : Base) (k : Nat) : ConOk E.P B 47 (laws_markMixedS.con (laws_markMixedS.c (R := R) k)) := con_ok E_orders E_eqs (GOk.cons laws_markText.cb (laws_markText.ok B k) GOk.nil) Try.func47 (by kernel_rfl) laws_markMixedS.ds rfl (laws_markMixedS.run k)
theorem laws_FnExactMixPeel.inn {R : Type} (f : laws_FnExactMixPeel.T R) (a0 : Int) (a1 : List (Int × ByteArray)) (K : Ret → Option R) : (laws_FnExactMixPeel.con f).run [.val false [.s (.int .i64 a0)], .val false [.row .ro [.int .i64, .str] a1]] K = f a0 a1 (fun r1 => K ⟨[.val false [.s (.bool r1)]], []⟩) := by kernel_rfl
theorem laws_FnExactMixPeel.run {R : Type} (k : Nat) (args : List RV) (K : Ret → Option R) (o : R) (h : (laws_FnExactMixPeel.con (laws_FnExactMixPeel.c k)).run args K = some o) : ∃ args', All2 TyRV args args' ∧ evFunc E (laws_FnExactMixPeel.G ⟨(), laws_szMixedS.c k, laws_toMixedS.c k, spec_MixPeel.c k, impl_MixPeel.c k, laws_eqStringS.c k, laws_eqMixedS.c k, laws_markMixedS.c k, laws_markStringS.c k, laws_heldStringS.c k⟩) k laws_FnExactMixPeel.H [] false Try.f15 args' K = some o := by
  unfold laws_FnExactMixPeel.con at h
  simp only at h
  split at h
  · rename_i a0 pa1
    obtain ⟨a1, ta1, h⟩ := withRow_some (by simp) h
    exact ⟨_, (.cons (.val (.cons .s .nil)) (.cons (.val (.cons ta1 .nil)) .nil)), (laws_FnExactMixPeel.evs ⟨(), laws_szMixedS.c k, laws_toMixedS.c k, spec_MixPeel.c k, impl_MixPeel.c k, laws_eqStringS.c k, laws_eqMixedS.c k, laws_markMixedS.c k, laws_markStringS.c k, laws_heldStringS.c k⟩ k a0 a1 K).trans h⟩
  · cases h
theorem laws_FnExactMixPeel.ds : dstB Try.f15.ntmps (bodyOf Try.f15) = true := by kernel_rfl
theorem laws_FnExactMixPeel.cb : callB E.P 15 = true := by kernel_rfl
theorem laws_FnExactMixPeel.ok {R : Type} (B : Base) (k : Nat) : ConOk E.P B 15 (laws_FnExactMixPeel.con (laws_FnExactMixPeel.c (R := R) k)) := con_ok E_orders E_eqs (GOk.cons laws_szMixedS.cb (laws_szMixedS.ok B k) (GOk.cons laws_toMixedS.cb (laws_toMixedS.ok B k) (GOk.cons spec_MixPeel.cb (spec_MixPeel.ok B k) (GOk.cons impl_MixPeel.cb (impl_MixPeel.ok B k) (GOk.cons laws_eqStringS.cb (laws_eqStringS.ok B k) (GOk.cons laws_eqMixedS.cb (laws_eqMixedS.ok B k) (GOk.cons laws_markMixedS.cb (laws_markMixedS.ok B k) (GOk.cons laws_markStringS.cb (laws_markStringS.ok B k) (GOk.cons laws_heldStringS.cb (laws_heldStringS.ok B k) GOk.nil))))))))) Try.func15 (by kernel_rfl) laws_FnExactMixPeel.ds rfl (laws_FnExactMixPeel.run k)
end Go.Ev.F
