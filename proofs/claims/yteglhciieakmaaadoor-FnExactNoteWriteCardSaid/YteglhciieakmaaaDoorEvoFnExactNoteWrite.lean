/- What the Go functions compute is what the machine does. No condition. Written by a program of this session. -/
import Derived.Test.YteglhciieakmaaaDoorEvtFnExactNoteWrite
import Derived.Test.YteglhciieakmaaaDoorSoE
import Derived.Test.YteglhciieakmaaaDoorExt
import Derived.Test.YteglhciieakmaaaDoorShf
namespace Go.Ev.F
open Go.Proofs
set_option linter.unusedVariables false
set_option maxRecDepth 100000
theorem E_orders : E.P.follows .mixedOrders = true := by kernel_rfl
theorem E_eqs : ∀ t ∈ E.eqs, eqFree E.P t = true := List.all_eq_true.mp (by kernel_rfl)
theorem laws_szNote.inn {R : Type} (f : laws_szNote.T R) (a0_0 : Int) (a0_1 : Int) (a0_2 : Int) (a0_3 : Int) (a0_4 : ByteArray) (a1 : Int) (K : Ret → Option R) : (laws_szNote.con f).run [.val true [.s (.int .i64 a0_0), .s (.int .i64 a0_1), .s (.int .i64 a0_2), .s (.int .i64 a0_3), .s (.string a0_4)], .val false [.s (.int .i64 a1)]] K = f a0_0 a0_1 a0_2 a0_3 a0_4 a1 (fun r1 => K ⟨[.val false [.s (.int .i64 r1)]], []⟩) := by kernel_rfl
theorem laws_szNote.run {R : Type} (k : Nat) (args : List RV) (K : Ret → Option R) (o : R) (h : (laws_szNote.con (laws_szNote.c k)).run args K = some o) : ∃ args', All2 TyRV args args' ∧ evFunc E (laws_szNote.G ⟨()⟩) k laws_szNote.H [] false Tryd.f4 args' K = some o := by
  unfold laws_szNote.con at h
  simp only at h
  split at h
  · rename_i a0_0 a0_1 a0_2 a0_3 a0_4 a1
    exact ⟨_, (.cons (.val (.cons .s (.cons .s (.cons .s (.cons .s (.cons .s .nil)))))) (.cons (.val (.cons .s .nil)) .nil)), (laws_szNote.evs ⟨()⟩ k a0_0 a0_1 a0_2 a0_3 a0_4 a1 K).trans h⟩
  · cases h
theorem laws_szNote.ds : dstB Tryd.f4.ntmps (bodyOf Tryd.f4) = true := by kernel_rfl
theorem laws_szNote.cb : callB E.P 4 = true := by kernel_rfl
theorem laws_szNote.ok {R : Type} (B : Base) (k : Nat) : ConOk E.P B 4 (laws_szNote.con (laws_szNote.c (R := R) k)) := con_ok E_orders E_eqs GOk.nil Tryd.func4 (by kernel_rfl) laws_szNote.ds rfl (laws_szNote.run k)
theorem spec_l6In.inn {R : Type} (f : spec_l6In.T R) (a0 : Int) (a1 : Int) (a2 : Int) (K : Ret → Option R) : (spec_l6In.con f).run [.val false [.s (.int .i64 a0)], .val false [.s (.int .i64 a1)], .val false [.s (.int .i64 a2)]] K = f a0 a1 a2 (fun r1 => K ⟨[.val false [.s (.bool r1)]], []⟩) := by kernel_rfl
theorem spec_l6In.run {R : Type} (k : Nat) (args : List RV) (K : Ret → Option R) (o : R) (h : (spec_l6In.con (spec_l6In.c k)).run args K = some o) : ∃ args', All2 TyRV args args' ∧ evFunc E (spec_l6In.G ⟨()⟩) k spec_l6In.H [] false Tryd.f13 args' K = some o := by
  unfold spec_l6In.con at h
  simp only at h
  split at h
  · rename_i a0 a1 a2
    exact ⟨_, (.cons (.val (.cons .s .nil)) (.cons (.val (.cons .s .nil)) (.cons (.val (.cons .s .nil)) .nil))), (spec_l6In.evs ⟨()⟩ k a0 a1 a2 K).trans h⟩
  · cases h
theorem spec_l6In.ds : dstB Tryd.f13.ntmps (bodyOf Tryd.f13) = true := by kernel_rfl
theorem spec_l6In.cb : callB E.P 13 = true := by kernel_rfl
theorem spec_l6In.ok {R : Type} (B : Base) (k : Nat) : ConOk E.P B 13 (spec_l6In.con (spec_l6In.c (R := R) k)) := con_ok E_orders E_eqs GOk.nil Tryd.func13 (by kernel_rfl) spec_l6In.ds rfl (spec_l6In.run k)
theorem spec_l3Keeper.inn {R : Type} (f : spec_l3Keeper.T R) (a0 : Int) (K : Ret → Option R) : (spec_l3Keeper.con f).run [.val false [.s (.int .i64 a0)]] K = f a0 (fun r1 => K ⟨[.val false [.s (.bool r1)]], []⟩) := by kernel_rfl
theorem spec_l3Keeper.run {R : Type} (k : Nat) (args : List RV) (K : Ret → Option R) (o : R) (h : (spec_l3Keeper.con (spec_l3Keeper.c k)).run args K = some o) : ∃ args', All2 TyRV args args' ∧ evFunc E (spec_l3Keeper.G ⟨(), spec_l6In.c k⟩) k spec_l3Keeper.H [] false Tryd.f12 args' K = some o := by
  unfold spec_l3Keeper.con at h
  simp only at h
  split at h
  · rename_i a0
    exact ⟨_, (.cons (.val (.cons .s .nil)) .nil), (spec_l3Keeper.evs ⟨(), spec_l6In.c k⟩ k a0 K).trans h⟩
  · cases h
theorem spec_l3Keeper.ds : dstB Tryd.f12.ntmps (bodyOf Tryd.f12) = true := by kernel_rfl
theorem spec_l3Keeper.cb : callB E.P 12 = true := by kernel_rfl
theorem spec_l3Keeper.ok {R : Type} (B : Base) (k : Nat) : ConOk E.P B 12 (spec_l3Keeper.con (spec_l3Keeper.c (R := R) k)) := con_ok E_orders E_eqs (GOk.cons spec_l6In.cb (spec_l6In.ok B k) GOk.nil) Tryd.func12 (by kernel_rfl) spec_l3Keeper.ds rfl (spec_l3Keeper.run k)
theorem spec_NoteOk.inn {R : Type} (f : spec_NoteOk.T R) (a0_0 : Int) (a0_1 : Int) (a0_2 : Int) (a0_3 : Int) (a0_4 : ByteArray) (K : Ret → Option R) : (spec_NoteOk.con f).run [.val true [.s (.int .i64 a0_0), .s (.int .i64 a0_1), .s (.int .i64 a0_2), .s (.int .i64 a0_3), .s (.string a0_4)]] K = f a0_0 a0_1 a0_2 a0_3 a0_4 (fun r1 => K ⟨[.val false [.s (.bool r1)]], []⟩) := by kernel_rfl
theorem spec_NoteOk.run {R : Type} (k : Nat) (args : List RV) (K : Ret → Option R) (o : R) (h : (spec_NoteOk.con (spec_NoteOk.c k)).run args K = some o) : ∃ args', All2 TyRV args args' ∧ evFunc E (spec_NoteOk.G ⟨(), spec_l3Keeper.c k, spec_l6In.c k⟩) k spec_NoteOk.H [] false Tryd.f8 args' K = some o := by
  unfold spec_NoteOk.con at h
  simp only at h
  split at h
  · rename_i a0_0 a0_1 a0_2 a0_3 a0_4
    exact ⟨_, (.cons (.val (.cons .s (.cons .s (.cons .s (.cons .s (.cons .s .nil)))))) .nil), (spec_NoteOk.evs ⟨(), spec_l3Keeper.c k, spec_l6In.c k⟩ k a0_0 a0_1 a0_2 a0_3 a0_4 K).trans h⟩
  · cases h
theorem spec_NoteOk.ds : dstB Tryd.f8.ntmps (bodyOf Tryd.f8) = true := by kernel_rfl
theorem spec_NoteOk.cb : callB E.P 8 = true := by kernel_rfl
theorem spec_NoteOk.ok {R : Type} (B : Base) (k : Nat) : ConOk E.P B 8 (spec_NoteOk.con (spec_NoteOk.c (R := R) k)) := con_ok E_orders E_eqs (GOk.cons spec_l3Keeper.cb (spec_l3Keeper.ok B k) (GOk.cons spec_l6In.cb (spec_l6In.ok B k) GOk.nil)) Tryd.func8 (by kernel_rfl) spec_NoteOk.ds rfl (spec_NoteOk.run k)
theorem spec_l6Dec.inn {R : Type} (f : spec_l6Dec.T R) (a0 : Int) (K : Ret → Option R) : (spec_l6Dec.con f).run [.val false [.s (.int .i64 a0)]] K = f a0 (fun r1 => K ⟨[.val false [.s (.string r1)]], []⟩) := by kernel_rfl
theorem spec_l6Dec.run {R : Type} (k : Nat) (args : List RV) (K : Ret → Option R) (o : R) (h : (spec_l6Dec.con (spec_l6Dec.c (k + 1))).run args K = some o) : ∃ args', All2 TyRV args args' ∧ evFunc E (spec_l6Dec.G ⟨(), spec_l6Dec.c k⟩) k spec_l6Dec.H [] false Tryd.f9 args' K = some o := by
  unfold spec_l6Dec.con at h
  simp only at h
  split at h
  · rename_i a0
    exact ⟨_, (.cons (.val (.cons .s .nil)) .nil), (spec_l6Dec.evs ⟨(), spec_l6Dec.c k⟩ k a0 K).trans h⟩
  · cases h
theorem spec_l6Dec.ds : dstB Tryd.f9.ntmps (bodyOf Tryd.f9) = true := by kernel_rfl
theorem spec_l6Dec.cb : callB E.P 9 = true := by kernel_rfl
theorem spec_l6Dec.ok {R : Type} (B : Base) : ∀ k, ConOk E.P B 9 (spec_l6Dec.con (spec_l6Dec.c (R := R) k))
  | 0 => by
    intro args K o h
    exfalso
    unfold spec_l6Dec.con at h
    simp only at h
    split at h
    · cases h
    · cases h
  | k + 1 => by
    have ih := spec_l6Dec.ok (R := R) B k
    exact con_ok E_orders E_eqs (GOk.cons spec_l6Dec.cb ih GOk.nil) Tryd.func9 (by kernel_rfl) spec_l6Dec.ds rfl (spec_l6Dec.run k)
theorem spec_NoteWrite.inn {R : Type} (f : spec_NoteWrite.T R) (a0_0 : Int) (a0_1 : Int) (a0_2 : Int) (a0_3 : Int) (a0_4 : ByteArray) (K : Ret → Option R) : (spec_NoteWrite.con f).run [.val true [.s (.int .i64 a0_0), .s (.int .i64 a0_1), .s (.int .i64 a0_2), .s (.int .i64 a0_3), .s (.string a0_4)]] K = f a0_0 a0_1 a0_2 a0_3 a0_4 (fun r1 => K ⟨[.val false [.s (.string r1)]], []⟩) := by kernel_rfl
theorem spec_NoteWrite.run {R : Type} (k : Nat) (args : List RV) (K : Ret → Option R) (o : R) (h : (spec_NoteWrite.con (spec_NoteWrite.c k)).run args K = some o) : ∃ args', All2 TyRV args args' ∧ evFunc E (spec_NoteWrite.G ⟨(), spec_NoteOk.c k, spec_l6Dec.c k⟩) k spec_NoteWrite.H [] false Tryd.f5 args' K = some o := by
  unfold spec_NoteWrite.con at h
  simp only at h
  split at h
  · rename_i a0_0 a0_1 a0_2 a0_3 a0_4
    exact ⟨_, (.cons (.val (.cons .s (.cons .s (.cons .s (.cons .s (.cons .s .nil)))))) .nil), (spec_NoteWrite.evs ⟨(), spec_NoteOk.c k, spec_l6Dec.c k⟩ k a0_0 a0_1 a0_2 a0_3 a0_4 K).trans h⟩
  · cases h
theorem spec_NoteWrite.ds : dstB Tryd.f5.ntmps (bodyOf Tryd.f5) = true := by kernel_rfl
theorem spec_NoteWrite.cb : callB E.P 5 = true := by kernel_rfl
theorem spec_NoteWrite.ok {R : Type} (B : Base) (k : Nat) : ConOk E.P B 5 (spec_NoteWrite.con (spec_NoteWrite.c (R := R) k)) := con_ok E_orders E_eqs (GOk.cons spec_NoteOk.cb (spec_NoteOk.ok B k) (GOk.cons spec_l6Dec.cb (spec_l6Dec.ok B k) GOk.nil)) Tryd.func5 (by kernel_rfl) spec_NoteWrite.ds rfl (spec_NoteWrite.run k)
theorem laws_toNote.inn {R : Type} (f : laws_toNote.T R) (a0_0 : Int) (a0_1 : Int) (a0_2 : Int) (a0_3 : Int) (a0_4 : ByteArray) (K : Ret → Option R) : (laws_toNote.con f).run [.val true [.s (.int .i64 a0_0), .s (.int .i64 a0_1), .s (.int .i64 a0_2), .s (.int .i64 a0_3), .s (.string a0_4)]] K = f a0_0 a0_1 a0_2 a0_3 a0_4 (fun r1 r2 r3 r4 r5 => K ⟨[.val true [.s (.int .i64 r1), .s (.int .i64 r2), .s (.int .i64 r3), .s (.int .i64 r4), .s (.string r5)]], []⟩) := by kernel_rfl
theorem laws_toNote.run {R : Type} (k : Nat) (args : List RV) (K : Ret → Option R) (o : R) (h : (laws_toNote.con (laws_toNote.c k)).run args K = some o) : ∃ args', All2 TyRV args args' ∧ evFunc E (laws_toNote.G ⟨()⟩) k laws_toNote.H [] false Tryd.f6 args' K = some o := by
  unfold laws_toNote.con at h
  simp only at h
  split at h
  · rename_i a0_0 a0_1 a0_2 a0_3 a0_4
    exact ⟨_, (.cons (.val (.cons .s (.cons .s (.cons .s (.cons .s (.cons .s .nil)))))) .nil), (laws_toNote.evs ⟨()⟩ k a0_0 a0_1 a0_2 a0_3 a0_4 K).trans h⟩
  · cases h
theorem laws_toNote.ds : dstB Tryd.f6.ntmps (bodyOf Tryd.f6) = true := by kernel_rfl
theorem laws_toNote.cb : callB E.P 6 = true := by kernel_rfl
theorem laws_toNote.ok {R : Type} (B : Base) (k : Nat) : ConOk E.P B 6 (laws_toNote.con (laws_toNote.c (R := R) k)) := con_ok E_orders E_eqs GOk.nil Tryd.func6 (by kernel_rfl) laws_toNote.ds rfl (laws_toNote.run k)
theorem impl_in.inn {R : Type} (f : impl_in.T R) (a0 : Int) (a1 : Int) (a2 : Int) (K : Ret → Option R) : (impl_in.con f).run [.val false [.s (.int .i64 a0)], .val false [.s (.int .i64 a1)], .val false [.s (.int .i64 a2)]] K = f a0 a1 a2 (fun r1 => K ⟨[.val false [.s (.bool r1)]], []⟩) := by kernel_rfl
theorem impl_in.run {R : Type} (k : Nat) (args : List RV) (K : Ret → Option R) (o : R) (h : (impl_in.con (impl_in.c k)).run args K = some o) : ∃ args', All2 TyRV args args' ∧ evFunc E (impl_in.G ⟨()⟩) k impl_in.H [] false Tryd.f15 args' K = some o := by
  unfold impl_in.con at h
  simp only at h
  split at h
  · rename_i a0 a1 a2
    exact ⟨_, (.cons (.val (.cons .s .nil)) (.cons (.val (.cons .s .nil)) (.cons (.val (.cons .s .nil)) .nil))), (impl_in.evs ⟨()⟩ k a0 a1 a2 K).trans h⟩
  · cases h
theorem impl_in.ds : dstB Tryd.f15.ntmps (bodyOf Tryd.f15) = true := by kernel_rfl
theorem impl_in.cb : callB E.P 15 = true := by kernel_rfl
theorem impl_in.ok {R : Type} (B : Base) (k : Nat) : ConOk E.P B 15 (impl_in.con (impl_in.c (R := R) k)) := con_ok E_orders E_eqs GOk.nil Tryd.func15 (by kernel_rfl) impl_in.ds rfl (impl_in.run k)
theorem impl_isNode.inn {R : Type} (f : impl_isNode.T R) (a0 : Int) (K : Ret → Option R) : (impl_isNode.con f).run [.val false [.s (.int .i64 a0)]] K = f a0 (fun r1 => K ⟨[.val false [.s (.bool r1)]], []⟩) := by kernel_rfl
theorem impl_isNode.run {R : Type} (k : Nat) (args : List RV) (K : Ret → Option R) (o : R) (h : (impl_isNode.con (impl_isNode.c k)).run args K = some o) : ∃ args', All2 TyRV args args' ∧ evFunc E (impl_isNode.G ⟨(), impl_in.c k⟩) k impl_isNode.H [] false Tryd.f14 args' K = some o := by
  unfold impl_isNode.con at h
  simp only at h
  split at h
  · rename_i a0
    exact ⟨_, (.cons (.val (.cons .s .nil)) .nil), (impl_isNode.evs ⟨(), impl_in.c k⟩ k a0 K).trans h⟩
  · cases h
theorem impl_isNode.ds : dstB Tryd.f14.ntmps (bodyOf Tryd.f14) = true := by kernel_rfl
theorem impl_isNode.cb : callB E.P 14 = true := by kernel_rfl
theorem impl_isNode.ok {R : Type} (B : Base) (k : Nat) : ConOk E.P B 14 (impl_isNode.con (impl_isNode.c (R := R) k)) := con_ok E_orders E_eqs (GOk.cons impl_in.cb (impl_in.ok B k) GOk.nil) Tryd.func14 (by kernel_rfl) impl_isNode.ds rfl (impl_isNode.run k)
theorem impl_textOk.inn {R : Type} (f : impl_textOk.T R) (a0 : ByteArray) (K : Ret → Option R) : (impl_textOk.con f).run [.val false [.s (.string a0)]] K = f a0 (fun r1 => K ⟨[.val false [.s (.bool r1)]], []⟩) := by kernel_rfl
theorem impl_textOk.run {R : Type} (k : Nat) (args : List RV) (K : Ret → Option R) (o : R) (h : (impl_textOk.con (impl_textOk.c k)).run args K = some o) : ∃ args', All2 TyRV args args' ∧ evFunc E (impl_textOk.G ⟨(), impl_in.c k⟩) k impl_textOk.H [] false Tryd.f16 args' K = some o := by
  unfold impl_textOk.con at h
  simp only at h
  split at h
  · rename_i a0
    exact ⟨_, (.cons (.val (.cons .s .nil)) .nil), (impl_textOk.evs ⟨(), impl_in.c k⟩ k a0 K).trans h⟩
  · cases h
theorem impl_textOk.ds : dstB Tryd.f16.ntmps (bodyOf Tryd.f16) = true := by kernel_rfl
theorem impl_textOk.cb : callB E.P 16 = true := by kernel_rfl
theorem impl_textOk.ok {R : Type} (B : Base) (k : Nat) : ConOk E.P B 16 (impl_textOk.con (impl_textOk.c (R := R) k)) := con_ok E_orders E_eqs (GOk.cons impl_in.cb (impl_in.ok B k) GOk.nil) Tryd.func16 (by kernel_rfl) impl_textOk.ds rfl (impl_textOk.run k)
theorem impl_NoteOk.inn {R : Type} (f : impl_NoteOk.T R) (a0_0 : Int) (a0_1 : Int) (a0_2 : Int) (a0_3 : Int) (a0_4 : ByteArray) (K : Ret → Option R) : (impl_NoteOk.con f).run [.val true [.s (.int .i64 a0_0), .s (.int .i64 a0_1), .s (.int .i64 a0_2), .s (.int .i64 a0_3), .s (.string a0_4)]] K = f a0_0 a0_1 a0_2 a0_3 a0_4 (fun r1 => K ⟨[.val false [.s (.bool r1)]], []⟩) := by kernel_rfl
theorem impl_NoteOk.run {R : Type} (k : Nat) (args : List RV) (K : Ret → Option R) (o : R) (h : (impl_NoteOk.con (impl_NoteOk.c k)).run args K = some o) : ∃ args', All2 TyRV args args' ∧ evFunc E (impl_NoteOk.G ⟨(), impl_isNode.c k, impl_in.c k, impl_textOk.c k⟩) k impl_NoteOk.H [] false Tryd.f10 args' K = some o := by
  unfold impl_NoteOk.con at h
  simp only at h
  split at h
  · rename_i a0_0 a0_1 a0_2 a0_3 a0_4
    exact ⟨_, (.cons (.val (.cons .s (.cons .s (.cons .s (.cons .s (.cons .s .nil)))))) .nil), (impl_NoteOk.evs ⟨(), impl_isNode.c k, impl_in.c k, impl_textOk.c k⟩ k a0_0 a0_1 a0_2 a0_3 a0_4 K).trans h⟩
  · cases h
theorem impl_NoteOk.ds : dstB Tryd.f10.ntmps (bodyOf Tryd.f10) = true := by kernel_rfl
theorem impl_NoteOk.cb : callB E.P 10 = true := by kernel_rfl
theorem impl_NoteOk.ok {R : Type} (B : Base) (k : Nat) : ConOk E.P B 10 (impl_NoteOk.con (impl_NoteOk.c (R := R) k)) := con_ok E_orders E_eqs (GOk.cons impl_isNode.cb (impl_isNode.ok B k) (GOk.cons impl_in.cb (impl_in.ok B k) (GOk.cons impl_textOk.cb (impl_textOk.ok B k) GOk.nil))) Tryd.func10 (by kernel_rfl) impl_NoteOk.ds rfl (impl_NoteOk.run k)
theorem strconv_Itoa.inn {R : Type} (f : strconv_Itoa.T R) (a0 : Int) (K : Ret → Option R) : (strconv_Itoa.con f).run [.val false [.s (.int .i64 a0)]] K = f a0 (fun r1 => K ⟨[.val false [.s (.string r1)]], []⟩) := by kernel_rfl
theorem strconv_Itoa.cb : callB E.P 11 = true := by kernel_rfl
theorem strconv_Itoa.ok {R : Type} (B : Base) (hI : ExtI E.P B) (k : Nat) : ConOk E.P B 11 (strconv_Itoa.con (strconv_Itoa.c (R := R) k)) := by
  refine itoa_conok (fun n h0 h1 w hw => Tryd.strconv_Itoa n h0 h1 w (hI w hw)) _ rfl fun args K o h => ?_
  unfold strconv_Itoa.con at h
  simp only at h
  split at h
  · rename_i a0
    unfold strconv_Itoa.c at h
    cases hc : (decide (-9223372036854775808 ≤ a0) && decide (a0 ≤ 9223372036854775807)) with
    | false => rw [hc] at h; cases h
    | true =>
      rw [hc] at h
      simp only [Bool.and_eq_true, decide_eq_true_eq] at hc
      exact ⟨a0, rfl, hc, h⟩
  · cases h
theorem impl_NoteWrite.inn {R : Type} (f : impl_NoteWrite.T R) (a0_0 : Int) (a0_1 : Int) (a0_2 : Int) (a0_3 : Int) (a0_4 : ByteArray) (K : Ret → Option R) : (impl_NoteWrite.con f).run [.val true [.s (.int .i64 a0_0), .s (.int .i64 a0_1), .s (.int .i64 a0_2), .s (.int .i64 a0_3), .s (.string a0_4)]] K = f a0_0 a0_1 a0_2 a0_3 a0_4 (fun r1 => K ⟨[.val false [.s (.string r1)]], []⟩) := by kernel_rfl
theorem impl_NoteWrite.run {R : Type} (k : Nat) (args : List RV) (K : Ret → Option R) (o : R) (h : (impl_NoteWrite.con (impl_NoteWrite.c k)).run args K = some o) : ∃ args', All2 TyRV args args' ∧ evFunc E (impl_NoteWrite.G ⟨(), impl_NoteOk.c k, strconv_Itoa.c k⟩) k impl_NoteWrite.H [] false Tryd.f7 args' K = some o := by
  unfold impl_NoteWrite.con at h
  simp only at h
  split at h
  · rename_i a0_0 a0_1 a0_2 a0_3 a0_4
    exact ⟨_, (.cons (.val (.cons .s (.cons .s (.cons .s (.cons .s (.cons .s .nil)))))) .nil), (impl_NoteWrite.evs ⟨(), impl_NoteOk.c k, strconv_Itoa.c k⟩ k a0_0 a0_1 a0_2 a0_3 a0_4 K).trans h⟩
  · cases h
theorem impl_NoteWrite.ds : dstB Tryd.f7.ntmps (bodyOf Tryd.f7) = true := by kernel_rfl
theorem impl_NoteWrite.cb : callB E.P 7 = true := by kernel_rfl
theorem impl_NoteWrite.ok {R : Type} (B : Base) (hI : ExtI E.P B) (k : Nat) : ConOk E.P B 7 (impl_NoteWrite.con (impl_NoteWrite.c (R := R) k)) := con_ok E_orders E_eqs (GOk.cons impl_NoteOk.cb (impl_NoteOk.ok B k) (GOk.cons strconv_Itoa.cb (strconv_Itoa.ok B hI k) GOk.nil)) Tryd.func7 (by kernel_rfl) impl_NoteWrite.ds rfl (impl_NoteWrite.run k)
theorem laws_FnExactNoteWrite.inn {R : Type} (f : laws_FnExactNoteWrite.T R) (a0_0 : Int) (a0_1 : Int) (a0_2 : Int) (a0_3 : Int) (a0_4 : ByteArray) (K : Ret → Option R) : (laws_FnExactNoteWrite.con f).run [.val true [.s (.int .i64 a0_0), .s (.int .i64 a0_1), .s (.int .i64 a0_2), .s (.int .i64 a0_3), .s (.string a0_4)]] K = f a0_0 a0_1 a0_2 a0_3 a0_4 (fun r1 => K ⟨[.val false [.s (.bool r1)]], []⟩) := by kernel_rfl
theorem laws_FnExactNoteWrite.run {R : Type} (k : Nat) (args : List RV) (K : Ret → Option R) (o : R) (h : (laws_FnExactNoteWrite.con (laws_FnExactNoteWrite.c k)).run args K = some o) : ∃ args', All2 TyRV args args' ∧ evFunc E (laws_FnExactNoteWrite.G ⟨(), laws_szNote.c k, laws_toNote.c k, spec_NoteWrite.c k, impl_NoteWrite.c k⟩) k laws_FnExactNoteWrite.H [] false Tryd.f3 args' K = some o := by
  unfold laws_FnExactNoteWrite.con at h
  simp only at h
  split at h
  · rename_i a0_0 a0_1 a0_2 a0_3 a0_4
    exact ⟨_, (.cons (.val (.cons .s (.cons .s (.cons .s (.cons .s (.cons .s .nil)))))) .nil), (laws_FnExactNoteWrite.evs ⟨(), laws_szNote.c k, laws_toNote.c k, spec_NoteWrite.c k, impl_NoteWrite.c k⟩ k a0_0 a0_1 a0_2 a0_3 a0_4 K).trans h⟩
  · cases h
theorem laws_FnExactNoteWrite.ds : dstB Tryd.f3.ntmps (bodyOf Tryd.f3) = true := by kernel_rfl
theorem laws_FnExactNoteWrite.cb : callB E.P 3 = true := by kernel_rfl
theorem laws_FnExactNoteWrite.ok {R : Type} (B : Base) (hI : ExtI E.P B) (k : Nat) : ConOk E.P B 3 (laws_FnExactNoteWrite.con (laws_FnExactNoteWrite.c (R := R) k)) := con_ok E_orders E_eqs (GOk.cons laws_szNote.cb (laws_szNote.ok B k) (GOk.cons laws_toNote.cb (laws_toNote.ok B k) (GOk.cons spec_NoteWrite.cb (spec_NoteWrite.ok B k) (GOk.cons impl_NoteWrite.cb (impl_NoteWrite.ok B hI k) GOk.nil)))) Tryd.func3 (by kernel_rfl) laws_FnExactNoteWrite.ds rfl (laws_FnExactNoteWrite.run k)
end Go.Ev.F
