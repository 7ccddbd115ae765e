/- The law FnExactNoteWrite: whatever the input, the law's function answers true, and the input reads as it did. No condition. -/
import Derived.Test.YteglhciieakmaaaDoorRows
import Derived.Test.YteglhciieakmaaaDoorEvoFnExactNoteWrite
import Derived.Test.YteglhciieakmaaaDoorPuwFnExactNoteWrite
import Derived.Test.YteglhciieakmaaaDoorOpn
import Derived.Test.YteglhciieakmaaaDoorWrp
import Derived.Test.YteglhciieakmaaaDoorTie
import Derived.Test.YteglhciieakmaaaDoorCards
import Derived.SevenTiedAt
import Derived.WalkKit
import Derived.ProofKit
import Derived.OpenShut
import Derived.ShutString
import Derived.ChangeOld
import Derived.Below
import Derived.SizedLaws
namespace Go.Proofs.YteglhciieakmaaaDoor.fnExactNoteWrite
open Go.ChangeShapes Go.WideShapes Go.ChangeAt Go.RowKit Go.Ev
open Go.ChangeMaps (open_string shut_string)
set_option linter.unusedVariables false
theorem byt_wf {l : List Int} (h : ∀ x ∈ l, (Lit.int .u8 x).wf = true) : Byt l := by
  intro x hx
  have := h x hx
  simp [Lit.wf, IntKind.min, IntKind.max, IntKind.signed, IntKind.bits] at this
  omega
theorem i64_wf {x : Int} (h : (Lit.int .i64 x).wf = true) : -9223372036854775808 ≤ x ∧ x ≤ 9223372036854775807 := by
  simp [Lit.wf, IntKind.min, IntKind.max, IntKind.signed, IntKind.bits] at h
  omega
theorem str_wf {s : ByteArray} (h : s.size ≤ maxLen) : (s.size : Int) ≤ 9223372036854775807 := by
  unfold maxLen at h
  omega
theorem own : ownKnob Tryd.prog.godebug = none := by kernel_rfl
theorem laidOut : laidOutB Tryd.prog = true := by kernel_rfl
set_option maxRecDepth 100000 in
theorem lifted (os : Os) (started : os.Started) (H : Type) (enc : TypeId × Value → H) :
    ReturnsInHanded {} Tryd.checked os 3 .any (fun w args => (Rows.fnExactNoteWriteSpec.pre enc Tryd.prog Tryd.f3 [] false w args ∧ laidMetH Tryd.prog Rows.fnExactNoteWriteRow.laid w) ∧ sizedMet enc Tryd.prog Tryd.f3 (OpenSpec.ofChange Rows.fnExactNoteWriteSpec) false w args)
      (Rows.fnExactNoteWriteSpec.post enc Tryd.prog Tryd.f3 false true false false) := by
  refine returnsInHanded_of_change_laid (C := Tryd.checked) (X := fun w _ => laidMetH Tryd.prog Rows.fnExactNoteWriteRow.laid w) (fun _ _ _ hh h => h.of_heap hh) own started (by kernel_rfl) Tryd.func3
    (ChangeSpec.witness_shaped (enc := enc) (C := Tryd.checked) (os := os) (X := fun w _ => laidMetH Tryd.prog Rows.fnExactNoteWriteRow.laid w) false (World.laidAll Tryd.prog os Rows.fnExactNoteWriteRow.laid) #[.agg #[.int .i64 0, .int .i64 0, .int .i64 0, .int .i64 0, .string ByteArray.empty]] 8 (World.laidAll_os _ _ _)
      (World.shaped_of_ZipB (by kernel_rfl) (by kernel_rfl)) (by kernel_rfl) (by kernel_rfl) (by kernel_rfl)
      (by rw [MakeChecks.laidMetH_plain _ _ _ (by kernel_rfl)]; exact laidMet_laidAll _ (by kernel_rfl) (by kernel_rfl))) ?_
  intro W base args ds gs before hval0 hW hL0 hsh
  have hL : laidMet Tryd.prog Rows.fnExactNoteWriteRow.laid W := by
    have h := hL0
    rw [MakeChecks.laidMetH_plain _ _ _ (by kernel_rfl)] at h
    exact h
  have hval : ∀ (j : Nat) t v, Tryd.f3.params[j]? = some t → args[j]? = some v → Value.okWide Tryd.prog W .any base t v := hval0
  have hW' := hW
  obtain ⟨p, q, hA0, hV, rfl, hfz, hnd⟩ := hW
  have hA : DataW.TrodAll enc Tryd.prog W 0 (fun _ => true) true Tryd.f3.params.toList args.toList ds p := hA0
  rw [Tryd.params3] at hA hval
  obtain ⟨v0, vs0, d0, ds0, p0, q0, hargs, rfl, rfl, h0, r0⟩ := trodAll_cons hA
  obtain ⟨rfl, rfl, rfl⟩ := trodAll_nil r0
  obtain rfl : args = #[v0] := by cases args; simp_all
  obtain ⟨rfl, rfl⟩ := trodVars_none hV
  have ok0 := hval 0 23 v0 rfl rfl
  have k0 := h0
  have lt0 : ∀ x ∈ p0, x.block < W.heap.size := by obtain ⟨m, hm⟩ := k0; exact DataW.trod_lt m _ _ _ hm
  obtain ⟨q0', op0, al0⟩ := open_any (k := 8) (ps := [Pk.s (.int .i64), Pk.s (.int .i64), Pk.s (.int .i64), Pk.s (.int .i64), Pk.s (.str)]) (by kernel_rfl) ok0 h0
  obtain ⟨a0_0, _, rfl, wa0_0, a0_1, _, rfl, wa0_1, a0_2, _, rfl, wa0_2, a0_3, _, rfl, wa0_3, a0_4, _, rfl, wa0_4, rfl⟩ := op0
  clear hA0 hval0
  have hI : ExtI Tryd.prog ⟨W.heap.size, W⟩ := extI_of (tabIs_of_mem (by kernel_rfl) Tryd.underlying44 Tryd.underlying37 (by kernel_rfl) (by kernel_rfl) hL (.tail _ (.tail _ (.head _))) rfl)
  refine (law_calls_at (F.laws_FnExactNoteWrite.ok ⟨W.heap.size, W⟩ hI 4194304) rfl (args := [.val true [.s (.int .i64 a0_0), .s (.int .i64 a0_1), .s (.int .i64 a0_2), .s (.int .i64 a0_3), .s (.string a0_4)]]) (xs := [_]) (fun v hv => ?_) ((F.laws_FnExactNoteWrite.inn _ a0_0 a0_1 a0_2 a0_3 a0_4 some).trans (F.laws_FnExactNoteWrite.law a0_0 a0_1 a0_2 a0_3 a0_4 wa0_0 wa0_1 wa0_2 wa0_3 wa0_4 _)) (.cons (agg_arg Tryd.underlying23 ok0 al0) .nil)).mono fun e W' ⟨he, bel⟩ => ?_
  · simp only [List.mem_cons, List.not_mem_nil, or_false] at hv
    rcases hv with rfl <;> exact ⟨_, _, rfl⟩
  subst he
  exact ⟨_, rfl, _, _, _, [], _, [], hW', trodAll_mk1 (shut_bool Tryd.underlying4 _), (trodAll_cons_mk (Below.trod laidOut (by kernel_rfl) (of_decide_eq_true (by kernel_rfl)) k0 bel lt0) trodAll_mk0), rfl, bel.frame _, fun h => by cases h⟩
theorem over : Rows.fnExactNoteWriteRow.holds Tryd.pinned (OpenSpec.ofChange Rows.fnExactNoteWriteSpec) :=
  OpenClaim.holds_of_wide 3 Tryd.f3 rfl rfl rfl rfl rfl rfl rfl ⟨rfl, rfl, rfl, rfl, rfl⟩ rfl rfl rfl rfl rfl (by kernel_rfl) Tryd.func3 (by kernel_rfl)
    (of_decide_eq_true (by kernel_rfl)) (by unfold Func.isWrapper; first | (rw [if_pos (by decide +kernel)]; kernel_rfl) | (rw [if_neg (by decide +kernel)]; exact ⟨rfl, rfl⟩))
    (fun os started H enc _ => lifted os started H enc)
theorem proved : Rows.FnExactNoteWriteSaid := over
#print axioms proved
end Go.Proofs.YteglhciieakmaaaDoor.fnExactNoteWrite
namespace Go.Proofs.YteglhciieakmaaaDoor
/-- The row, under a short name, for the claim. -/
theorem fnExactNoteWrite_holds : Rows.FnExactNoteWriteSaid := fnExactNoteWrite.proved
set_option maxRecDepth 100000 in
theorem fnExactNoteWrite_card : Rows.FnExactNoteWriteCardSaid :=
  Claim7.holds_tied_plain_at .later [] [.data, .data, .data] true (true, "e699a9f4a1d51a441d2d202923aeee222504e2c389fa588fc96518fd217fe065") false fnExactNoteWrite.proved (fun _ h => by cases h) (by kernel_rfl) (fun _ h => by cases h) fnExactNoteWrite_row_tie rfl ⟨rfl, rfl⟩ (by kernel_rfl) rfl
    (fun f fn hf hfn => by
      obtain rfl : f = 3 := Option.some.inj ((show Tryd.prog.funcNamed Rows.fnExactNoteWriteRow.func = some 3 by kernel_rfl).symm.trans hf) |>.symm
      obtain rfl : fn = Tryd.f3 := (Option.some.inj (Tryd.func3.symm.trans hfn)).symm
      exact ⟨by kernel_rfl, fun j t ht => by
        rw [Tryd.params3] at ht
        have hm : t ∈ [23] := by simpa using Array.mem_of_getElem? ht
        have hall : ([23].all fun u => !Tryd.prog.wantsStandIn u) = true := by kernel_rfl
        exact (show Tryd.prog.wantsStandIn t = false by simpa using List.all_eq_true.1 hall t hm)⟩)
    (by kernel_rfl)
end Go.Proofs.YteglhciieakmaaaDoor
