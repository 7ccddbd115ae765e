/- The row of the law FnExactNoteOk: its argument is a struct by value, opened and shut; the walk's answer and the plain law joined. No condition. -/
import Derived.Test.YteglhciieakmaaaRows
import Derived.Test.YteglhciieakmaaaPFnExactNoteOkx2
import Derived.Test.YteglhciieakmaaaPureFnExactNoteOk
import Derived.Test.YteglhciieakmaaaFive
import Derived.WalkKit
import Derived.ProofKit
import Derived.OpenShut
import Derived.ShutString
import Derived.ChangeOld
import Derived.Below
import Derived.SizedLaws
import Derived.Lib.SmallJoins
namespace Go.Proofs.Yteglhciieakmaaa.fnExactNoteOk
open Go.ChangeShapes Go.WideShapes Go.ChangeAt Go.RowKit Go.Joins
open Go.ChangeMaps (open_string shut_string)
set_option linter.unusedVariables false
theorem own : ownKnob Try.prog.godebug = none := by kernel_rfl
theorem cellsSt : Try.prog.cellsOf 31 = 5 := by kernel_rfl
set_option maxRecDepth 100000 in
theorem lifted (os : Os) (started : os.Started) (H : Type) (enc : TypeId × Value → H) :
    ReturnsInHanded {} Try.checked os 7 .any (Rows.fnExactNoteOkSpec.pre6 enc Try.prog Try.f7 Rows.fnExactNoteOkRow.domain false) (Rows.fnExactNoteOkSpec.post enc Try.prog Try.f7 false true false false) := by
  refine returnsInHanded_of_change_sized (C := Try.checked) own started (by kernel_rfl) Try.func7
    (ChangeSpec.witness6 (enc := enc) (C := Try.checked) false ⟨#[], #[.agg #[.int .i64 0, .int .i64 0, .int .i64 0, .int .i64 0, .string ByteArray.empty]], []⟩ 8 (by kernel_rfl) (by kernel_rfl) (by kernel_rfl) (by kernel_rfl)) ?_
  intro W base args ds gs before hval0 hW hcnd hsz0 _
  have hval : ∀ (j : Nat) t v, Try.f7.params[j]? = some t → args[j]? = some v → Value.okWide Try.prog W .any base t v := hval0
  have hW' := hW
  obtain ⟨p, q, hA0, hV, rfl, hfz, hnd⟩ := hW
  have hA : DataW.TrodAll enc Try.prog W 0 (fun _ => true) true Try.f7.params.toList args.toList ds p := hA0
  rw [Try.params7] at hA hval
  obtain ⟨v0, vs0, d0, ds0, p0, q0, hargs, rfl, rfl, h0, r0⟩ := trodAll_cons hA
  obtain ⟨rfl, rfl, rfl⟩ := trodAll_nil r0
  obtain rfl : args = #[v0] := by cases args; simp_all
  obtain ⟨rfl, rfl⟩ := trodVars_none hV
  obtain ⟨c0, c1, c2, c3, c4, y0, y1, y2, y3, y4, m, rfl, rfl, rfl, hy0, hy1, hy2, hy3, hy4⟩ := Five.openFive Try.underlying31 (by kernel_rfl) cellsSt (hval 0 31 v0 rfl rfl) h0
  obtain ⟨x0, e0, rfl, w0⟩ := DataW.trod_int Try.underlying3 hy0
  obtain ⟨x1, e1, rfl, w1⟩ := DataW.trod_int Try.underlying3 hy1
  obtain ⟨x2, e2, rfl, w2⟩ := DataW.trod_int Try.underlying3 hy2
  obtain ⟨x3, e3, rfl, w3⟩ := DataW.trod_int Try.underlying3 hy3
  obtain ⟨x4, e4, rfl, w4⟩ := DataW.trod_string Try.underlying9 hy4
  simp at e0 e1 e2 e3 e4
  subst e0 e1 e2 e3 e4
  clear hA0 hval0 hsz0
  obtain ⟨k, hk⟩ := Pure.FnExactNoteOk_.FnExactNoteOk_ev x0 x1 x2 x3 x4 (Nat.le_trans w4 (by decide))
  refine (PFnExactNoteOk.laws_FnExactNoteOk.calls k x0 x1 x2 x3 x4 true W hk).mono fun e W' ⟨he, bel⟩ => ?_
  subst he
  have shut : ∀ sp : Nat → Bool, DataW.Trod enc Try.prog W' 0 sp true 31 (.agg #[.int .i64 x0, .int .i64 x1, .int .i64 x2, .int .i64 x3, .string x4]) (.agg [.lit (.int .i64 x0), .lit (.int .i64 x1), .lit (.int .i64 x2), .lit (.int .i64 x3), .lit (.string x4.data.toList)]) [] :=
    fun sp => Five.shutFive (y0 := (.lit (.int .i64 x0), [])) (y1 := (.lit (.int .i64 x1), [])) (y2 := (.lit (.int .i64 x2), [])) (y3 := (.lit (.int .i64 x3), [])) (y4 := (.lit (.string x4.data.toList), [])) Try.underlying31 (by kernel_rfl) cellsSt ⟨1, by simp [DataW.trod, Try.underlying3, w0]⟩ ⟨1, by simp [DataW.trod, Try.underlying3, w1]⟩ ⟨1, by simp [DataW.trod, Try.underlying3, w2]⟩ ⟨1, by simp [DataW.trod, Try.underlying3, w3]⟩ ⟨1, by simp [DataW.trod, Try.underlying9, w4]⟩
  exact ⟨_, rfl, _, _, _, [], _, [], hW', trodAll_mk1 (shut_bool Try.underlying4 _), (trodAll_cons_mk (shut _) trodAll_mk0), rfl, bel.frame _, fun h => by cases h⟩
theorem over : Rows.fnExactNoteOkRow.holds Try.pinned (OpenSpec.ofChange Rows.fnExactNoteOkSpec) :=
  OpenClaim.holds_of_wide 7 Try.f7 rfl rfl rfl rfl rfl rfl rfl ⟨rfl, rfl, rfl, rfl, rfl⟩ rfl rfl rfl rfl rfl (by kernel_rfl) Try.func7 (by kernel_rfl)
    (of_decide_eq_true (by kernel_rfl)) (by unfold Func.isWrapper; first | (rw [if_pos (by decide +kernel)]; kernel_rfl) | (rw [if_neg (by decide +kernel)]; exact ⟨rfl, rfl⟩))
    (fun os started H enc _ => lifted os started H enc)
theorem proved : Rows.FnExactNoteOkSaid := over
#print axioms proved
end Go.Proofs.Yteglhciieakmaaa.fnExactNoteOk
namespace Go.Proofs.Yteglhciieakmaaa
/-- The row, under a short name, for the claim. -/
theorem fnExactNoteOk_holds : Rows.FnExactNoteOkSaid := fnExactNoteOk.proved
end Go.Proofs.Yteglhciieakmaaa
