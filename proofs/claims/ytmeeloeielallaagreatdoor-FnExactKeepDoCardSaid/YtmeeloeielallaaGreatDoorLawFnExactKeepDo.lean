/- The law FnExactKeepDo: whatever the input, the law's function answers true, and the input reads as it did. No condition. -/
import Derived.Test.YtmeeloeielallaaGreatDoorRows
import Derived.Test.YtmeeloeielallaaGreatDoorEvoFnExactKeepDo
import Derived.Test.YtmeeloeielallaaGreatDoorPuwFnExactKeepDo
import Derived.Test.YtmeeloeielallaaGreatDoorOpn
import Derived.Test.YtmeeloeielallaaGreatDoorWrp
import Derived.Test.YtmeeloeielallaaGreatDoorTie
import Derived.Test.YtmeeloeielallaaGreatDoorCards
import Derived.SevenTiedAt
import Derived.WalkKit
import Derived.ProofKit
import Derived.OpenShut
import Derived.ShutString
import Derived.ChangeOld
import Derived.Below
import Derived.SizedLaws
namespace Go.Proofs.YtmeeloeielallaaGreatDoor.fnExactKeepDo
open Go.ChangeShapes Go.WideShapes Go.ChangeAt Go.RowKit Go.Ev
open Go.ChangeMaps (open_string shut_string)
set_option linter.unusedVariables false
theorem byt_wf {l : List Int} (h : ∀ x ∈ l, (Lit.int .u8 x).wf = true) : Byt l := by
  intro x hx
  have := h x hx
  simp [Lit.wf, IntKind.min, IntKind.max, IntKind.signed, IntKind.bits] at this
  omega
theorem i64_wf {x : Int} (h : (Lit.int .i64 x).wf = true) : -9223372036854775808 ≤ x ∧ x ≤ 9223372036854775807 := by
  simp [Lit.wf, IntKind.min, IntKind.max, IntKind.signed, IntKind.bits] at h
  omega
theorem str_wf {s : ByteArray} (h : s.size ≤ maxLen) : (s.size : Int) ≤ 9223372036854775807 := by
  unfold maxLen at h
  omega
theorem own : ownKnob Tryz.prog.godebug = none := by kernel_rfl
theorem laidOut : laidOutB Tryz.prog = true := by kernel_rfl
set_option maxRecDepth 100000 in
theorem lifted (os : Os) (started : os.Started) (H : Type) (enc : TypeId × Value → H) :
    ReturnsInHanded {} Tryz.checked os 5 .any (fun w args => (Rows.fnExactKeepDoSpec.pre enc Tryz.prog Tryz.f5 [] false w args ∧ laidMetH Tryz.prog Rows.fnExactKeepDoRow.laid w) ∧ sizedMet enc Tryz.prog Tryz.f5 (OpenSpec.ofChange Rows.fnExactKeepDoSpec) false w args)
      (Rows.fnExactKeepDoSpec.post enc Tryz.prog Tryz.f5 false true false false) := by
  refine returnsInHanded_of_change_laid (C := Tryz.checked) (X := fun w _ => laidMetH Tryz.prog Rows.fnExactKeepDoRow.laid w) (fun _ _ _ hh h => h.of_heap hh) own started (by kernel_rfl) Tryz.func5
    (ChangeSpec.witness_shaped (enc := enc) (C := Tryz.checked) (os := os) (X := fun w _ => laidMetH Tryz.prog Rows.fnExactKeepDoRow.laid w) false (World.laidAll Tryz.prog os Rows.fnExactKeepDoRow.laid) #[.agg #[.int .i64 0, .int .i64 0, .int .i64 0, .slice none 0 0, .slice none 0 0, .slice none 0 0], .string ByteArray.empty] 8 (World.laidAll_os _ _ _)
      (World.shaped_of_ZipB (by kernel_rfl) (by kernel_rfl)) (by kernel_rfl) (by kernel_rfl) (by kernel_rfl)
      (by rw [MakeChecks.laidMetH_plain _ _ _ (by kernel_rfl)]; exact laidMet_laidAll _ (by kernel_rfl) (by kernel_rfl))) ?_
  intro W base args ds gs before hval0 hW hL0 hsh
  have hL : laidMet Tryz.prog Rows.fnExactKeepDoRow.laid W := by
    have h := hL0
    rw [MakeChecks.laidMetH_plain _ _ _ (by kernel_rfl)] at h
    exact h
  have hval : ∀ (j : Nat) t v, Tryz.f5.params[j]? = some t → args[j]? = some v → Value.okWide Tryz.prog W .any base t v := hval0
  have hW' := hW
  obtain ⟨p, q, hA0, hV, rfl, hfz, hnd⟩ := hW
  have hA : DataW.TrodAll enc Tryz.prog W 0 (fun _ => true) true Tryz.f5.params.toList args.toList ds p := hA0
  rw [Tryz.params5] at hA hval
  obtain ⟨v0, vs0, d0, ds0, p0, q0, hargs, rfl, rfl, h0, r0⟩ := trodAll_cons hA
  obtain ⟨v1, vs1, d1, ds1, p1, q1, rfl, rfl, rfl, h1, r1⟩ := trodAll_cons r0
  obtain ⟨rfl, rfl, rfl⟩ := trodAll_nil r1
  obtain rfl : args = #[v0, v1] := by cases args; simp_all
  obtain ⟨rfl, rfl⟩ := trodVars_none hV
  have ok0 := hval 0 44 v0 rfl rfl
  have k0 := h0
  have lt0 : ∀ x ∈ p0, x.block < W.heap.size := by obtain ⟨m, hm⟩ := k0; exact DataW.trod_lt m _ _ _ hm
  obtain ⟨q0', op0, al0⟩ := open_any (k := 8) (ps := [Pk.s (.int .i64), Pk.s (.int .i64), Pk.s (.int .i64), Pk.row [.int .i64, .int .i64, .int .i64, .int .i64, .str], Pk.row [.int .i64, .int .i64, .int .i64], Pk.row [.int .i64, .int .i64, .int .i64, .int .i64, .str]]) (by kernel_rfl) ok0 h0
  obtain ⟨a0_0, _, rfl, wa0_0, a0_1, _, rfl, wa0_1, a0_2, _, rfl, wa0_2, a0_3, _, rfl, na0_3, wa0_3, a0_4, _, rfl, na0_4, wa0_4, a0_5, _, rfl, na0_5, wa0_5, rfl⟩ := op0
  obtain ⟨a1, rfl, rfl, rfl, w1⟩ := open_string Tryz.underlying9 (hval 1 9 v1 rfl rfl) h1
  clear hA0 hval0
  have hI : ExtI Tryz.prog ⟨W.heap.size, W⟩ := extI_of (tabIs_of_mem (by kernel_rfl) Tryz.underlying145 Tryz.underlying135 (by kernel_rfl) (by kernel_rfl) hL (.tail _ (.tail _ (.head _))) rfl)
  have hS : ExtS Tryz.prog ⟨W.heap.size, W⟩ := extS_of (Tryz.laysM147.s1_3 W hsh)
  refine (law_calls_at (F.laws_FnExactKeepDo.ok ⟨W.heap.size, W⟩ hI hS 4194304) rfl (args := [.val true [.s (.int .i64 a0_0), .s (.int .i64 a0_1), .s (.int .i64 a0_2), .row .ro [.int .i64, .int .i64, .int .i64, .int .i64, .str] a0_3, .row .ro [.int .i64, .int .i64, .int .i64] a0_4, .row .ro [.int .i64, .int .i64, .int .i64, .int .i64, .str] a0_5], .val false [.s (.string a1)]]) (xs := [_, _]) (fun v hv => ?_) ((F.laws_FnExactKeepDo.inn _ a0_0 a0_1 a0_2 a0_3 a0_4 a0_5 a1 some).trans (F.laws_FnExactKeepDo.law a0_0 a0_1 a0_2 a0_3 a0_4 a0_5 a1 wa0_0 wa0_1 wa0_2 na0_3 wa0_3 na0_4 wa0_4 na0_5 wa0_5 (str_wf w1) _)) (.cons (agg_arg Tryz.underlying44 ok0 al0) (.cons (str_arg a1) .nil))).mono fun e W' ⟨he, bel⟩ => ?_
  · simp only [List.mem_cons, List.not_mem_nil, or_false] at hv
    rcases hv with rfl | rfl <;> exact ⟨_, _, rfl⟩
  subst he
  exact ⟨_, rfl, _, _, _, [], _, [], hW', trodAll_mk1 (shut_bool Tryz.underlying4 _), (trodAll_cons_mk (Below.trod laidOut (by kernel_rfl) (of_decide_eq_true (by kernel_rfl)) k0 bel lt0) (trodAll_cons_mk (shut_string Tryz.underlying9 w1) trodAll_mk0)), rfl, bel.frame _, fun h => by cases h⟩
theorem over : Rows.fnExactKeepDoRow.holds Tryz.pinned (OpenSpec.ofChange Rows.fnExactKeepDoSpec) :=
  OpenClaim.holds_of_wide 5 Tryz.f5 rfl rfl rfl rfl rfl rfl rfl ⟨rfl, rfl, rfl, rfl, rfl⟩ rfl rfl rfl rfl rfl (by kernel_rfl) Tryz.func5 (by kernel_rfl)
    (of_decide_eq_true (by kernel_rfl)) (by unfold Func.isWrapper; first | (rw [if_pos (by decide +kernel)]; kernel_rfl) | (rw [if_neg (by decide +kernel)]; exact ⟨rfl, rfl⟩))
    (fun os started H enc _ => lifted os started H enc)
theorem proved : Rows.FnExactKeepDoSaid := over
#print axioms proved
end Go.Proofs.YtmeeloeielallaaGreatDoor.fnExactKeepDo
namespace Go.Proofs.YtmeeloeielallaaGreatDoor
/-- The row, under a short name, for the claim. -/
theorem fnExactKeepDo_holds : Rows.FnExactKeepDoSaid := fnExactKeepDo.proved
set_option maxRecDepth 100000 in
theorem fnExactKeepDo_card : Rows.FnExactKeepDoCardSaid :=
  Claim7.holds_tied_plain_at .later [] [.data, .data, .data, .data, .pinned] true (true, "62de02133035d60f58c26f759a18afaac4ecf9654429a3dee808ced8021bc4e3") false fnExactKeepDo.proved (fun _ h => by cases h) (by kernel_rfl) (fun _ h => by cases h) fnExactKeepDo_row_tie rfl ⟨rfl, rfl⟩ (by kernel_rfl) rfl
    (fun f fn hf hfn => by
      obtain rfl : f = 5 := Option.some.inj ((show Tryz.prog.funcNamed Rows.fnExactKeepDoRow.func = some 5 by kernel_rfl).symm.trans hf) |>.symm
      obtain rfl : fn = Tryz.f5 := (Option.some.inj (Tryz.func5.symm.trans hfn)).symm
      exact ⟨by kernel_rfl, fun j t ht => by
        rw [Tryz.params5] at ht
        have hm : t ∈ [44, 9] := by simpa using Array.mem_of_getElem? ht
        have hall : ([44, 9].all fun u => !Tryz.prog.wantsStandIn u) = true := by kernel_rfl
        exact (show Tryz.prog.wantsStandIn t = false by simpa using List.all_eq_true.1 hall t hm)⟩)
    (by kernel_rfl)
end Go.Proofs.YtmeeloeielallaaGreatDoor
