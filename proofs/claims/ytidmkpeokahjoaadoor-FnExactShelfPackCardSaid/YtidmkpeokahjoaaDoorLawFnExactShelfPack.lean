/- The law FnExactShelfPack: whatever the input, the law's function answers true, and the input reads as it did. No condition. -/
import Derived.Test.YtidmkpeokahjoaaDoorRows
import Derived.Test.YtidmkpeokahjoaaDoorEvoFnExactShelfPack
import Derived.Test.YtidmkpeokahjoaaDoorPuwFnExactShelfPack
import Derived.Test.YtidmkpeokahjoaaDoorOpn
import Derived.Test.YtidmkpeokahjoaaDoorWrp
import Derived.Test.YtidmkpeokahjoaaDoorTie
import Derived.Test.YtidmkpeokahjoaaDoorCards
import Derived.SevenTiedAt
import Derived.WalkKit
import Derived.ProofKit
import Derived.OpenShut
import Derived.ShutString
import Derived.ChangeOld
import Derived.Below
import Derived.SizedLaws
namespace Go.Proofs.YtidmkpeokahjoaaDoor.fnExactShelfPack
open Go.ChangeShapes Go.WideShapes Go.ChangeAt Go.RowKit Go.Ev
open Go.ChangeMaps (open_string shut_string)
set_option linter.unusedVariables false
theorem byt_wf {l : List Int} (h : ∀ x ∈ l, (Lit.int .u8 x).wf = true) : Byt l := by
  intro x hx
  have := h x hx
  simp [Lit.wf, IntKind.min, IntKind.max, IntKind.signed, IntKind.bits] at this
  omega
theorem i64_wf {x : Int} (h : (Lit.int .i64 x).wf = true) : -9223372036854775808 ≤ x ∧ x ≤ 9223372036854775807 := by
  simp [Lit.wf, IntKind.min, IntKind.max, IntKind.signed, IntKind.bits] at h
  omega
theorem str_wf {s : ByteArray} (h : s.size ≤ maxLen) : (s.size : Int) ≤ 9223372036854775807 := by
  unfold maxLen at h
  omega
theorem own : ownKnob Tryd.prog.godebug = none := by kernel_rfl
theorem laidOut : laidOutB Tryd.prog = true := by kernel_rfl
set_option maxRecDepth 100000 in
theorem lifted (os : Os) (started : os.Started) (H : Type) (enc : TypeId × Value → H) :
    ReturnsInHanded {} Tryd.checked os 4 .any (fun w args => (Rows.fnExactShelfPackSpec.pre enc Tryd.prog Tryd.f4 [] false w args ∧ laidMetH Tryd.prog Rows.fnExactShelfPackRow.laid w) ∧ sizedMet enc Tryd.prog Tryd.f4 (OpenSpec.ofChange Rows.fnExactShelfPackSpec) false w args)
      (Rows.fnExactShelfPackSpec.post enc Tryd.prog Tryd.f4 false true false false) := by
  refine returnsInHanded_of_change_laid (C := Tryd.checked) (X := fun w _ => laidMetH Tryd.prog Rows.fnExactShelfPackRow.laid w) (fun _ _ _ hh h => h.of_heap hh) own started (by kernel_rfl) Tryd.func4
    (ChangeSpec.witness_shaped (enc := enc) (C := Tryd.checked) (os := os) (X := fun w _ => laidMetH Tryd.prog Rows.fnExactShelfPackRow.laid w) false (World.laidAll Tryd.prog os Rows.fnExactShelfPackRow.laid) #[.agg #[.string ByteArray.empty, .int .i64 0], .slice none 0 0] 8 (World.laidAll_os _ _ _)
      (World.shaped_of_ZipB (by kernel_rfl) (by kernel_rfl)) (by kernel_rfl) (by kernel_rfl) (by kernel_rfl)
      (by rw [MakeChecks.laidMetH_plain _ _ _ (by kernel_rfl)]; exact laidMet_laidAll _ (by kernel_rfl) (by kernel_rfl))) ?_
  intro W base args ds gs before hval0 hW hL0 hsh
  have hL : laidMet Tryd.prog Rows.fnExactShelfPackRow.laid W := by
    have h := hL0
    rw [MakeChecks.laidMetH_plain _ _ _ (by kernel_rfl)] at h
    exact h
  have hval : ∀ (j : Nat) t v, Tryd.f4.params[j]? = some t → args[j]? = some v → Value.okWide Tryd.prog W .any base t v := hval0
  have hW' := hW
  obtain ⟨p, q, hA0, hV, rfl, hfz, hnd⟩ := hW
  have hA : DataW.TrodAll enc Tryd.prog W 0 (fun _ => true) true Tryd.f4.params.toList args.toList ds p := hA0
  rw [Tryd.params4] at hA hval
  obtain ⟨v0, vs0, d0, ds0, p0, q0, hargs, rfl, rfl, h0, r0⟩ := trodAll_cons hA
  obtain ⟨v1, vs1, d1, ds1, p1, q1, rfl, rfl, rfl, h1, r1⟩ := trodAll_cons r0
  obtain ⟨rfl, rfl, rfl⟩ := trodAll_nil r1
  obtain rfl : args = #[v0, v1] := by cases args; simp_all
  obtain ⟨rfl, rfl⟩ := trodVars_none hV
  have ok0 := hval 0 23 v0 rfl rfl
  have k0 := h0
  have lt0 : ∀ x ∈ p0, x.block < W.heap.size := by obtain ⟨m, hm⟩ := k0; exact DataW.trod_lt m _ _ _ hm
  obtain ⟨q0', op0, al0⟩ := open_any (k := 8) (ps := [Pk.s (.str), Pk.s (.int .i64)]) (by kernel_rfl) ok0 h0
  obtain ⟨a0_0, _, rfl, wa0_0, a0_1, _, rfl, wa0_1, rfl⟩ := op0
  have ok1 := hval 1 31 v1 rfl rfl
  have k1 := h1
  have lt1 : ∀ x ∈ p1, x.block < W.heap.size := by obtain ⟨m, hm⟩ := k1; exact DataW.trod_lt m _ _ _ hm
  obtain ⟨q1', op1, al1⟩ := open_any (k := 8) (ps := [Pk.row [.str]]) (by kernel_rfl) ok1 h1
  obtain ⟨a1, _, rfl, na1, wa1, rfl⟩ := op1
  clear hA0 hval0
  have hI : ExtI Tryd.prog ⟨W.heap.size, W⟩ := extI_of (tabIs_of_mem (by kernel_rfl) Tryd.underlying143 Tryd.underlying136 (by kernel_rfl) (by kernel_rfl) hL (.tail _ (.tail _ (.head _))) rfl)
  refine (law_calls_at (F.laws_FnExactShelfPack.ok ⟨W.heap.size, W⟩ hI 4194304) rfl (args := [.val true [.s (.string a0_0), .s (.int .i64 a0_1)], .val false [.row .ro [.str] a1]]) (xs := [_, _]) (fun v hv => ?_) ((F.laws_FnExactShelfPack.inn _ a0_0 a0_1 a1 some).trans (F.laws_FnExactShelfPack.law a0_0 a0_1 a1 wa0_0 wa0_1 na1 wa1 _)) (.cons (agg_arg Tryd.underlying23 ok0 al0) (.cons (row_arg Tryd.underlying31 ok1 al1) .nil))).mono fun e W' ⟨he, bel⟩ => ?_
  · simp only [List.mem_cons, List.not_mem_nil, or_false] at hv
    rcases hv with rfl | rfl <;> exact ⟨_, _, rfl⟩
  subst he
  exact ⟨_, rfl, _, _, _, [], _, [], hW', trodAll_mk1 (shut_bool Tryd.underlying4 _), (trodAll_cons_mk (Below.trod laidOut (by kernel_rfl) (of_decide_eq_true (by kernel_rfl)) k0 bel lt0) (trodAll_cons_mk (Below.trod laidOut (by kernel_rfl) (of_decide_eq_true (by kernel_rfl)) k1 bel lt1) trodAll_mk0)), rfl, bel.frame _, fun h => by cases h⟩
theorem over : Rows.fnExactShelfPackRow.holds Tryd.pinned (OpenSpec.ofChange Rows.fnExactShelfPackSpec) :=
  OpenClaim.holds_of_wide 4 Tryd.f4 rfl rfl rfl rfl rfl rfl rfl ⟨rfl, rfl, rfl, rfl, rfl⟩ rfl rfl rfl rfl rfl (by kernel_rfl) Tryd.func4 (by kernel_rfl)
    (of_decide_eq_true (by kernel_rfl)) (by unfold Func.isWrapper; first | (rw [if_pos (by decide +kernel)]; kernel_rfl) | (rw [if_neg (by decide +kernel)]; exact ⟨rfl, rfl⟩))
    (fun os started H enc _ => lifted os started H enc)
theorem proved : Rows.FnExactShelfPackSaid := over
#print axioms proved
end Go.Proofs.YtidmkpeokahjoaaDoor.fnExactShelfPack
namespace Go.Proofs.YtidmkpeokahjoaaDoor
/-- The row, under a short name, for the claim. -/
theorem fnExactShelfPack_holds : Rows.FnExactShelfPackSaid := fnExactShelfPack.proved
set_option maxRecDepth 100000 in
theorem fnExactShelfPack_card : Rows.FnExactShelfPackCardSaid :=
  Claim7.holds_tied_plain_at .later [] [.data, .data, .data] true (true, "3a60104af9a97d00ad4a3d475d1493de9ba42af860927fc28cb2d318bb4b6d77") false fnExactShelfPack.proved (fun _ h => by cases h) (by kernel_rfl) (fun _ h => by cases h) fnExactShelfPack_row_tie rfl ⟨rfl, rfl⟩ (by kernel_rfl) rfl
    (fun f fn hf hfn => by
      obtain rfl : f = 4 := Option.some.inj ((show Tryd.prog.funcNamed Rows.fnExactShelfPackRow.func = some 4 by kernel_rfl).symm.trans hf) |>.symm
      obtain rfl : fn = Tryd.f4 := (Option.some.inj (Tryd.func4.symm.trans hfn)).symm
      exact ⟨by kernel_rfl, fun j t ht => by
        rw [Tryd.params4] at ht
        have hm : t ∈ [23, 31] := by simpa using Array.mem_of_getElem? ht
        have hall : ([23, 31].all fun u => !Tryd.prog.wantsStandIn u) = true := by kernel_rfl
        exact (show Tryd.prog.wantsStandIn t = false by simpa using List.all_eq_true.1 hall t hm)⟩)
    (by kernel_rfl)
end Go.Proofs.YtidmkpeokahjoaaDoor
