/- The law FnExactKeepRecs: whatever the input, the law's function answers true, and the input reads as it did. No condition. -/
import Derived.Test.YtidmkpeokahjoaaDoorRows
import Derived.Test.YtidmkpeokahjoaaDoorEvoFnExactKeepRecs
import Derived.Test.YtidmkpeokahjoaaDoorPuwFnExactKeepRecs
import Derived.Test.YtidmkpeokahjoaaDoorOpn
import Derived.Test.YtidmkpeokahjoaaDoorWrp
import Derived.Test.YtidmkpeokahjoaaDoorTie
import Derived.Test.YtidmkpeokahjoaaDoorCards
import Derived.SevenTiedAt
import Derived.WalkKit
import Derived.ProofKit
import Derived.OpenShut
import Derived.ShutString
import Derived.ChangeOld
import Derived.Below
import Derived.SizedLaws
namespace Go.Proofs.YtidmkpeokahjoaaDoor.fnExactKeepRecs
open Go.ChangeShapes Go.WideShapes Go.ChangeAt Go.RowKit Go.Ev
open Go.ChangeMaps (open_string shut_string)
set_option linter.unusedVariables false
theorem byt_wf {l : List Int} (h : ∀ x ∈ l, (Lit.int .u8 x).wf = true) : Byt l := by
  intro x hx
  have := h x hx
  simp [Lit.wf, IntKind.min, IntKind.max, IntKind.signed, IntKind.bits] at this
  omega
theorem i64_wf {x : Int} (h : (Lit.int .i64 x).wf = true) : -9223372036854775808 ≤ x ∧ x ≤ 9223372036854775807 := by
  simp [Lit.wf, IntKind.min, IntKind.max, IntKind.signed, IntKind.bits] at h
  omega
theorem str_wf {s : ByteArray} (h : s.size ≤ maxLen) : (s.size : Int) ≤ 9223372036854775807 := by
  unfold maxLen at h
  omega
theorem own : ownKnob Tryd.prog.godebug = none := by kernel_rfl
theorem laidOut : laidOutB Tryd.prog = true := by kernel_rfl
set_option maxRecDepth 100000 in
theorem lifted (os : Os) (started : os.Started) (H : Type) (enc : TypeId × Value → H) :
    ReturnsInHanded {} Tryd.checked os 13 .any (fun w args => (Rows.fnExactKeepRecsSpec.pre enc Tryd.prog Tryd.f13 [] false w args ∧ laidMetH Tryd.prog Rows.fnExactKeepRecsRow.laid w) ∧ sizedMet enc Tryd.prog Tryd.f13 (OpenSpec.ofChange Rows.fnExactKeepRecsSpec) false w args)
      (Rows.fnExactKeepRecsSpec.post enc Tryd.prog Tryd.f13 false true false false) := by
  refine returnsInHanded_of_change_laid (C := Tryd.checked) (X := fun w _ => laidMetH Tryd.prog Rows.fnExactKeepRecsRow.laid w) (fun _ _ _ hh h => h.of_heap hh) own started (by kernel_rfl) Tryd.func13
    (ChangeSpec.witness_shaped (enc := enc) (C := Tryd.checked) (os := os) (X := fun w _ => laidMetH Tryd.prog Rows.fnExactKeepRecsRow.laid w) false (World.laidAll Tryd.prog os Rows.fnExactKeepRecsRow.laid) #[.agg #[.int .i64 0, .int .i64 0, .int .i64 0, .slice none 0 0, .slice none 0 0, .slice none 0 0]] 8 (World.laidAll_os _ _ _)
      (World.shaped_of_ZipB (by kernel_rfl) (by kernel_rfl)) (by kernel_rfl) (by kernel_rfl) (by kernel_rfl)
      (by rw [MakeChecks.laidMetH_plain _ _ _ (by kernel_rfl)]; exact laidMet_laidAll _ (by kernel_rfl) (by kernel_rfl))) ?_
  intro W base args ds gs before hval0 hW hL0 hsh
  have hL : laidMet Tryd.prog Rows.fnExactKeepRecsRow.laid W := by
    have h := hL0
    rw [MakeChecks.laidMetH_plain _ _ _ (by kernel_rfl)] at h
    exact h
  have hval : ∀ (j : Nat) t v, Tryd.f13.params[j]? = some t → args[j]? = some v → Value.okWide Tryd.prog W .any base t v := hval0
  have hW' := hW
  obtain ⟨p, q, hA0, hV, rfl, hfz, hnd⟩ := hW
  have hA : DataW.TrodAll enc Tryd.prog W 0 (fun _ => true) true Tryd.f13.params.toList args.toList ds p := hA0
  rw [Tryd.params13] at hA hval
  obtain ⟨v0, vs0, d0, ds0, p0, q0, hargs, rfl, rfl, h0, r0⟩ := trodAll_cons hA
  obtain ⟨rfl, rfl, rfl⟩ := trodAll_nil r0
  obtain rfl : args = #[v0] := by cases args; simp_all
  obtain ⟨rfl, rfl⟩ := trodVars_none hV
  have ok0 := hval 0 62 v0 rfl rfl
  have k0 := h0
  have lt0 : ∀ x ∈ p0, x.block < W.heap.size := by obtain ⟨m, hm⟩ := k0; exact DataW.trod_lt m _ _ _ hm
  obtain ⟨q0', op0, al0⟩ := open_any (k := 8) (ps := [Pk.s (.int .i64), Pk.s (.int .i64), Pk.s (.int .i64), Pk.row [.int .i64, .int .i64, .int .i64, .int .i64, .str], Pk.row [.int .i64, .int .i64, .int .i64], Pk.row [.int .i64, .int .i64, .int .i64, .int .i64, .str]]) (by kernel_rfl) ok0 h0
  obtain ⟨a0_0, _, rfl, wa0_0, a0_1, _, rfl, wa0_1, a0_2, _, rfl, wa0_2, a0_3, _, rfl, na0_3, wa0_3, a0_4, _, rfl, na0_4, wa0_4, a0_5, _, rfl, na0_5, wa0_5, rfl⟩ := op0
  clear hA0 hval0
  have hI : ExtI Tryd.prog ⟨W.heap.size, W⟩ := extI_of (tabIs_of_mem (by kernel_rfl) Tryd.underlying143 Tryd.underlying136 (by kernel_rfl) (by kernel_rfl) hL (.tail _ (.tail _ (.head _))) rfl)
  refine (law_calls_at (F.laws_FnExactKeepRecs.ok ⟨W.heap.size, W⟩ hI 4194304) rfl (args := [.val true [.s (.int .i64 a0_0), .s (.int .i64 a0_1), .s (.int .i64 a0_2), .row .ro [.int .i64, .int .i64, .int .i64, .int .i64, .str] a0_3, .row .ro [.int .i64, .int .i64, .int .i64] a0_4, .row .ro [.int .i64, .int .i64, .int .i64, .int .i64, .str] a0_5]]) (xs := [_]) (fun v hv => ?_) ((F.laws_FnExactKeepRecs.inn _ a0_0 a0_1 a0_2 a0_3 a0_4 a0_5 some).trans (F.laws_FnExactKeepRecs.law a0_0 a0_1 a0_2 a0_3 a0_4 a0_5 wa0_0 wa0_1 wa0_2 na0_3 wa0_3 na0_4 wa0_4 na0_5 wa0_5 _)) (.cons (agg_arg Tryd.underlying62 ok0 al0) .nil)).mono fun e W' ⟨he, bel⟩ => ?_
  · simp only [List.mem_cons, List.not_mem_nil, or_false] at hv
    rcases hv with rfl <;> exact ⟨_, _, rfl⟩
  subst he
  exact ⟨_, rfl, _, _, _, [], _, [], hW', trodAll_mk1 (shut_bool Tryd.underlying4 _), (trodAll_cons_mk (Below.trod laidOut (by kernel_rfl) (of_decide_eq_true (by kernel_rfl)) k0 bel lt0) trodAll_mk0), rfl, bel.frame _, fun h => by cases h⟩
theorem over : Rows.fnExactKeepRecsRow.holds Tryd.pinned (OpenSpec.ofChange Rows.fnExactKeepRecsSpec) :=
  OpenClaim.holds_of_wide 13 Tryd.f13 rfl rfl rfl rfl rfl rfl rfl ⟨rfl, rfl, rfl, rfl, rfl⟩ rfl rfl rfl rfl rfl (by kernel_rfl) Tryd.func13 (by kernel_rfl)
    (of_decide_eq_true (by kernel_rfl)) (by unfold Func.isWrapper; first | (rw [if_pos (by decide +kernel)]; kernel_rfl) | (rw [if_neg (by decide +kernel)]; exact ⟨rfl, rfl⟩))
    (fun os started H enc _ => lifted os started H enc)
theorem proved : Rows.FnExactKeepRecsSaid := over
#print axioms proved
end Go.Proofs.YtidmkpeokahjoaaDoor.fnExactKeepRecs
namespace Go.Proofs.YtidmkpeokahjoaaDoor
/-- The row, under a short name, for the claim. -/
theorem fnExactKeepRecs_holds : Rows.FnExactKeepRecsSaid := fnExactKeepRecs.proved
set_option maxRecDepth 100000 in
theorem fnExactKeepRecs_card : Rows.FnExactKeepRecsCardSaid :=
  Claim7.holds_tied_plain_at .later [] [.data, .data, .data] true (true, "3a60104af9a97d00ad4a3d475d1493de9ba42af860927fc28cb2d318bb4b6d77") false fnExactKeepRecs.proved (fun _ h => by cases h) (by kernel_rfl) (fun _ h => by cases h) fnExactKeepRecs_row_tie rfl ⟨rfl, rfl⟩ (by kernel_rfl) rfl
    (fun f fn hf hfn => by
      obtain rfl : f = 13 := Option.some.inj ((show Tryd.prog.funcNamed Rows.fnExactKeepRecsRow.func = some 13 by kernel_rfl).symm.trans hf) |>.symm
      obtain rfl : fn = Tryd.f13 := (Option.some.inj (Tryd.func13.symm.trans hfn)).symm
      exact ⟨by kernel_rfl, fun j t ht => by
        rw [Tryd.params13] at ht
        have hm : t ∈ [62] := by simpa using Array.mem_of_getElem? ht
        have hall : ([62].all fun u => !Tryd.prog.wantsStandIn u) = true := by kernel_rfl
        exact (show Tryd.prog.wantsStandIn t = false by simpa using List.all_eq_true.1 hall t hm)⟩)
    (by kernel_rfl)
end Go.Proofs.YtidmkpeokahjoaaDoor
