/- What the Go functions that a law reaches compute, function by function: the machine's calls come to just what these Lean functions say. No condition. Written by a program of this session. -/
import Derived.Test.YtdgigadocempdaaPFnShelfFallx0
import Derived.Test.YtdgigadocempdaaPFnShelfFallx2
import Derived.Test.YtdgigadocempdaaPFnShelfFallx5
import Derived.Test.YtdgigadocempdaaPFnShelfFallx6
import Derived.Test.YtdgigadocempdaaPFnShelfFallx7
import Derived.Test.YtdgigadocempdaaPFnShelfFallx9
import Derived.Test.YtdgigadocempdaaPFnShelfFallx10
namespace Go.Proofs.Ytdgigadocempdaa.PFnShelfFall
open Go.RowKit Go.Proofs.YtdgigadocempdaaW.PrintWords Go.Proofs.YtdgigadocempdaaW.PrintLast Go.Proofs.YtdgigadocempdaaW.PrintMore
attribute [local go_sem] max2_int min2_int max_two min_two max_three min_three max_four min_four   -- for this text's walks alone
set_option linter.unusedVariables false
set_option linter.unusedSimpArgs false

/-! ### spec_l72Rec: function 58 -/
def spec_l72Rec.f (k : Nat) (s0_0 : List Int) (s0_1 : Int) : Option (ByteArray × Int) := (spec_l6Rd_pick.f k s0_0 s0_1 8).bind fun bt306 => (if bt306.1 = 0 then ((spec_l6Rd_pick.f k s0_0 bt306.2 30).bind fun bt308 => ((spec_l6Dec.f k bt308.1).bind fun t310 => (if 5 + t310.size ≤ 9223372036854775807 then (some ((⟨#[116, 105, 109, 101, 32]⟩ : ByteArray) ++ t310, bt308.2)) else (none)))) else (if bt306.1 = 1 then ((spec_l6Rd_pick.f k s0_0 bt306.2 4).bind fun bt311 => ((spec_l6Rd_pick.f k s0_0 bt311.2 3).bind fun bt313 => ((spec_l6Rd_pick.f k s0_0 bt313.2 30).bind fun bt315 => ((spec_l22Three.f k bt311.1 (wrap64 (1 + bt313.1)) (wrap64 (1 + bt315.1))).bind fun t317 => (if 4 + t317.size ≤ 9223372036854775807 then (some ((⟨#[108, 101, 116, 32]⟩ : ByteArray) ++ t317, bt315.2)) else (none)))))) else (if bt306.1 = 2 then ((spec_l6Rd_pick.f k s0_0 bt306.2 4).bind fun bt318 => ((spec_l6Rd_pick.f k s0_0 bt318.2 3).bind fun bt320 => ((spec_l6Rd_pick.f k s0_0 bt320.2 30).bind fun bt322 => ((spec_l22Three.f k bt318.1 (wrap64 (1 + bt320.1)) (wrap64 (1 + bt322.1))).bind fun t324 => (if 4 + t324.size ≤ 9223372036854775807 then (some ((⟨#[101, 97, 116, 32]⟩ : ByteArray) ++ t324, bt322.2)) else (none)))))) else (if bt306.1 = 3 then ((spec_l6Many.f k (⟨#[122]⟩ : ByteArray) 60).bind fun t325 => ((spec_l6Many.f k (⟨#[122]⟩ : ByteArray) 61).bind fun t326 => ((spec_l6Rd_of.f k s0_0 bt306.2 (([(⟨#[]⟩ : ByteArray), (⟨#[119, 104, 97, 116]⟩ : ByteArray), (⟨#[116, 105, 109, 101]⟩ : ByteArray), (⟨#[116, 105, 109, 101, 32, 48]⟩ : ByteArray), (⟨#[116, 105, 109, 101, 32, 48, 49]⟩ : ByteArray), (⟨#[110, 101, 120, 116, 32, 51]⟩ : ByteArray), (⟨#[110, 101, 120, 116, 32, 49]⟩ : ByteArray), (⟨#[109, 97, 114, 107, 32, 48, 32, 49, 32, 53]⟩ : ByteArray), (⟨#[109, 97, 114, 107, 32, 48, 32, 49]⟩ : ByteArray), (⟨#[109, 97, 114, 107, 32, 48, 32, 49, 32, 53, 32]⟩ : ByteArray), (⟨#[104, 101, 108, 100, 32, 48, 32, 49, 32, 50, 32, 57, 32, 120]⟩ : ByteArray), (⟨#[105, 110, 98, 111, 120, 32, 48, 32, 49, 32, 50, 32, 57, 32, 120]⟩ : ByteArray), t325, t326] : List ByteArray))).bind fun bt330 => (some (bt330.1, bt330.2))))) else ((spec_l6Rd_of.f k s0_0 bt306.2 (([(⟨#[111, 119, 110, 32]⟩ : ByteArray), (⟨#[116, 97, 107, 101, 32]⟩ : ByteArray), (⟨#[116, 97, 107, 101, 32]⟩ : ByteArray), (⟨#[104, 101, 108, 100, 32]⟩ : ByteArray), (⟨#[105, 110, 98, 111, 120, 32]⟩ : ByteArray)] : List ByteArray))).bind fun bt335 => ((spec_l72Note.f k s0_0 bt335.2).bind fun bt337 => ((spec_NoteWrite.f k bt337.1 bt337.2.1 bt337.2.2.1 bt337.2.2.2.1 bt337.2.2.2.2.1).bind fun t343 => (if bt335.1.size + t343.size ≤ 9223372036854775807 then (some (bt335.1 ++ t343, bt337.2.2.2.2.2)) else (none)))))))))
theorem spec_l72Rec.mono : ∀ a0 a1 k, LeO (spec_l72Rec.f k a0 a1) (spec_l72Rec.f (k + 1) a0 a1) := by
 intro a0 a1 k
 unfold spec_l72Rec.f
 repeat' first
   | (with_reducible exact spec_NoteWrite.mono _ _ _ _ _ _)
   | (with_reducible exact spec_l22Three.mono _ _ _ _)
   | (with_reducible exact spec_l6Dec.mono _ _)
   | (with_reducible exact spec_l6Many.mono _ _ _)
   | (with_reducible exact spec_l6Rd_of.mono _ _ _ _)
   | (with_reducible exact spec_l6Rd_pick.mono _ _ _ _)
   | (with_reducible exact spec_l72Note.mono _ _ _)
   | (with_reducible exact LeO.refl _)
   | (with_reducible exact LeO.none _)
   | (with_reducible refine LeO.ite ?_ ?_)
   | (with_reducible refine LeO.bind ?_ (fun _ => ?_))
   | exact spec_NoteWrite.mono _ _ _ _ _ _
   | exact spec_l22Three.mono _ _ _ _
   | exact spec_l6Dec.mono _ _
   | exact spec_l6Many.mono _ _ _
   | exact spec_l6Rd_of.mono _ _ _ _
   | exact spec_l6Rd_pick.mono _ _ _ _
   | exact spec_l72Note.mono _ _ _
   | exact LeO.none _
   | refine LeO.ite ?_ ?_
   | refine LeO.bind ?_ (fun _ => ?_)
set_option maxHeartbeats 8000000 in
set_option maxRecDepth 100000 in
theorem spec_l72Rec.calls (k : Nat) (g : Nat) (s0_0 : List Int) (s0_1 : Int) (r1 : ByteArray) (r2 : Int) (w0 w : World) (hI : IsS84 w0 w g s0_0 s0_1) (hB : Below w0.heap.size w0 w) (h : spec_l72Rec.f k s0_0 s0_1 = some (r1, r2)) :
  Calls Try.prog 58 #[.pointer (some ⟨g, 0, none⟩)] w fun e w' => e = .returned (.string r1) ∧ IsS84 w0 w' g s0_0 r2 ∧ Below w0.heap.size w0 w' ∧ KeepBut w w' g none := by
 have HI0 := Aside0.mk hI
 have HK := Aside0.mk (KeepBut.refl w g none)
 have HL := Aside0.mk hB.size
 clear hI
 have HW0 := Aside0.mk hB.size
 have HB := Aside0.mk hB
 clear hB
 have H := h
 clear h
 unfold spec_l72Rec.f at H
 obtain ⟨⟨t306, t307⟩, A20, H⟩ := Option.bind_eq_some_iff.mp H
 try dsimp only at H
 have A2 := Aside0.mk A20
 clear A20
 by_cases c3 : t306 = 0
 ·rw [if_pos c3] at H
  have c3b0 : (t306 == 0) = true := beq_iff_eq.mpr c3
  have c3b1 : (t306 != 0) = false := bne_eq_false_iff_eq.mpr c3
  clear c3
  obtain ⟨⟨t308, t309⟩, A40, H⟩ := Option.bind_eq_some_iff.mp H
  try dsimp only at H
  have A4 := Aside0.mk A40
  clear A40
  obtain ⟨t310, A50, H⟩ := Option.bind_eq_some_iff.mp H
  try dsimp only at H
  have A5 := Aside0.mk A50
  clear A50
  by_cases c6 : 5 + t310.size ≤ 9223372036854775807
  ·rw [if_pos c6] at H
   have c6b0 := eq_true c6
   have c6b1 : decide (5 + t310.size ≤ 9223372036854775807) = true := decide_eq_true c6
   try have c6b2 : (9223372036854775807 < 5 + t310.size) = False := eq_false (Nat.not_lt.2 c6)
   simp only [Option.some.injEq, Prod.mk.injEq] at H
   obtain ⟨rfl, rfl⟩ := H
   go_enter Try.func58, Try.ntmps58
   go_wp2_with (first | ((with_reducible refine gate_callee (f := 53) rfl ?_); refine zgo_ (some 4) Try.func53 #[.pointer (some ⟨g, 0, none⟩), .int .i64 8] ?_; (with_reducible refine (spec_l6Rd_pick.calls k g s0_0 s0_1 8 t306 t307 w0 _ ?side1 ?side2 A2.out).mono ?_); (case side1 => exact zz6); (case side2 => exact zz4); rintro e w7 ⟨rfl, hi, hb, hk⟩; refine ⟨_, rfl, ?_⟩; have n0_ := Aside0.mk (KeepBut.trans zz2 hk (.inl rfl)); have n1_ := Aside0.mk (hb); have n2_ := Aside0.mk (hi); clear HK; clear HB; clear HI0; have HK := n0_; have HB := n1_; have HI0 := n2_; clear n0_ n1_ n2_; (try clear hb); (try clear hb2); (try clear hk); (try clear hi)) | ((with_reducible refine gate_callee (f := 53) rfl ?_); refine zgo_ (some 8) Try.func53 #[.pointer (some ⟨g, 0, none⟩), .int .i64 30] ?_; (with_reducible refine (spec_l6Rd_pick.calls k g s0_0 t307 30 t308 t309 w0 _ ?side1 ?side2 A4.out).mono ?_); (case side1 => exact zz6); (case side2 => exact zz4); rintro e w8 ⟨rfl, hi, hb, hk⟩; refine ⟨_, rfl, ?_⟩; have n0_ := Aside0.mk (KeepBut.trans zz2 hk (.inl rfl)); have n1_ := Aside0.mk (hb); have n2_ := Aside0.mk (hi); clear HK; clear HB; clear HI0; have HK := n0_; have HB := n1_; have HI0 := n2_; clear n0_ n1_ n2_; (try clear hb); (try clear hb2); (try clear hk); (try clear hi)) | ((with_reducible refine gate_callee (f := 62) rfl ?_); refine zgo_ (some 9) Try.func62 #[.int .i64 t308] ?_; (with_reducible refine (spec_l6Dec.calls k t308 t310 _ A5.out).mono ?_); rintro e w9 ⟨rfl, hb⟩; refine ⟨_, rfl, ?_⟩; have n0_ := Aside0.mk (IsS84.below zz6 hb); have n1_ := Aside0.mk (KeepBut.trans zz2 (KeepBut.of_below hb g none) (.inl rfl)); have n2_ := Aside0.mk (below_step zz4 hb); clear HI0; clear HK; clear HB; have HI0 := n0_; have HK := n1_; have HB := n2_; clear n0_ n1_ n2_; (try clear hb); (try clear hb2); (try clear hk); (try clear hi)))
   go_ret
   exact ⟨by first | rfl | (simp [errW_none, errW_some] <;> rfl) | (simp [*, errW_none, errW_some] <;> rfl), by repeat (first | (with_reducible first | exact HI0.out | apply IsS84.alloc | apply IsS84.drewN | apply IsS84.drew | apply IsS84.set_1) | exact HI0.out), by repeat (first | (with_reducible first | exact HB.out | apply below_alloc | apply pw_below_drewN | apply below_drew1 | refine below_set ?_ (IsS84.ge HI0.out)) | exact HB.out), by repeat (first | (with_reducible first | exact HK.out | apply KeepBut.set_ | apply keep_drewN | apply keep_drew | apply keep_alloc) | exact HK.out)⟩
  ·rw [if_neg c6] at H
   exact absurd H (by simp)
 ·rw [if_neg c3] at H
  have c3b0 : (t306 == 0) = false := beq_eq_false_iff_ne.mpr c3
  have c3b1 : (t306 != 0) = true := bne_iff_ne.mpr c3
  by_cases c10 : t306 = 1
  ·rw [if_pos c10] at H
   have c10b0 : (t306 == 1) = true := beq_iff_eq.mpr c10
   have c10b1 : (t306 != 1) = false := bne_eq_false_iff_eq.mpr c10
   clear c10
   obtain ⟨⟨t311, t312⟩, A110, H⟩ := Option.bind_eq_some_iff.mp H
   try dsimp only at H
   have A11 := Aside0.mk A110
   clear A110
   obtain ⟨⟨t313, t314⟩, A120, H⟩ := Option.bind_eq_some_iff.mp H
   try dsimp only at H
   have A12 := Aside0.mk A120
   clear A120
   obtain ⟨⟨t315, t316⟩, A130, H⟩ := Option.bind_eq_some_iff.mp H
   try dsimp only at H
   have A13 := Aside0.mk A130
   clear A130
   obtain ⟨t317, A140, H⟩ := Option.bind_eq_some_iff.mp H
   try dsimp only at H
   have A14 := Aside0.mk A140
   clear A140
   by_cases c15 : 4 + t317.size ≤ 9223372036854775807
   ·rw [if_pos c15] at H
    have c15b0 := eq_true c15
    have c15b1 : decide (4 + t317.size ≤ 9223372036854775807) = true := decide_eq_true c15
    try have c15b2 : (9223372036854775807 < 4 + t317.size) = False := eq_false (Nat.not_lt.2 c15)
    simp only [Option.some.injEq, Prod.mk.injEq] at H
    obtain ⟨rfl, rfl⟩ := H
    go_enter Try.func58, Try.ntmps58
    go_wp2_with (first | ((with_reducible refine gate_callee (f := 53) rfl ?_); refine zgo_ (some 4) Try.func53 #[.pointer (some ⟨g, 0, none⟩), .int .i64 8] ?_; (with_reducible refine (spec_l6Rd_pick.calls k g s0_0 s0_1 8 t306 t307 w0 _ ?side1 ?side2 A2.out).mono ?_); (case side1 => exact zz6); (case side2 => exact zz4); rintro e w16 ⟨rfl, hi, hb, hk⟩; refine ⟨_, rfl, ?_⟩; have n0_ := Aside0.mk (KeepBut.trans zz2 hk (.inl rfl)); have n1_ := Aside0.mk (hb); have n2_ := Aside0.mk (hi); clear HK; clear HB; clear HI0; have HK := n0_; have HB := n1_; have HI0 := n2_; clear n0_ n1_ n2_; (try clear hb); (try clear hb2); (try clear hk); (try clear hi)) | ((with_reducible refine gate_callee (f := 53) rfl ?_); refine zgo_ (some 14) Try.func53 #[.pointer (some ⟨g, 0, none⟩), .int .i64 4] ?_; (with_reducible refine (spec_l6Rd_pick.calls k g s0_0 t307 4 t311 t312 w0 _ ?side1 ?side2 A11.out).mono ?_); (case side1 => exact zz6); (case side2 => exact zz4); rintro e w17 ⟨rfl, hi, hb, hk⟩; refine ⟨_, rfl, ?_⟩; have n0_ := Aside0.mk (KeepBut.trans zz2 hk (.inl rfl)); have n1_ := Aside0.mk (hb); have n2_ := Aside0.mk (hi); clear HK; clear HB; clear HI0; have HK := n0_; have HB := n1_; have HI0 := n2_; clear n0_ n1_ n2_; (try clear hb); (try clear hb2); (try clear hk); (try clear hi)) | ((with_reducible refine gate_callee (f := 53) rfl ?_); refine zgo_ (some 16) Try.func53 #[.pointer (some ⟨g, 0, none⟩), .int .i64 3] ?_; (with_reducible refine (spec_l6Rd_pick.calls k g s0_0 t312 3 t313 t314 w0 _ ?side1 ?side2 A12.out).mono ?_); (case side1 => exact zz6); (case side2 => exact zz4); rintro e w18 ⟨rfl, hi, hb, hk⟩; refine ⟨_, rfl, ?_⟩; have n0_ := Aside0.mk (KeepBut.trans zz2 hk (.inl rfl)); have n1_ := Aside0.mk (hb); have n2_ := Aside0.mk (hi); clear HK; clear HB; clear HI0; have HK := n0_; have HB := n1_; have HI0 := n2_; clear n0_ n1_ n2_; (try clear hb); (try clear hb2); (try clear hk); (try clear hi)) | ((with_reducible refine gate_callee (f := 53) rfl ?_); refine zgo_ (some 19) Try.func53 #[.pointer (some ⟨g, 0, none⟩), .int .i64 30] ?_; (with_reducible refine (spec_l6Rd_pick.calls k g s0_0 t314 30 t315 t316 w0 _ ?side1 ?side2 A13.out).mono ?_); (case side1 => exact zz6); (case side2 => exact zz4); rintro e w19 ⟨rfl, hi, hb, hk⟩; refine ⟨_, rfl, ?_⟩; have n0_ := Aside0.mk (KeepBut.trans zz2 hk (.inl rfl)); have n1_ := Aside0.mk (hb); have n2_ := Aside0.mk (hi); clear HK; clear HB; clear HI0; have HK := n0_; have HB := n1_; have HI0 := n2_; clear n0_ n1_ n2_; (try clear hb); (try clear hb2); (try clear hk); (try clear hi)) | ((with_reducible refine gate_callee (f := 64) rfl ?_); refine zgo_ (some 21) Try.func64 #[.int .i64 t311, .int .i64 (wrap64 (1 + t313)), .int .i64 (wrap64 (1 + t315))] ?_; (with_reducible refine (spec_l22Three.calls k t311 (wrap64 (1 + t313)) (wrap64 (1 + t315)) t317 _ A14.out).mono ?_); rintro e w20 ⟨rfl, hb⟩; refine ⟨_, rfl, ?_⟩; have n0_ := Aside0.mk (IsS84.below zz6 hb); have n1_ := Aside0.mk (KeepBut.trans zz2 (KeepBut.of_below hb g none) (.inl rfl)); have n2_ := Aside0.mk (below_step zz4 hb); clear HI0; clear HK; clear HB; have HI0 := n0_; have HK := n1_; have HB := n2_; clear n0_ n1_ n2_; (try clear hb); (try clear hb2); (try clear hk); (try clear hi)))
    go_ret
    exact ⟨by first | rfl | (simp [errW_none, errW_some] <;> rfl) | (simp [*, errW_none, errW_some] <;> rfl), by repeat (first | (with_reducible first | exact HI0.out | apply IsS84.alloc | apply IsS84.drewN | apply IsS84.drew | apply IsS84.set_1) | exact HI0.out), by repeat (first | (with_reducible first | exact HB.out | apply below_alloc | apply pw_below_drewN | apply below_drew1 | refine below_set ?_ (IsS84.ge HI0.out)) | exact HB.out), by repeat (first | (with_reducible first | exact HK.out | apply KeepBut.set_ | apply keep_drewN | apply keep_drew | apply keep_alloc) | exact HK.out)⟩
   ·rw [if_neg c15] at H
    exact absurd H (by simp)
  ·rw [if_neg c10] at H
   have c10b0 : (t306 == 1) = false := beq_eq_false_iff_ne.mpr c10
   have c10b1 : (t306 != 1) = true := bne_iff_ne.mpr c10
   by_cases c21 : t306 = 2
   ·rw [if_pos c21] at H
    have c21b0 : (t306 == 2) = true := beq_iff_eq.mpr c21
    have c21b1 : (t306 != 2) = false := bne_eq_false_iff_eq.mpr c21
    clear c21
    obtain ⟨⟨t318, t319⟩, A220, H⟩ := Option.bind_eq_some_iff.mp H
    try dsimp only at H
    have A22 := Aside0.mk A220
    clear A220
    obtain ⟨⟨t320, t321⟩, A230, H⟩ := Option.bind_eq_some_iff.mp H
    try dsimp only at H
    have A23 := Aside0.mk A230
    clear A230
    obtain ⟨⟨t322, t323⟩, A240, H⟩ := Option.bind_eq_some_iff.mp H
    try dsimp only at H
    have A24 := Aside0.mk A240
    clear A240
    obtain ⟨t324, A250, H⟩ := Option.bind_eq_some_iff.mp H
    try dsimp only at H
    have A25 := Aside0.mk A250
    clear A250
    by_cases c26 : 4 + t324.size ≤ 9223372036854775807
    ·rw [if_pos c26] at H
     have c26b0 := eq_true c26
     have c26b1 : decide (4 + t324.size ≤ 9223372036854775807) = true := decide_eq_true c26
     try have c26b2 : (9223372036854775807 < 4 + t324.size) = False := eq_false (Nat.not_lt.2 c26)
     simp only [Option.some.injEq, Prod.mk.injEq] at H
     obtain ⟨rfl, rfl⟩ := H
     go_enter Try.func58, Try.ntmps58
     go_wp2_with (first | ((with_reducible refine gate_callee (f := 53) rfl ?_); refine zgo_ (some 4) Try.func53 #[.pointer (some ⟨g, 0, none⟩), .int .i64 8] ?_; (with_reducible refine (spec_l6Rd_pick.calls k g s0_0 s0_1 8 t306 t307 w0 _ ?side1 ?side2 A2.out).mono ?_); (case side1 => exact zz6); (case side2 => exact zz4); rintro e w27 ⟨rfl, hi, hb, hk⟩; refine ⟨_, rfl, ?_⟩; have n0_ := Aside0.mk (KeepBut.trans zz2 hk (.inl rfl)); have n1_ := Aside0.mk (hb); have n2_ := Aside0.mk (hi); clear HK; clear HB; clear HI0; have HK := n0_; have HB := n1_; have HI0 := n2_; clear n0_ n1_ n2_; (try clear hb); (try clear hb2); (try clear hk); (try clear hi)) | ((with_reducible refine gate_callee (f := 53) rfl ?_); refine zgo_ (some 26) Try.func53 #[.pointer (some ⟨g, 0, none⟩), .int .i64 4] ?_; (with_reducible refine (spec_l6Rd_pick.calls k g s0_0 t307 4 t318 t319 w0 _ ?side1 ?side2 A22.out).mono ?_); (case side1 => exact zz6); (case side2 => exact zz4); rintro e w28 ⟨rfl, hi, hb, hk⟩; refine ⟨_, rfl, ?_⟩; have n0_ := Aside0.mk (KeepBut.trans zz2 hk (.inl rfl)); have n1_ := Aside0.mk (hb); have n2_ := Aside0.mk (hi); clear HK; clear HB; clear HI0; have HK := n0_; have HB := n1_; have HI0 := n2_; clear n0_ n1_ n2_; (try clear hb); (try clear hb2); (try clear hk); (try clear hi)) | ((with_reducible refine gate_callee (f := 53) rfl ?_); refine zgo_ (some 28) Try.func53 #[.pointer (some ⟨g, 0, none⟩), .int .i64 3] ?_; (with_reducible refine (spec_l6Rd_pick.calls k g s0_0 t319 3 t320 t321 w0 _ ?side1 ?side2 A23.out).mono ?_); (case side1 => exact zz6); (case side2 => exact zz4); rintro e w29 ⟨rfl, hi, hb, hk⟩; refine ⟨_, rfl, ?_⟩; have n0_ := Aside0.mk (KeepBut.trans zz2 hk (.inl rfl)); have n1_ := Aside0.mk (hb); have n2_ := Aside0.mk (hi); clear HK; clear HB; clear HI0; have HK := n0_; have HB := n1_; have HI0 := n2_; clear n0_ n1_ n2_; (try clear hb); (try clear hb2); (try clear hk); (try clear hi)) | ((with_reducible refine gate_callee (f := 53) rfl ?_); refine zgo_ (some 31) Try.func53 #[.pointer (some ⟨g, 0, none⟩), .int .i64 30] ?_; (with_reducible refine (spec_l6Rd_pick.calls k g s0_0 t321 30 t322 t323 w0 _ ?side1 ?side2 A24.out).mono ?_); (case side1 => exact zz6); (case side2 => exact zz4); rintro e w30 ⟨rfl, hi, hb, hk⟩; refine ⟨_, rfl, ?_⟩; have n0_ := Aside0.mk (KeepBut.trans zz2 hk (.inl rfl)); have n1_ := Aside0.mk (hb); have n2_ := Aside0.mk (hi); clear HK; clear HB; clear HI0; have HK := n0_; have HB := n1_; have HI0 := n2_; clear n0_ n1_ n2_; (try clear hb); (try clear hb2); (try clear hk); (try clear hi)) | ((with_reducible refine gate_callee (f := 64) rfl ?_); refine zgo_ (some 33) Try.func64 #[.int .i64 t318, .int .i64 (wrap64 (1 + t320)), .int .i64 (wrap64 (1 + t322))] ?_; (with_reducible refine (spec_l22Three.calls k t318 (wrap64 (1 + t320)) (wrap64 (1 + t322)) t324 _ A25.out).mono ?_); rintro e w31 ⟨rfl, hb⟩; refine ⟨_, rfl, ?_⟩; have n0_ := Aside0.mk (IsS84.below zz6 hb); have n1_ := Aside0.mk (KeepBut.trans zz2 (KeepBut.of_below hb g none) (.inl rfl)); have n2_ := Aside0.mk (below_step zz4 hb); clear HI0; clear HK; clear HB; have HI0 := n0_; have HK := n1_; have HB := n2_; clear n0_ n1_ n2_; (try clear hb); (try clear hb2); (try clear hk); (try clear hi)))
     go_ret
     exact ⟨by first | rfl | (simp [errW_none, errW_some] <;> rfl) | (simp [*, errW_none, errW_some] <;> rfl), by repeat (first | (with_reducible first | exact HI0.out | apply IsS84.alloc | apply IsS84.drewN | apply IsS84.drew | apply IsS84.set_1) | exact HI0.out), by repeat (first | (with_reducible first | exact HB.out | apply below_alloc | apply pw_below_drewN | apply below_drew1 | refine below_set ?_ (IsS84.ge HI0.out)) | exact HB.out), by repeat (first | (with_reducible first | exact HK.out | apply KeepBut.set_ | apply keep_drewN | apply keep_drew | apply keep_alloc) | exact HK.out)⟩
    ·rw [if_neg c26] at H
     exact absurd H (by simp)
   ·rw [if_neg c21] at H
    have c21b0 : (t306 == 2) = false := beq_eq_false_iff_ne.mpr c21
    have c21b1 : (t306 != 2) = true := bne_iff_ne.mpr c21
    by_cases c32 : t306 = 3
    ·rw [if_pos c32] at H
     have c32b0 : (t306 == 3) = true := beq_iff_eq.mpr c32
     have c32b1 : (t306 != 3) = false := bne_eq_false_iff_eq.mpr c32
     clear c32
     obtain ⟨t325, A330, H⟩ := Option.bind_eq_some_iff.mp H
     try dsimp only at H
     have A33 := Aside0.mk A330
     clear A330
     obtain ⟨t326, A340, H⟩ := Option.bind_eq_some_iff.mp H
     try dsimp only at H
     have A34 := Aside0.mk A340
     clear A340
     obtain ⟨y327, hy327⟩ : ∃ y_ : List ByteArray, y_ = (([(⟨#[]⟩ : ByteArray), (⟨#[119, 104, 97, 116]⟩ : ByteArray), (⟨#[116, 105, 109, 101]⟩ : ByteArray), (⟨#[116, 105, 109, 101, 32, 48]⟩ : ByteArray), (⟨#[116, 105, 109, 101, 32, 48, 49]⟩ : ByteArray), (⟨#[110, 101, 120, 116, 32, 51]⟩ : ByteArray), (⟨#[110, 101, 120, 116, 32, 49]⟩ : ByteArray), (⟨#[109, 97, 114, 107, 32, 48, 32, 49, 32, 53]⟩ : ByteArray), (⟨#[109, 97, 114, 107, 32, 48, 32, 49]⟩ : ByteArray), (⟨#[109, 97, 114, 107, 32, 48, 32, 49, 32, 53, 32]⟩ : ByteArray), (⟨#[104, 101, 108, 100, 32, 48, 32, 49, 32, 50, 32, 57, 32, 120]⟩ : ByteArray), (⟨#[105, 110, 98, 111, 120, 32, 48, 32, 49, 32, 50, 32, 57, 32, 120]⟩ : ByteArray), t325, t326] : List ByteArray)) := ⟨_, rfl⟩
     replace H : ((spec_l6Rd_of.f k s0_0 t307 y327).bind fun bt330 => (some (bt330.1, bt330.2))) = some (r1, r2) := by first | (rw [hy327]; with_reducible exact H) | (have H2_ := (Option.bind_some _ _).symm.trans H; rw [hy327]; with_reducible exact H2_) | (have H2_ := (Option.bind_some _ _).symm.trans H; with_reducible exact H2_) | with_reducible exact H | (rw [hy327]; exact H) | exact H
     have Ny327 := Aside0.mk hy327
     clear hy327
     obtain ⟨⟨t330, t331⟩, A350, H⟩ := Option.bind_eq_some_iff.mp H
     try dsimp only at H
     have A35 := Aside0.mk A350
     clear A350
     simp only [Option.some.injEq, Prod.mk.injEq] at H
     obtain ⟨rfl, rfl⟩ := H
     go_enter Try.func58, Try.ntmps58
     go_wp2_with (first | ((with_reducible refine gate_callee (f := 53) rfl ?_); refine zgo_ (some 4) Try.func53 #[.pointer (some ⟨g, 0, none⟩), .int .i64 8] ?_; (with_reducible refine (spec_l6Rd_pick.calls k g s0_0 s0_1 8 t306 t307 w0 _ ?side1 ?side2 A2.out).mono ?_); (case side1 => exact zz6); (case side2 => exact zz4); rintro e w36 ⟨rfl, hi, hb, hk⟩; refine ⟨_, rfl, ?_⟩; have n0_ := Aside0.mk (KeepBut.trans zz2 hk (.inl rfl)); have n1_ := Aside0.mk (hb); have n2_ := Aside0.mk (hi); clear HK; clear HB; clear HI0; have HK := n0_; have HB := n1_; have HI0 := n2_; clear n0_ n1_ n2_; (try clear hb); (try clear hb2); (try clear hk); (try clear hi)) | ((with_reducible refine gate_callee (f := 60) rfl ?_); refine zgo_ (some 38) Try.func60 #[.string (⟨#[122]⟩ : ByteArray), .int .i64 60] ?_; (with_reducible refine (spec_l6Many.calls k (⟨#[122]⟩ : ByteArray) 60 t325 _ A33.out).mono ?_); rintro e w' ⟨rfl, ⟨nd, rfl⟩⟩; refine ⟨_, rfl, ?_⟩) | ((with_reducible refine gate_callee (f := 60) rfl ?_); refine zgo_ (some 39) Try.func60 #[.string (⟨#[122]⟩ : ByteArray), .int .i64 61] ?_; (with_reducible refine (spec_l6Many.calls k (⟨#[122]⟩ : ByteArray) 61 t326 _ A34.out).mono ?_); rintro e w' ⟨rfl, ⟨nd, rfl⟩⟩; refine ⟨_, rfl, ?_⟩) | ((with_reducible refine gate_dst (N := 40) rfl ?_); refine Kd.R_lit Kd.string _ 9 ?hg (N := 40) ?hd (xs := ([(⟨#[]⟩ : ByteArray), (⟨#[119, 104, 97, 116]⟩ : ByteArray), (⟨#[116, 105, 109, 101]⟩ : ByteArray), (⟨#[116, 105, 109, 101, 32, 48]⟩ : ByteArray), (⟨#[116, 105, 109, 101, 32, 48, 49]⟩ : ByteArray), (⟨#[110, 101, 120, 116, 32, 51]⟩ : ByteArray), (⟨#[110, 101, 120, 116, 32, 49]⟩ : ByteArray), (⟨#[109, 97, 114, 107, 32, 48, 32, 49, 32, 53]⟩ : ByteArray), (⟨#[109, 97, 114, 107, 32, 48, 32, 49]⟩ : ByteArray), (⟨#[109, 97, 114, 107, 32, 48, 32, 49, 32, 53, 32]⟩ : ByteArray), (⟨#[104, 101, 108, 100, 32, 48, 32, 49, 32, 50, 32, 57, 32, 120]⟩ : ByteArray), (⟨#[105, 110, 98, 111, 120, 32, 48, 32, 49, 32, 50, 32, 57, 32, 120]⟩ : ByteArray), t325, t326] : List ByteArray)) (inner := [.string (⟨#[]⟩ : ByteArray), .string (⟨#[119, 104, 97, 116]⟩ : ByteArray), .string (⟨#[116, 105, 109, 101]⟩ : ByteArray), .string (⟨#[116, 105, 109, 101, 32, 48]⟩ : ByteArray), .string (⟨#[116, 105, 109, 101, 32, 48, 49]⟩ : ByteArray), .string (⟨#[110, 101, 120, 116, 32, 51]⟩ : ByteArray), .string (⟨#[110, 101, 120, 116, 32, 49]⟩ : ByteArray), .string (⟨#[109, 97, 114, 107, 32, 48, 32, 49, 32, 53]⟩ : ByteArray), .string (⟨#[109, 97, 114, 107, 32, 48, 32, 49]⟩ : ByteArray), .string (⟨#[109, 97, 114, 107, 32, 48, 32, 49, 32, 53, 32]⟩ : ByteArray), .string (⟨#[104, 101, 108, 100, 32, 48, 32, 49, 32, 50, 32, 57, 32, 120]⟩ : ByteArray), .string (⟨#[105, 110, 98, 111, 120, 32, 48, 32, 49, 32, 50, 32, 57, 32, 120]⟩ : ByteArray), .string t325, .string t326]) (ok := fun _ => True) (okp := fun _ => True) ?hr ?hp (fun _ hk => hk) trivial (Below.refl _ _) (Nat.le_refl _) (by simp) ?_; (case hd => rfl); (case hg => rfl); (case hr => first | (go_simp; done) | (go_simp; rfl)); (case hp => exact (Reps.one (show Kd.M Kd.string _ _ _ (⟨#[]⟩ : ByteArray) [.string (⟨#[]⟩ : ByteArray)] from rfl) (Reps.one (show Kd.M Kd.string _ _ _ (⟨#[119, 104, 97, 116]⟩ : ByteArray) [.string (⟨#[119, 104, 97, 116]⟩ : ByteArray)] from rfl) (Reps.one (show Kd.M Kd.string _ _ _ (⟨#[116, 105, 109, 101]⟩ : ByteArray) [.string (⟨#[116, 105, 109, 101]⟩ : ByteArray)] from rfl) (Reps.one (show Kd.M Kd.string _ _ _ (⟨#[116, 105, 109, 101, 32, 48]⟩ : ByteArray) [.string (⟨#[116, 105, 109, 101, 32, 48]⟩ : ByteArray)] from rfl) (Reps.one (show Kd.M Kd.string _ _ _ (⟨#[116, 105, 109, 101, 32, 48, 49]⟩ : ByteArray) [.string (⟨#[116, 105, 109, 101, 32, 48, 49]⟩ : ByteArray)] from rfl) (Reps.one (show Kd.M Kd.string _ _ _ (⟨#[110, 101, 120, 116, 32, 51]⟩ : ByteArray) [.string (⟨#[110, 101, 120, 116, 32, 51]⟩ : ByteArray)] from rfl) (Reps.one (show Kd.M Kd.string _ _ _ (⟨#[110, 101, 120, 116, 32, 49]⟩ : ByteArray) [.string (⟨#[110, 101, 120, 116, 32, 49]⟩ : ByteArray)] from rfl) (Reps.one (show Kd.M Kd.string _ _ _ (⟨#[109, 97, 114, 107, 32, 48, 32, 49, 32, 53]⟩ : ByteArray) [.string (⟨#[109, 97, 114, 107, 32, 48, 32, 49, 32, 53]⟩ : ByteArray)] from rfl) (Reps.one (show Kd.M Kd.string _ _ _ (⟨#[109, 97, 114, 107, 32, 48, 32, 49]⟩ : ByteArray) [.string (⟨#[109, 97, 114, 107, 32, 48, 32, 49]⟩ : ByteArray)] from rfl) (Reps.one (show Kd.M Kd.string _ _ _ (⟨#[109, 97, 114, 107, 32, 48, 32, 49, 32, 53, 32]⟩ : ByteArray) [.string (⟨#[109, 97, 114, 107, 32, 48, 32, 49, 32, 53, 32]⟩ : ByteArray)] from rfl) (Reps.one (show Kd.M Kd.string _ _ _ (⟨#[104, 101, 108, 100, 32, 48, 32, 49, 32, 50, 32, 57, 32, 120]⟩ : ByteArray) [.string (⟨#[104, 101, 108, 100, 32, 48, 32, 49, 32, 50, 32, 57, 32, 120]⟩ : ByteArray)] from rfl) (Reps.one (show Kd.M Kd.string _ _ _ (⟨#[105, 110, 98, 111, 120, 32, 48, 32, 49, 32, 50, 32, 57, 32, 120]⟩ : ByteArray) [.string (⟨#[105, 110, 98, 111, 120, 32, 48, 32, 49, 32, 50, 32, 57, 32, 120]⟩ : ByteArray)] from rfl) (Reps.one (show Kd.M Kd.string _ _ _ t325 [.string t325] from rfl) (Reps.one (show Kd.M Kd.string _ _ _ t326 [.string t326] from rfl) (Reps.none _ _)))))))))))))))); intro v328 w37 ho38 hb hg_ hnew_; clear hg_ hnew_; (first | rw [← Ny327.out] at ho38 | (simp only [Int.reduceToNat] at ho38; rw [← Ny327.out] at ho38)); have n0_ := Aside0.mk (Kd.R_lower ho38 (keep_size (w := w) (g := g) (row := none) zz2)); have n1_ := Aside0.mk (IsS84.below zz6 hb); have n2_ := Aside0.mk (KeepBut.trans zz2 (KeepBut.of_below hb g none) (.inl rfl)); have n3_ := Aside0.mk (below_step zz4 hb); clear HI0; clear HK; clear HB; have HO329 := n0_; have HI0 := n1_; have HK := n2_; have HB := n3_; clear n0_ n1_ n2_ n3_; clear hb ho38; obtain ⟨Ao39, co39, eo39⟩ := Kd.R_slice HO329.out; subst eo39) | ((with_reducible refine gate_callee (f := 61) rfl ?_); refine zgo_ (some 41) Try.func61 #[.pointer (some ⟨g, 0, none⟩), .slice Ao39 y327.length co39] ?_; (with_reducible refine (spec_l6Rd_of.calls k g s0_0 t307 _ _ y327 t330 t331 w0 _ ?side1 ?side2 ?side3 ?side4 ?side5 A35.out).mono ?_); (case side1 => exact zz6); (case side2 => exact zz4); (case side3 => exact (by repeat (first | exact (Kd.R_reads' HO329.out).2.2 | (with_reducible refine Kd.C_alloc ?_ _) | (with_reducible refine Kd.C_drewN ?_ _) | (with_reducible refine Kd.C_drew ?_)))); (case side4 => exact (Kd.R_reads' HO329.out).2.1); (case side5 => exact far_slice (IsS84.own_ne HI0.out HO329.out (by decide))); rintro e w40 ⟨rfl, hi, hb, hk⟩; refine ⟨_, rfl, ?_⟩; have n0_ := Aside0.mk (Kd.R_mono (Kd.R_keep (IsS84.apart (show IsS84 w0 _ g s0_0 t307 from by repeat (first | (with_reducible first | exact HI0.out | apply IsS84.alloc | apply IsS84.drewN | apply IsS84.drew | apply IsS84.set_1) | exact HI0.out)) (by (with_reducible repeat (first | apply Kd.R_alloc | apply Kd.R_drewN | apply Kd.R_drew)); exact HO329.out) (by decide)) hk (fun _ h => h.2)) (fun _ h => h.1)); have n1_ := Aside0.mk (KeepBut.trans zz2 hk (.inl rfl)); have n2_ := Aside0.mk (hb); have n3_ := Aside0.mk (hi); clear HO329; clear HK; clear HB; clear HI0; have HO329 := n0_; have HK := n1_; have HB := n2_; have HI0 := n3_; clear n0_ n1_ n2_ n3_; (try clear hb); (try clear hb2); (try clear hk); (try clear hi)))
     go_ret
     exact ⟨by first | rfl | (simp [errW_none, errW_some] <;> rfl) | (simp [*, errW_none, errW_some] <;> rfl), by repeat (first | (with_reducible first | exact HI0.out | apply IsS84.alloc | apply IsS84.drewN | apply IsS84.drew | apply IsS84.set_1) | exact HI0.out), by repeat (first | (with_reducible first | exact HB.out | apply below_alloc | apply pw_below_drewN | apply below_drew1 | refine below_set ?_ (IsS84.ge HI0.out)) | exact HB.out), by repeat (first | (with_reducible first | exact HK.out | apply KeepBut.set_ | apply keep_drewN | apply keep_drew | apply keep_alloc) | exact HK.out)⟩
    ·rw [if_neg c32] at H
     have c32b0 : (t306 == 3) = false := beq_eq_false_iff_ne.mpr c32
     have c32b1 : (t306 != 3) = true := bne_iff_ne.mpr c32
     obtain ⟨y332, hy332⟩ : ∃ y_ : List ByteArray, y_ = (([(⟨#[111, 119, 110, 32]⟩ : ByteArray), (⟨#[116, 97, 107, 101, 32]⟩ : ByteArray), (⟨#[116, 97, 107, 101, 32]⟩ : ByteArray), (⟨#[104, 101, 108, 100, 32]⟩ : ByteArray), (⟨#[105, 110, 98, 111, 120, 32]⟩ : ByteArray)] : List ByteArray)) := ⟨_, rfl⟩
     replace H : ((spec_l6Rd_of.f k s0_0 t307 y332).bind fun bt335 => ((spec_l72Note.f k s0_0 bt335.2).bind fun bt337 => ((spec_NoteWrite.f k bt337.1 bt337.2.1 bt337.2.2.1 bt337.2.2.2.1 bt337.2.2.2.2.1).bind fun t343 => (if bt335.1.size + t343.size ≤ 9223372036854775807 then (some (bt335.1 ++ t343, bt337.2.2.2.2.2)) else (none))))) = some (r1, r2) := by first | (rw [hy332]; with_reducible exact H) | (have H2_ := (Option.bind_some _ _).symm.trans H; rw [hy332]; with_reducible exact H2_) | (have H2_ := (Option.bind_some _ _).symm.trans H; with_reducible exact H2_) | with_reducible exact H | (rw [hy332]; exact H) | exact H
     have Ny332 := Aside0.mk hy332
     clear hy332
     obtain ⟨⟨t335, t336⟩, A410, H⟩ := Option.bind_eq_some_iff.mp H
     try dsimp only at H
     have A41 := Aside0.mk A410
     clear A410
     obtain ⟨⟨t337, t338, t339, t340, t341, t342⟩, A420, H⟩ := Option.bind_eq_some_iff.mp H
     try dsimp only at H
     have A42 := Aside0.mk A420
     clear A420
     obtain ⟨t343, A430, H⟩ := Option.bind_eq_some_iff.mp H
     try dsimp only at H
     have A43 := Aside0.mk A430
     clear A430
     by_cases c44 : t335.size + t343.size ≤ 9223372036854775807
     ·rw [if_pos c44] at H
      have c44b0 := eq_true c44
      have c44b1 : decide (t335.size + t343.size ≤ 9223372036854775807) = true := decide_eq_true c44
      try have c44b2 : (9223372036854775807 < t335.size + t343.size) = False := eq_false (Nat.not_lt.2 c44)
      simp only [Option.some.injEq, Prod.mk.injEq] at H
      obtain ⟨rfl, rfl⟩ := H
      go_enter Try.func58, Try.ntmps58
      go_wp2_with (first | ((with_reducible refine gate_callee (f := 53) rfl ?_); refine zgo_ (some 4) Try.func53 #[.pointer (some ⟨g, 0, none⟩), .int .i64 8] ?_; (with_reducible refine (spec_l6Rd_pick.calls k g s0_0 s0_1 8 t306 t307 w0 _ ?side1 ?side2 A2.out).mono ?_); (case side1 => exact zz6); (case side2 => exact zz4); rintro e w45 ⟨rfl, hi, hb, hk⟩; refine ⟨_, rfl, ?_⟩; have n0_ := Aside0.mk (KeepBut.trans zz2 hk (.inl rfl)); have n1_ := Aside0.mk (hb); have n2_ := Aside0.mk (hi); clear HK; clear HB; clear HI0; have HK := n0_; have HB := n1_; have HI0 := n2_; clear n0_ n1_ n2_; (try clear hb); (try clear hb2); (try clear hk); (try clear hi)) | ((with_reducible refine gate_dst (N := 43) rfl ?_); refine Kd.R_lit Kd.string _ 9 ?hg (N := 43) ?hd (xs := ([(⟨#[111, 119, 110, 32]⟩ : ByteArray), (⟨#[116, 97, 107, 101, 32]⟩ : ByteArray), (⟨#[116, 97, 107, 101, 32]⟩ : ByteArray), (⟨#[104, 101, 108, 100, 32]⟩ : ByteArray), (⟨#[105, 110, 98, 111, 120, 32]⟩ : ByteArray)] : List ByteArray)) (inner := [.string (⟨#[111, 119, 110, 32]⟩ : ByteArray), .string (⟨#[116, 97, 107, 101, 32]⟩ : ByteArray), .string (⟨#[116, 97, 107, 101, 32]⟩ : ByteArray), .string (⟨#[104, 101, 108, 100, 32]⟩ : ByteArray), .string (⟨#[105, 110, 98, 111, 120, 32]⟩ : ByteArray)]) (ok := fun _ => True) (okp := fun _ => True) ?hr ?hp (fun _ hk => hk) trivial (Below.refl _ _) (Nat.le_refl _) (by simp) ?_; (case hd => rfl); (case hg => rfl); (case hr => first | (go_simp; done) | (go_simp; rfl)); (case hp => exact (Reps.one (show Kd.M Kd.string _ _ _ (⟨#[111, 119, 110, 32]⟩ : ByteArray) [.string (⟨#[111, 119, 110, 32]⟩ : ByteArray)] from rfl) (Reps.one (show Kd.M Kd.string _ _ _ (⟨#[116, 97, 107, 101, 32]⟩ : ByteArray) [.string (⟨#[116, 97, 107, 101, 32]⟩ : ByteArray)] from rfl) (Reps.one (show Kd.M Kd.string _ _ _ (⟨#[116, 97, 107, 101, 32]⟩ : ByteArray) [.string (⟨#[116, 97, 107, 101, 32]⟩ : ByteArray)] from rfl) (Reps.one (show Kd.M Kd.string _ _ _ (⟨#[104, 101, 108, 100, 32]⟩ : ByteArray) [.string (⟨#[104, 101, 108, 100, 32]⟩ : ByteArray)] from rfl) (Reps.one (show Kd.M Kd.string _ _ _ (⟨#[105, 110, 98, 111, 120, 32]⟩ : ByteArray) [.string (⟨#[105, 110, 98, 111, 120, 32]⟩ : ByteArray)] from rfl) (Reps.none _ _))))))); intro v333 w46 ho47 hb hg_ hnew_; clear hg_ hnew_; (first | rw [← Ny332.out] at ho47 | (simp only [Int.reduceToNat] at ho47; rw [← Ny332.out] at ho47)); have n0_ := Aside0.mk (Kd.R_lower ho47 (keep_size (w := w) (g := g) (row := none) zz2)); have n1_ := Aside0.mk (IsS84.below zz6 hb); have n2_ := Aside0.mk (KeepBut.trans zz2 (KeepBut.of_below hb g none) (.inl rfl)); have n3_ := Aside0.mk (below_step zz4 hb); clear HI0; clear HK; clear HB; have HO334 := n0_; have HI0 := n1_; have HK := n2_; have HB := n3_; clear n0_ n1_ n2_ n3_; clear hb ho47; obtain ⟨Ao48, co48, eo48⟩ := Kd.R_slice HO334.out; subst eo48) | ((with_reducible refine gate_callee (f := 61) rfl ?_); refine zgo_ (some 44) Try.func61 #[.pointer (some ⟨g, 0, none⟩), .slice Ao48 y332.length co48] ?_; (with_reducible refine (spec_l6Rd_of.calls k g s0_0 t307 _ _ y332 t335 t336 w0 _ ?side1 ?side2 ?side3 ?side4 ?side5 A41.out).mono ?_); (case side1 => exact zz6); (case side2 => exact zz4); (case side3 => exact (by repeat (first | exact (Kd.R_reads' HO334.out).2.2 | (with_reducible refine Kd.C_alloc ?_ _) | (with_reducible refine Kd.C_drewN ?_ _) | (with_reducible refine Kd.C_drew ?_)))); (case side4 => exact (Kd.R_reads' HO334.out).2.1); (case side5 => exact far_slice (IsS84.own_ne HI0.out HO334.out (by decide))); rintro e w49 ⟨rfl, hi, hb, hk⟩; refine ⟨_, rfl, ?_⟩; have n0_ := Aside0.mk (Kd.R_mono (Kd.R_keep (IsS84.apart (show IsS84 w0 _ g s0_0 t307 from by repeat (first | (with_reducible first | exact HI0.out | apply IsS84.alloc | apply IsS84.drewN | apply IsS84.drew | apply IsS84.set_1) | exact HI0.out)) zz66 (by decide)) hk (fun _ h => h.2)) (fun _ h => h.1)); have n1_ := Aside0.mk (KeepBut.trans zz2 hk (.inl rfl)); have n2_ := Aside0.mk (hb); have n3_ := Aside0.mk (hi); clear HO334; clear HK; clear HB; clear HI0; have HO334 := n0_; have HK := n1_; have HB := n2_; have HI0 := n3_; clear n0_ n1_ n2_ n3_; (try clear hb); (try clear hb2); (try clear hk); (try clear hi)) | ((with_reducible refine gate_callee (f := 66) rfl ?_); refine zgo_ (some 46) Try.func66 #[.pointer (some ⟨g, 0, none⟩)] ?_; (with_reducible refine (spec_l72Note.calls k g s0_0 t336 t337 t338 t339 t340 t341 t342 w0 _ ?side1 ?side2 A42.out).mono ?_); (case side1 => exact zz6); (case side2 => exact zz4); rintro e w50 ⟨rfl, hi, hb, hk⟩; refine ⟨_, rfl, ?_⟩; have n0_ := Aside0.mk (Kd.R_mono (Kd.R_keep (IsS84.apart (show IsS84 w0 _ g s0_0 t336 from by repeat (first | (with_reducible first | exact HI0.out | apply IsS84.alloc | apply IsS84.drewN | apply IsS84.drew | apply IsS84.set_1) | exact HI0.out)) zz66 (by decide)) hk (fun _ h => h.2)) (fun _ h => h.1)); have n1_ := Aside0.mk (KeepBut.trans zz2 hk (.inl rfl)); have n2_ := Aside0.mk (hb); have n3_ := Aside0.mk (hi); clear HO334; clear HK; clear HB; clear HI0; have HO334 := n0_; have HK := n1_; have HB := n2_; have HI0 := n3_; clear n0_ n1_ n2_ n3_; (try clear hb); (try clear hb2); (try clear hk); (try clear hi)) | ((with_reducible refine gate_callee (f := 65) rfl ?_); refine zgo_ (some 47) Try.func65 #[.agg #[.int .i64 t337, .int .i64 t338, .int .i64 t339, .int .i64 t340, .string t341]] ?_; (with_reducible refine (spec_NoteWrite.calls k t337 t338 t339 t340 t341 t343 _ A43.out).mono ?_); rintro e w51 ⟨rfl, hb⟩; refine ⟨_, rfl, ?_⟩; have n0_ := Aside0.mk (Kd.R_below zz66 hb); have n1_ := Aside0.mk (IsS84.below zz6 hb); have n2_ := Aside0.mk (KeepBut.trans zz2 (KeepBut.of_below hb g none) (.inl rfl)); have n3_ := Aside0.mk (below_step zz4 hb); clear HO334; clear HI0; clear HK; clear HB; have HO334 := n0_; have HI0 := n1_; have HK := n2_; have HB := n3_; clear n0_ n1_ n2_ n3_; (try clear hb); (try clear hb2); (try clear hk); (try clear hi)))
      go_ret
      exact ⟨by first | rfl | (simp [errW_none, errW_some] <;> rfl) | (simp [*, errW_none, errW_some] <;> rfl), by repeat (first | (with_reducible first | exact HI0.out | apply IsS84.alloc | apply IsS84.drewN | apply IsS84.drew | apply IsS84.set_1) | exact HI0.out), by repeat (first | (with_reducible first | exact HB.out | apply below_alloc | apply pw_below_drewN | apply below_drew1 | refine below_set ?_ (IsS84.ge HI0.out)) | exact HB.out), by repeat (first | (with_reducible first | exact HK.out | apply KeepBut.set_ | apply keep_drewN | apply keep_drew | apply keep_alloc) | exact HK.out)⟩
     ·rw [if_neg c44] at H
      exact absurd H (by simp)

end Go.Proofs.Ytdgigadocempdaa.PFnShelfFall
