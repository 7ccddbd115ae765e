/- What the Go functions that a law reaches compute, function by function: the machine's calls come to just what these Lean functions say. No condition. Written by a program of this session. -/
import Derived.Test.YtdgigadocempdaaPFnShelfFallx0
import Derived.Test.YtdgigadocempdaaPFnShelfFallx5
import Derived.Test.YtdgigadocempdaaPFnShelfFallx12
namespace Go.Proofs.Ytdgigadocempdaa.PFnShelfFall
open Go.RowKit Go.Proofs.YtdgigadocempdaaW.PrintWords Go.Proofs.YtdgigadocempdaaW.PrintLast Go.Proofs.YtdgigadocempdaaW.PrintMore
attribute [local go_sem] max2_int min2_int max_two min_two max_three min_three max_four min_four   -- for this text's walks alone
set_option linter.unusedVariables false
set_option linter.unusedSimpArgs false

/-! ### spec_l6Open: function 51 -/
def spec_l6Open.f (l0 : List Int) : Option (List Int × Int) := if (l0.length : Int) > 2000 then (if 2000 ≤ (l0.length : Int) then (some (l0.take 2000, 0)) else (none)) else (some (l0, 0))
set_option maxHeartbeats 8000000 in
set_option maxRecDepth 100000 in
theorem spec_l6Open.calls (A0 : Option Addr) (c0 : Nat) (l0 : List Int) (r1 : List Int) (r2 : Int) (w0 w : World) (hB : Below w0.heap.size w0 w) (hr0 : Kd.C (Kd.int .u8) w0 A0 l0.length l0) (hc0 : l0.length ≤ c0) (h : spec_l6Open.f l0 = some (r1, r2)) :
  Calls Try.prog 51 #[.slice A0 l0.length c0] w fun e w' => ∃ g_ : Nat, e = .returned (.pointer (some ⟨g_, 0, none⟩)) ∧ IsS84 w0 w' g_ r1 r2 ∧ Below w0.heap.size w0 w' ∧ Below w.heap.size w w' := by
 have hu84 := Try.underlying84
 have HR0 := Aside0.mk hr0
 have HC0 := Aside0.mk hc0
 clear hr0 hc0
 have HBW := Aside0.mk (Below.refl w.heap.size w)
 have HW0 := Aside0.mk hB.size
 have HB := Aside0.mk hB
 clear hB
 have H := h
 clear h
 unfold spec_l6Open.f at H
 by_cases c2 : (l0.length : Int) > 2000
 ·rw [if_pos c2] at H
  have c2b0 : decide (2000 < (l0.length : Int)) = true := decide_eq_true c2
  have c2b1 : decide (2000 < l0.length) = true := decide_eq_true (by omega)
  clear c2
  by_cases c3 : 2000 ≤ (l0.length : Int)
  ·rw [if_pos c3] at H
   have c3b0 := eq_true c3
   have c3b1 : decide (2000 ≤ (l0.length : Int)) = true := decide_eq_true c3
   clear c3
   simp only [Option.some.injEq, Prod.mk.injEq] at H
   obtain ⟨rfl, rfl⟩ := H
   obtain ⟨i04, hi04, _, hsz4, _⟩ := info_parts info5
   obtain ⟨hcut4, hA4, hC4⟩ := print_take_of (P := Try.prog) (Value.int .u8) 0 47 5 .i64 Try.underlying47 hi04 hsz4 A0 c0 l0 2000 (by omega) (of_decide_eq_true zz14) HC0.out
   have HR375 := Aside0.mk (Kd.C_of_reads (h1 := fun _ => rfl) (hA4 _ (Kd.reads_of_C HR0.out)))
   have HC375 := Aside0.mk hC4
   clear hA4 hC4 hi04 hsz4
   go_enter Try.func51, Try.ntmps51
   go_wp2_with (first | ((with_reducible refine gate_dst (N := 10) rfl ?_); refine box_event ?hg (N := 10) ?hd (cs := #[.slice A0 (l0.take 2000).length c0, .int .i64 0]) (t := 84) ?hr ?_; (case hd => rfl); (case hg => rfl); (case hr => first | (go_simp; done) | (go_simp; rfl)); intro gb376 hg w5 hbox hb; have n0_ := Aside0.mk (below_step HBW.out hb); have n1_ := Aside0.mk (below_step zz1 hb); have n2_ := Aside0.mk (hbox); have n3_ := Aside0.mk ((by rw [hg]; exact (below_size zz56) : w.heap.size ≤ gb376)); have n4_ := Aside0.mk ((Nat.le_trans HW0.out (by rw [hg]; exact (below_size zz56) : w.heap.size ≤ gb376) : w0.heap.size ≤ gb376)); clear HBW; clear HB; have HBW := n0_; have HB := n1_; have BK376 := n2_; have GW376 := n3_; have GE376 := n4_; clear n0_ n1_ n2_ n3_ n4_; clear hb hbox hg))
   go_ret
   exact ⟨_, rfl, (show IsS84 w0 _ gb376 (l0.take 2000) 0 from ⟨_, _, by (with_reducible repeat (first | refine blk_drewN ?_ _ | refine blk_drew ?_ | refine blk_alloc ?_ _)); exact BK376.out, GE376.out, HR375.out⟩), by repeat (first | (with_reducible first | exact HB.out | apply below_alloc | apply pw_below_drewN | apply below_drew1 | refine below_set ?_ GE376.out) | exact HB.out), by repeat (first | (with_reducible first | exact HBW.out | apply below_alloc | apply pw_below_drewN | apply below_drew1 | refine below_set ?_ GW376.out) | exact HBW.out)⟩
  ·rw [if_neg c3] at H
   exact absurd H (by simp)
 ·rw [if_neg c2] at H
  have c2b0 : decide (2000 < (l0.length : Int)) = false := decide_eq_false c2
  have c2b1 : decide (2000 < l0.length) = false := decide_eq_false (by omega)
  clear c2
  simp only [Option.some.injEq, Prod.mk.injEq] at H
  obtain ⟨rfl, rfl⟩ := H
  go_enter Try.func51, Try.ntmps51
  go_wp2_with (first | ((with_reducible refine gate_dst (N := 10) rfl ?_); refine box_event ?hg (N := 10) ?hd (cs := #[.slice A0 l0.length c0, .int .i64 0]) (t := 84) ?hr ?_; (case hd => rfl); (case hg => rfl); (case hr => first | (go_simp; done) | (go_simp; rfl)); intro gb377 hg w6 hbox hb; have n0_ := Aside0.mk (below_step HBW.out hb); have n1_ := Aside0.mk (below_step zz1 hb); have n2_ := Aside0.mk (hbox); have n3_ := Aside0.mk ((by rw [hg]; exact (below_size zz56) : w.heap.size ≤ gb377)); have n4_ := Aside0.mk ((Nat.le_trans HW0.out (by rw [hg]; exact (below_size zz56) : w.heap.size ≤ gb377) : w0.heap.size ≤ gb377)); clear HBW; clear HB; have HBW := n0_; have HB := n1_; have BK377 := n2_; have GW377 := n3_; have GE377 := n4_; clear n0_ n1_ n2_ n3_ n4_; clear hb hbox hg))
  go_ret
  exact ⟨_, rfl, (show IsS84 w0 _ gb377 l0 0 from ⟨_, _, by (with_reducible repeat (first | refine blk_drewN ?_ _ | refine blk_drew ?_ | refine blk_alloc ?_ _)); exact BK377.out, GE377.out, HR0.out⟩), by repeat (first | (with_reducible first | exact HB.out | apply below_alloc | apply pw_below_drewN | apply below_drew1 | refine below_set ?_ GE377.out) | exact HB.out), by repeat (first | (with_reducible first | exact HBW.out | apply below_alloc | apply pw_below_drewN | apply below_drew1 | refine below_set ?_ GW377.out) | exact HBW.out)⟩

/-! ### spec_DrawShelfFall: function 35 -/
def spec_DrawShelfFall.f (k : Nat) (l0 : List Int) : Option (ByteArray × Int × Int) := (spec_l6Open.f l0).bind fun bt379 => ((spec_l72Shelf.f k bt379.1 bt379.2).bind fun bt382 => ((spec_l6Rd_pick.f k bt379.1 bt382.2.2 60).bind fun bt385 => ((some (([0, 1, bt385.1, (-1), 9223372036854775807] : List Int) : List Int)).bind fun y387 => ((spec_l6Rd_pick.f k bt379.1 bt385.2 5).bind fun bt390 => (if 0 ≤ bt390.1 then (if bt390.1 < (y387.length : Int) then (some (bt382.1, bt382.2.1, rd y387 bt390.1)) else (none)) else (none))))))
theorem spec_DrawShelfFall.mono : ∀ a0 k, LeO (spec_DrawShelfFall.f k a0) (spec_DrawShelfFall.f (k + 1) a0) := by
 intro a0 k
 unfold spec_DrawShelfFall.f
 repeat' first
   | (with_reducible exact spec_l6Rd_pick.mono _ _ _ _)
   | (with_reducible exact spec_l72Shelf.mono _ _ _)
   | (with_reducible exact LeO.refl _)
   | (with_reducible exact LeO.none _)
   | (with_reducible refine LeO.ite ?_ ?_)
   | (with_reducible refine LeO.bind ?_ (fun _ => ?_))
   | exact spec_l6Rd_pick.mono _ _ _ _
   | exact spec_l72Shelf.mono _ _ _
   | exact LeO.none _
   | refine LeO.ite ?_ ?_
   | refine LeO.bind ?_ (fun _ => ?_)
def spec_DrawShelfFall.T2 : Bool × List (List Nat × List Nat) := (true, [([], []), ([0], [0]), ([], []), ([2, 1], [2]), ([3], [3]), ([], []), ([5, 3], [5]), ([4, 6], [4, 6]), ([7], [7]), ([1, 6, 0, 1], [1]), ([8, 9, 0, 1, 2, 3, 4, 5, 6, 7, 8, 9], [8])])
def spec_DrawShelfFall.B2 : List Nat := [0, 1, 0, 7, 15, 0, 47, 127, 255, 111, 1023]
theorem spec_DrawShelfFall.tab2 : rtab .any (opsOf Try.f35 2) = spec_DrawShelfFall.T2 := by kernel_rfl
theorem spec_DrawShelfFall.bits2 : waitsOk spec_DrawShelfFall.T2.2 spec_DrawShelfFall.B2 = true := by kernel_rfl
set_option maxHeartbeats 8000000 in
set_option maxRecDepth 100000 in
theorem spec_DrawShelfFall.calls (k : Nat) (A0 : Option Addr) (c0 : Nat) (l0 : List Int) (r1 : ByteArray) (r2 : Int) (r3 : Int) (w : World) (hr0 : Kd.C (Kd.int .u8) w A0 l0.length l0) (hc0 : l0.length ≤ c0) (h : spec_DrawShelfFall.f k l0 = some (r1, r2, r3)) :
  Calls Try.prog 35 #[.slice A0 l0.length c0] w fun e w' => e = .returned (.tuple #[.agg #[.string r1, .int .i64 r2], .int .i64 r3]) ∧ Below w.heap.size w w' := by
 have hu26 := Try.underlying26
 have HR0 := Aside0.mk hr0
 have HC0 := Aside0.mk hc0
 clear hr0 hc0
 have HB := Aside0.mk (Below.refl w.heap.size w)
 have H := h
 clear h
 unfold spec_DrawShelfFall.f at H
 obtain ⟨⟨t379, t380⟩, A20, H⟩ := Option.bind_eq_some_iff.mp H
 try dsimp only at H
 have A2 := Aside0.mk A20
 clear A20
 obtain ⟨⟨t382, t383, t384⟩, A30, H⟩ := Option.bind_eq_some_iff.mp H
 try dsimp only at H
 have A3 := Aside0.mk A30
 clear A30
 obtain ⟨⟨t385, t386⟩, A40, H⟩ := Option.bind_eq_some_iff.mp H
 try dsimp only at H
 have A4 := Aside0.mk A40
 clear A40
 obtain ⟨y387, hy387⟩ : ∃ y_ : List Int, y_ = (([0, 1, t385, (-1), 9223372036854775807] : List Int)) := ⟨_, rfl⟩
 replace H : ((spec_l6Rd_pick.f k t379 t386 5).bind fun bt390 => (if 0 ≤ bt390.1 then (if bt390.1 < (y387.length : Int) then (some (t382, t383, rd y387 bt390.1)) else (none)) else (none))) = some (r1, r2, r3) := by first | (rw [hy387]; with_reducible exact H) | (have H2_ := (Option.bind_some _ _).symm.trans H; rw [hy387]; with_reducible exact H2_) | (have H2_ := (Option.bind_some _ _).symm.trans H; with_reducible exact H2_) | with_reducible exact H | (rw [hy387]; exact H) | exact H
 have Ny387 := Aside0.mk hy387
 clear hy387
 obtain ⟨⟨t390, t391⟩, A50, H⟩ := Option.bind_eq_some_iff.mp H
 try dsimp only at H
 have A5 := Aside0.mk A50
 clear A50
 by_cases c6 : 0 ≤ t390
 ·rw [if_pos c6] at H
  have c6b0 : decide (0 ≤ t390) = true := decide_eq_true c6
  clear c6
  by_cases c7 : t390 < (y387.length : Int)
  ·rw [if_pos c7] at H
   have c7b0 : decide (t390 < (y387.length : Int)) = true := decide_eq_true c7
   clear c7
   simp only [Option.some.injEq, Prod.mk.injEq] at H
   obtain ⟨rfl, rfl, rfl⟩ := H
   go_enter Try.func35, Try.ntmps35
   try go_wp2_with (first | ((with_reducible refine gate_dst (N := 2) rfl ?_); refine box_event ?hg (N := 2) ?hd (cs := #[.string (⟨#[]⟩ : ByteArray), .int .i64 0]) (t := 26) ?hr ?_; (case hd => rfl); (case hg => rfl); (case hr => first | (go_simp; done) | (go_simp; rfl)); intro gb378 hg w8 hbox hb; have n0_ := Aside0.mk (below_step zz1 hb); have n1_ := Aside0.mk (hbox); have n2_ := Aside0.mk ((by rw [hg]; exact (below_size zz1) : w.heap.size ≤ gb378)); have n3_ := Aside0.mk ((by rw [hg]; exact (below_size zz1) : w.heap.size ≤ gb378)); clear HB; have HB := n0_; have BK378 := n1_; have GW378 := n2_; have GE378 := n3_; clear n0_ n1_ n2_ n3_; clear hb hbox hg) | ((with_reducible refine gate_callee (f := 51) rfl ?_); refine zgo_ (some 6) Try.func51 #[.slice A0 l0.length c0] ?_; (with_reducible refine (spec_l6Open.calls _ _ l0 t379 t380 w _ ?side1 ?side2 ?side3 A2.out).mono ?_); (case side1 => exact zz54); (case side2 => exact HR0.out); (case side3 => exact HC0.out); rintro e w9 ⟨g381, rfl, hi, hb, hb2⟩; refine ⟨_, rfl, ?_⟩; have n0_ := Aside0.mk (blk_below (g := gb378) (o := .cells #[.string (⟨#[]⟩ : ByteArray), .int .i64 0] 26 (0, 0)) zz35 hb2); have n1_ := Aside0.mk (hb); have n2_ := Aside0.mk (hi); have n3_ := Aside0.mk (IsS84.ne_blk hi (blk_below (g := gb378) (o := .cells #[.string (⟨#[]⟩ : ByteArray), .int .i64 0] 26 (0, 0)) zz35 hb2) (by decide)); have n4_ := Aside0.mk (Ne.symm (IsS84.ne_blk hi (blk_below (g := gb378) (o := .cells #[.string (⟨#[]⟩ : ByteArray), .int .i64 0] 26 (0, 0)) zz35 hb2) (by decide))); clear BK378; clear HB; have BK378 := n0_; have HB := n1_; have HI381 := n2_; have NB381_378 := n3_; have NB378_381 := n4_; clear n0_ n1_ n2_ n3_ n4_; (try clear hb); (try clear hb2); (try clear hk); (try clear hi)))
   have pi392 : (0 ≤ (t390 : Int)) = True := eq_true (of_decide_eq_true zz14)
   have qi392 : (t390 < (y387.length : Int)) = True := eq_true (of_decide_eq_true zz14)
   have n0_ := Aside0.mk (blk_drew BK378.out)
   have n1_ := Aside0.mk (IsS84.drew HI381.out)
   have n2_ := Aside0.mk (below_drew1 HB.out)
   clear BK378
   clear HI381
   clear HB
   have BK378 := n0_
   have HI381 := n1_
   have HB := n2_
   clear n0_ n1_ n2_
   refine start_ (n := 11) (S := fun w' => True) (ds := []) #[false, false, false, false, false, false, false, false, false, false, false] (by kernel_rfl) rfl rfl trivial (fun hHeld => ?_); refine with_tabW spec_DrawShelfFall.tab2 spec_DrawShelfFall.bits2 (fun HT_ HW_ => ?_)
   generalize w9.drew = w10 at BK378 HI381 HB hHeld ⊢
   refine pure_ (i := 0) (N := some 7) (v := ?_) (a' := ?_) #[true, false, false, false, false, false, false, false, false, false, false] rfl rfl (any_of HT_.out (by kernel_rfl)) (fun _ _ _ h => h) (Or.inl ⟨by rfl, ?_⟩) ?_ ?_
   rotate_left
   ·intro w'
    go_simp
    with_reducible rfl
   rotate_left
   ·simp only [Act.put, List.setIfInBounds_toArray, List.set_cons_zero, List.set_cons_succ, i64_w, i32_w]
    rfl
   refine pure_ (i := 2) (N := some 9) (v := ?_) (a' := ?_) #[true, false, true, false, false, false, false, false, false, false, false] rfl rfl (any_of HT_.out (by kernel_rfl)) (fun _ _ _ h => h) (Or.inl ⟨by rfl, ?_⟩) ?_ ?_
   rotate_left
   ·intro w'
    go_simp
    with_reducible rfl
   rotate_left
   ·simp only [Act.put, List.setIfInBounds_toArray, List.set_cons_zero, List.set_cons_succ, i64_w, i32_w]
    rfl
   refine pure_ (i := 5) (N := some 12) (v := ?_) (a' := ?_) #[true, false, true, false, false, true, false, false, false, false, false] rfl rfl (any_of HT_.out (by kernel_rfl)) (fun _ _ _ h => h) (Or.inl ⟨by rfl, ?_⟩) ?_ ?_
   rotate_left
   ·intro w'
    go_simp
    with_reducible rfl
   rotate_left
   ·simp only [Act.put, List.setIfInBounds_toArray, List.set_cons_zero, List.set_cons_succ, i64_w, i32_w]
    rfl
   refine inv_at [1, 3, 4, 6, 7, 8, 9, 10] (fun a0_ b a w' => ∃ (v388 : Value) (adz_v388 : Addr) (m7_ : Value), a = putSel a0_ b [(1, 8, .agg #[.string t382, .int .i64 t383]), (3, 10, .int .i64 t385), (4, 11, v388), (6, 13, .int .i64 t390), (7, 14, m7_), (8, 15, .int .i64 (rd y387 t390)), (10, 3, .int .i64 (rd y387 t390))] ∧ (b 9 = false → w'.heap[gb378]? = some (.cells #[.string (⟨#[]⟩ : ByteArray), .int .i64 0] 26 (0, 0))) ∧ (b 1 = false → IsS84 w w' g381 t379 t380) ∧ (Below w.heap.size w w') ∧ (b 1 = true → b 3 = false → IsS84 w w' g381 t379 t384) ∧ (b 3 = true → b 6 = false → IsS84 w w' g381 t379 t386) ∧ (b 4 = true → Kd.R (Kd.int .i64) 3 w' w.heap.size (fun _ => True) v388 y387) ∧ (b 4 = true → ∃ c_, (v388 : Value) = .slice (some adz_v388) y387.length c_) ∧ (b 6 = true → IsS84 w w' g381 t379 t391) ∧ (b 9 = true → w'.heap[gb378]? = some (.cells #[.string t382, .int .i64 t383] 26 (0, 0))) ∧ (b 7 = true → (m7_ : Value) = .pointer (some (adz_v388.add (t390).toNat)))) HT_.out HW_.out (by kernel_rfl) (by kernel_rfl) ?_ ?_ ?_
   ·exact ⟨.bool false, ⟨0, 0, none⟩, .bool false, by simp only [putSel, Bool.false_eq_true, if_false], fun _ => BK378.out, fun _ => HI381.out, HB.out, fun h_ => absurd h_ (by decide), fun h_ => absurd h_ (by decide), fun h_ => absurd h_ (by decide), fun h_ => absurd h_ (by decide), fun h_ => absurd h_ (by decide), fun h_ => absurd h_ (by decide), fun h_ => absurd h_ (by decide)⟩
   ·skip
    clear BK378 HB HI381
    refine steps_cons ?_ ?_
    ·rintro b a w' ⟨v388, adz_v388, m7_, ha, Q_BK378, Q_HI381, Q_HB, Q_HI381_e1, Q_HI381_e3, Q_HO389, Q_HA_HO389, Q_HI381_e6, Q_BK378_e9, Q_X7_⟩ hb_ hon hoff
     refine ⟨_, rfl, fun K hK => ?_⟩
     have e7 : a.tmps[7]? = some (.pointer (some ⟨g381, 0, none⟩)) := by rw [ha]; exact (putSel_off rfl).trans rfl
     replace ha := Aside0.mk ha
     have BK378 := Aside0.mk (Q_BK378 (hoff 9 (by kernel_rfl)))
     have HI381 := Aside0.mk (Q_HI381 hb_)
     have HB := Aside0.mk Q_HB
     refine goes_ Try.func50 (by kernel_rfl) rfl #[.pointer (some ⟨g381, 0, none⟩)] (by rfl) rfl rfl (by first | (simp only [List.map_toArray, List.map_cons, List.map_nil, Act.eval, Array.getD_eq_getD_getElem?, Option.getD_some, e7]; done) | (simp only [List.map_toArray, List.map_cons, List.map_nil, Act.eval, Array.getD_eq_getD_getElem?, Option.getD_some, e7]; rfl)) ?_
     with_reducible refine (spec_l72Shelf.calls k g381 t379 t380 t382 t383 t384 w _ ?side1 ?side2 A3.out).mono ?_
     (case side1 => exact zz32)
     (case side2 => exact zz30)
     rintro e w11 ⟨rfl, hi, hb, hk⟩
     refine ⟨_, rfl, ?_⟩
     have n0_ := Aside0.mk (KeepBut.blk hk (g' := gb378) (o := .cells #[.string (⟨#[]⟩ : ByteArray), .int .i64 0] 26 (0, 0)) zz35 NB378_381.out (by simp))
     have n1_ := Aside0.mk (hb)
     have n2_ := Aside0.mk (hi)
     clear BK378
     clear HB
     clear HI381
     have BK378 := n0_
     have HB := n1_
     have HI381 := n2_
     clear n0_ n1_ n2_
     (try clear hb)
     (try clear hb2)
     (try clear hk)
     (try clear hi)
     refine hK.out _ _ ⟨v388, adz_v388, m7_, (by rw [ha.out]; exact putSel_upk 0 hb_ rfl rfl rfl), fun _ => zz35, fun h0_ => absurd ((up_self b 1).symm.trans h0_) (by decide), zz30, fun _ _ => zz32, fun h0_ _ => absurd ((hoff 3 (by kernel_rfl)).symm.trans h0_) (by decide), fun h0_ => absurd ((hoff 4 (by kernel_rfl)).symm.trans h0_) (by decide), fun h0_ => absurd ((hoff 4 (by kernel_rfl)).symm.trans h0_) (by decide), fun h0_ => absurd ((hoff 6 (by kernel_rfl)).symm.trans h0_) (by decide), fun h0_ => absurd ((hoff 9 (by kernel_rfl)).symm.trans h0_) (by decide), fun h0_ => absurd ((hoff 7 (by kernel_rfl)).symm.trans h0_) (by decide)⟩
    refine steps_cons ?_ ?_
    ·rintro b a w' ⟨v388, adz_v388, m7_, ha, Q_BK378, Q_HI381, Q_HB, Q_HI381_e1, Q_HI381_e3, Q_HO389, Q_HA_HO389, Q_HI381_e6, Q_BK378_e9, Q_X7_⟩ hb_ hon hoff
     refine ⟨_, rfl, fun K hK => ?_⟩
     have e9 : a.tmps[9]? = some (.pointer (some ⟨g381, 0, none⟩)) := by rw [ha]; exact (putSel_off rfl).trans rfl
     replace ha := Aside0.mk ha
     have BK378 := Aside0.mk (Q_BK378 (hoff 9 (by kernel_rfl)))
     have HB := Aside0.mk Q_HB
     have HI381 := Aside0.mk (Q_HI381_e1 (hon 1 (by kernel_rfl)) hb_)
     refine goes_ Try.func53 (by kernel_rfl) rfl #[.pointer (some ⟨g381, 0, none⟩), .int .i64 60] (by rfl) rfl rfl (by first | (simp only [List.map_toArray, List.map_cons, List.map_nil, Act.eval, Array.getD_eq_getD_getElem?, Option.getD_some, e9]; done) | (simp only [List.map_toArray, List.map_cons, List.map_nil, Act.eval, Array.getD_eq_getD_getElem?, Option.getD_some, e9]; rfl)) ?_
     with_reducible refine (spec_l6Rd_pick.calls k g381 t379 t384 60 t385 t386 w _ ?side1 ?side2 A4.out).mono ?_
     (case side1 => exact zz32)
     (case side2 => exact zz30)
     rintro e w13 ⟨rfl, hi, hb, hk⟩
     refine ⟨_, rfl, ?_⟩
     have n0_ := Aside0.mk (KeepBut.blk hk (g' := gb378) (o := .cells #[.string (⟨#[]⟩ : ByteArray), .int .i64 0] 26 (0, 0)) zz35 NB378_381.out (by simp))
     have n1_ := Aside0.mk (hb)
     have n2_ := Aside0.mk (hi)
     clear BK378
     clear HB
     clear HI381
     have BK378 := n0_
     have HB := n1_
     have HI381 := n2_
     clear n0_ n1_ n2_
     (try clear hb)
     (try clear hb2)
     (try clear hk)
     (try clear hi)
     refine hK.out _ _ ⟨v388, adz_v388, m7_, (by rw [ha.out]; exact putSel_upk 1 hb_ rfl rfl rfl), fun _ => zz35, fun h0_ => absurd ((hon 1 (by kernel_rfl)).symm.trans h0_) (by decide), zz30, fun _ h1_ => absurd ((up_self b 3).symm.trans h1_) (by decide), fun _ _ => zz32, fun h0_ => absurd ((hoff 4 (by kernel_rfl)).symm.trans h0_) (by decide), fun h0_ => absurd ((hoff 4 (by kernel_rfl)).symm.trans h0_) (by decide), fun h0_ => absurd ((hoff 6 (by kernel_rfl)).symm.trans h0_) (by decide), fun h0_ => absurd ((hoff 9 (by kernel_rfl)).symm.trans h0_) (by decide), fun h0_ => absurd ((hoff 7 (by kernel_rfl)).symm.trans h0_) (by decide)⟩
    refine steps_cons ?_ ?_
    ·rintro b a w' ⟨v388, adz_v388, m7_, ha, Q_BK378, Q_HI381, Q_HB, Q_HI381_e1, Q_HI381_e3, Q_HO389, Q_HA_HO389, Q_HI381_e6, Q_BK378_e9, Q_X7_⟩ hb_ hon hoff
     refine ⟨_, rfl, fun K hK => ?_⟩
     have e10 : a.tmps[10]? = some (.int .i64 t385) := by rw [ha]; exact putSel_on (e := (3, 10, .int .i64 t385)) 1 rfl rfl (hon 3 (by kernel_rfl)) rfl
     replace ha := Aside0.mk ha
     have HB := Aside0.mk Q_HB
     refine Kd.R_lit_step (Kd.int .i64) _ 3 ?hg (N := 11) ?hd (xs := ([0, 1, t385, (-1), 9223372036854775807] : List Int)) (inner := [.int .i64 0, .int .i64 1, .int .i64 t385, .int .i64 (-1), .int .i64 9223372036854775807]) (ok := fun _ => True) (okp := fun _ => True) ?hr ?hp (fun _ hk => hk) trivial (Below.refl _ _) (Nat.le_refl _) (by simp) ?_; (case hd => rfl); (case hg => rfl); (case hr => first | (go_simp; done) | (go_simp; rfl)); (case hp => exact (Reps.one (show Kd.M (Kd.int .i64) _ _ _ 0 [.int .i64 0] from rfl) (Reps.one (show Kd.M (Kd.int .i64) _ _ _ 1 [.int .i64 1] from rfl) (Reps.one (show Kd.M (Kd.int .i64) _ _ _ t385 [.int .i64 t385] from rfl) (Reps.one (show Kd.M (Kd.int .i64) _ _ _ (-1) [.int .i64 (-1)] from rfl) (Reps.one (show Kd.M (Kd.int .i64) _ _ _ 9223372036854775807 [.int .i64 9223372036854775807] from rfl) (Reps.none _ _)))))))
     intro v388 w14 ho15 hb hg_ hnew_
     clear hg_ hnew_
     (first | rw [← Ny387.out] at ho15 | (simp only [Int.reduceToNat] at ho15; rw [← Ny387.out] at ho15))
     have n0_ := Aside0.mk (Kd.R_lower ho15 (below_size zz54))
     have n3_ := Aside0.mk (below_step zz54 hb)
     have z_BK378 := fun (h0_ : b 9 = false) => (show w14.heap[gb378]? = some (.cells #[.string (⟨#[]⟩ : ByteArray), .int .i64 0] 26 (0, 0)) from by first | exact (blk_below (g := gb378) (o := .cells #[.string (⟨#[]⟩ : ByteArray), .int .i64 0] 26 (0, 0)) (by (with_reducible repeat (first | refine blk_drewN ?_ _ | refine blk_drew ?_ | refine blk_alloc ?_ _)); exact (Q_BK378 h0_)) hb))
     have z_HI381_e3 := fun (h0_ : b 3 = true) (h1_ : b 6 = false) => (show IsS84 w w14 g381 t379 t386 from by first | exact (IsS84.below (by repeat (first | (with_reducible first | exact (Q_HI381_e3 h0_ h1_) | apply IsS84.alloc | apply IsS84.drewN | apply IsS84.drew | apply IsS84.set_1 | refine IsS84.far ?_ NB381_378.out _) | exact (Q_HI381_e3 h0_ h1_))) hb))
     have z_HI381_e6 := fun (h0_ : b 6 = true) => (show IsS84 w w14 g381 t379 t391 from by first | exact (IsS84.below (by repeat (first | (with_reducible first | exact (Q_HI381_e6 h0_) | apply IsS84.alloc | apply IsS84.drewN | apply IsS84.drew | apply IsS84.set_1 | refine IsS84.far ?_ NB381_378.out _) | exact (Q_HI381_e6 h0_))) hb))
     have z_BK378_e9 := fun (h0_ : b 9 = true) => (show w14.heap[gb378]? = some (.cells #[.string t382, .int .i64 t383] 26 (0, 0)) from by first | exact (blk_below (g := gb378) (o := .cells #[.string t382, .int .i64 t383] 26 (0, 0)) (by (with_reducible repeat (first | refine blk_drewN ?_ _ | refine blk_drew ?_ | refine blk_alloc ?_ _)); exact (Q_BK378_e9 h0_)) hb))
     clear HB
     have HO389 := n0_
     have HB := n3_
     clear n0_ n3_
     clear hb ho15
     obtain ⟨Ao16, co16, eo16⟩ := Kd.R_slice HO389.out
     subst eo16
     obtain ⟨ado16, fo16, _⟩ := Kd.at_int (Kd.R_reads' HO389.out).2.2 0 (by decide) (by rw [Ny387.out]; simp)
     cases fo16
     refine hK.out _ _ ⟨.slice (some ado16) y387.length co16, ado16, m7_, (by rw [ha.out]; exact putSel_upk 2 hb_ rfl rfl rfl), z_BK378, fun h0_ => absurd ((hon 1 (by kernel_rfl)).symm.trans h0_) (by decide), zz54, fun _ h1_ => absurd ((hon 3 (by kernel_rfl)).symm.trans h1_) (by decide), z_HI381_e3, fun _ => (by (with_reducible repeat (first | apply Kd.R_alloc | apply Kd.R_drewN | apply Kd.R_drew)); exact HO389.out), fun _ => ⟨_, rfl⟩, z_HI381_e6, z_BK378_e9, fun h0_ => absurd ((hoff 7 (by kernel_rfl)).symm.trans h0_) (by decide)⟩
    refine steps_cons ?_ ?_
    ·rintro b a w' ⟨v388, adz_v388, m7_, ha, Q_BK378, Q_HI381, Q_HB, Q_HI381_e1, Q_HI381_e3, Q_HO389, Q_HA_HO389, Q_HI381_e6, Q_BK378_e9, Q_X7_⟩ hb_ hon hoff
     refine ⟨_, rfl, fun K hK => ?_⟩
     have e12 : a.tmps[12]? = some (.pointer (some ⟨g381, 0, none⟩)) := by rw [ha]; exact (putSel_off rfl).trans rfl
     replace ha := Aside0.mk ha
     have BK378 := Aside0.mk (Q_BK378 (hoff 9 (by kernel_rfl)))
     have HB := Aside0.mk Q_HB
     have HI381 := Aside0.mk (Q_HI381_e3 (hon 3 (by kernel_rfl)) hb_)
     refine goes_ Try.func53 (by kernel_rfl) rfl #[.pointer (some ⟨g381, 0, none⟩), .int .i64 5] (by rfl) rfl rfl (by first | (simp only [List.map_toArray, List.map_cons, List.map_nil, Act.eval, Array.getD_eq_getD_getElem?, Option.getD_some, e12]; done) | (simp only [List.map_toArray, List.map_cons, List.map_nil, Act.eval, Array.getD_eq_getD_getElem?, Option.getD_some, e12]; rfl)) ?_
     with_reducible refine (spec_l6Rd_pick.calls k g381 t379 t386 5 t390 t391 w _ ?side1 ?side2 A5.out).mono ?_
     (case side1 => exact zz32)
     (case side2 => exact zz30)
     rintro e w14 ⟨rfl, hi, hb, hk⟩
     refine ⟨_, rfl, ?_⟩
     have n0_ := Aside0.mk (KeepBut.blk hk (g' := gb378) (o := .cells #[.string (⟨#[]⟩ : ByteArray), .int .i64 0] 26 (0, 0)) zz35 NB378_381.out (by simp))
     have n1_ := Aside0.mk (hb)
     have n2_ := Aside0.mk (hi)
     have z_HO389 := fun (h0_ : b 4 = true) => (show Kd.R (Kd.int .i64) 3 w14 w.heap.size (fun _ => True) v388 y387 from by first | exact (Kd.R_mono (Kd.R_keep (IsS84.apart (show IsS84 w _ g381 t379 t386 from by repeat (first | (with_reducible first | exact HI381.out | apply IsS84.alloc | apply IsS84.drewN | apply IsS84.drew | apply IsS84.set_1 | refine IsS84.far ?_ NB381_378.out _) | exact HI381.out)) (by (with_reducible repeat (first | apply Kd.R_alloc | apply Kd.R_drewN | apply Kd.R_drew)); exact (Q_HO389 h0_)) (by decide)) hk (fun _ h => h.2)) (fun _ h => h.1)) | exact Kd.R_mono (Kd.R_mono (Kd.R_keep (IsS84.apart (show IsS84 w _ g381 t379 t386 from by repeat (first | (with_reducible first | exact HI381.out | apply IsS84.alloc | apply IsS84.drewN | apply IsS84.drew | apply IsS84.set_1 | refine IsS84.far ?_ NB381_378.out _) | exact HI381.out)) (by (with_reducible repeat (first | apply Kd.R_alloc | apply Kd.R_drewN | apply Kd.R_drew)); exact (Q_HO389 h0_)) (by decide)) hk (fun _ h => h.2)) (fun _ h => h.1)) (fun _ h_ => by first | trivial | exact h_ | exact h_.1))
     clear BK378
     clear HB
     clear HI381
     have BK378 := n0_
     have HB := n1_
     have HI381 := n2_
     clear n0_ n1_ n2_
     (try clear hb)
     (try clear hb2)
     (try clear hk)
     (try clear hi)
     refine hK.out _ _ ⟨v388, adz_v388, m7_, (by rw [ha.out]; exact putSel_upk 3 hb_ rfl rfl rfl), fun _ => zz35, fun h0_ => absurd ((hon 1 (by kernel_rfl)).symm.trans h0_) (by decide), zz30, fun _ h1_ => absurd ((hon 3 (by kernel_rfl)).symm.trans h1_) (by decide), fun _ h1_ => absurd ((up_self b 6).symm.trans h1_) (by decide), z_HO389, Q_HA_HO389, fun _ => zz32, fun h0_ => absurd ((hoff 9 (by kernel_rfl)).symm.trans h0_) (by decide), fun h0_ => absurd ((hoff 7 (by kernel_rfl)).symm.trans h0_) (by decide)⟩
    refine steps_cons ?_ ?_
    ·rintro b a w' ⟨v388, adz_v388, m7_, ha, Q_BK378, Q_HI381, Q_HB, Q_HI381_e1, Q_HI381_e3, Q_HO389, Q_HA_HO389, Q_HI381_e6, Q_BK378_e9, Q_X7_⟩ hb_ hon hoff
     refine ⟨_, rfl, fun K hK => ?_⟩
     have e11 : a.tmps[11]? = some (v388) := by rw [ha]; exact putSel_on (e := (4, 11, v388)) 2 rfl rfl (hon 4 (by kernel_rfl)) rfl
     have e13 : a.tmps[13]? = some (.int .i64 t390) := by rw [ha]; exact putSel_on (e := (6, 13, .int .i64 t390)) 3 rfl rfl (hon 6 (by kernel_rfl)) rfl
     replace ha := Aside0.mk ha
     have HB := Aside0.mk Q_HB
     have HO389 := Aside0.mk (Q_HO389 (hon 4 (by kernel_rfl)))
     have HA_HO389 := Aside0.mk (Q_HA_HO389 (hon 4 (by kernel_rfl)))
     have HI381 := Aside0.mk (Q_HI381_e6 (hon 6 (by kernel_rfl)))
     obtain ⟨c_, hv_⟩ := HA_HO389.out
     rw [hv_] at e11
     refine value_ (w1 := w') (v := .pointer (some (adz_v388.add (t390).toNat))) (by rfl) rfl ?_ ?_
     ·go_simp
      (try simp only [i64_w])
      try rfl
     refine hK.out _ _ ⟨v388, adz_v388, (.pointer (some (adz_v388.add (t390).toNat))), (by rw [ha.out]; exact putSel_upk 4 hb_ rfl rfl rfl), Q_BK378, fun h0_ => absurd ((hon 1 (by kernel_rfl)).symm.trans h0_) (by decide), Q_HB, fun _ h1_ => absurd ((hon 3 (by kernel_rfl)).symm.trans h1_) (by decide), fun _ h1_ => absurd ((hon 6 (by kernel_rfl)).symm.trans h1_) (by decide), Q_HO389, Q_HA_HO389, Q_HI381_e6, Q_BK378_e9, fun _ => rfl⟩
    refine steps_cons ?_ ?_
    ·rintro b a w' ⟨v388, adz_v388, m7_, ha, Q_BK378, Q_HI381, Q_HB, Q_HI381_e1, Q_HI381_e3, Q_HO389, Q_HA_HO389, Q_HI381_e6, Q_BK378_e9, Q_X7_⟩ hb_ hon hoff
     refine ⟨_, rfl, fun K hK => ?_⟩
     have e14 : a.tmps[14]? = some (m7_) := by rw [ha]; exact putSel_on (e := (7, 14, m7_)) 4 rfl rfl (hon 7 (by kernel_rfl)) rfl
     rw [Q_X7_ (hon 7 (by kernel_rfl))] at e14
     replace ha := Aside0.mk ha
     have HB := Aside0.mk Q_HB
     have HO389 := Aside0.mk (Q_HO389 (hon 4 (by kernel_rfl)))
     have HA_HO389 := Aside0.mk (Q_HA_HO389 (hon 4 (by kernel_rfl)))
     have HI381 := Aside0.mk (Q_HI381_e6 (hon 6 (by kernel_rfl)))
     obtain ⟨c_, hv_⟩ := HA_HO389.out
     have hF_ := HO389.out
     rw [hv_] at hF_
     obtain ⟨ad_, ea_, hx_⟩ := Kd.at_int (Kd.R_reads' hF_).2.2 t390 (of_eq_true pi392) (of_eq_true qi392)
     cases ea_
     refine value_ (w1 := w') (v := .int .i64 (rd y387 t390)) (by rfl) rfl ?_ ?_
     ·go_simp
      (try simp only [i64_w])
      try rfl
     refine hK.out _ _ ⟨v388, adz_v388, m7_, (by rw [ha.out]; exact putSel_upk 5 hb_ rfl rfl rfl), Q_BK378, fun h0_ => absurd ((hon 1 (by kernel_rfl)).symm.trans h0_) (by decide), Q_HB, fun _ h1_ => absurd ((hon 3 (by kernel_rfl)).symm.trans h1_) (by decide), fun _ h1_ => absurd ((hon 6 (by kernel_rfl)).symm.trans h1_) (by decide), Q_HO389, Q_HA_HO389, Q_HI381_e6, Q_BK378_e9, Q_X7_⟩
    refine steps_cons ?_ ?_
    ·rintro b a w' ⟨v388, adz_v388, m7_, ha, Q_BK378, Q_HI381, Q_HB, Q_HI381_e1, Q_HI381_e3, Q_HO389, Q_HA_HO389, Q_HI381_e6, Q_BK378_e9, Q_X7_⟩ hb_ hon hoff
     refine ⟨_, rfl, fun K hK => ?_⟩
     have e2 : a.tmps[2]? = some (.pointer (some ⟨gb378, 0, none⟩)) := by rw [ha]; exact (putSel_off rfl).trans rfl
     have e8 : a.tmps[8]? = some (.agg #[.string t382, .int .i64 t383]) := by rw [ha]; exact putSel_on (e := (1, 8, .agg #[.string t382, .int .i64 t383])) 0 rfl rfl (hon 1 (by kernel_rfl)) rfl
     replace ha := Aside0.mk ha
     have BK378 := Aside0.mk (Q_BK378 hb_)
     have HB := Aside0.mk Q_HB
     have HI381 := Aside0.mk (Q_HI381_e6 (hon 6 (by kernel_rfl)))
     have hs15 : w'.cell? ⟨gb378, 0, none⟩ = some (.string (⟨#[]⟩ : ByteArray)) := (blk_cell BK378.out 0).trans rfl
     have hfs15 := blk_frozen BK378.out 0
     have hs16 : w'.cell? ⟨gb378, 1, none⟩ = some (.int .i64 0) := (blk_cell BK378.out 1).trans rfl
     have hfs16 := blk_frozen BK378.out 1
     refine skip_ (w1 := ?_) (by rfl) rfl ?_ ?_
     rotate_left
     ·go_simp
      rfl
     refine hK.out _ _ ⟨v388, adz_v388, m7_, (by rw [ha.out]; exact putSel_none (v := undef) rfl), fun h0_ => absurd ((up_self b 9).symm.trans h0_) (by decide), fun h0_ => absurd ((hon 1 (by kernel_rfl)).symm.trans h0_) (by decide), zz30, fun _ h1_ => absurd ((hon 3 (by kernel_rfl)).symm.trans h1_) (by decide), fun _ h1_ => absurd ((hon 6 (by kernel_rfl)).symm.trans h1_) (by decide), fun h0_ => (by (with_reducible repeat (first | apply Kd.R_alloc | apply Kd.R_drewN | apply Kd.R_drew)); exact Kd.R_mono (Kd.R_far (p := ⟨gb378, 1, none⟩) (Kd.R_far (p := ⟨gb378, 0, none⟩) (Kd.R_types (Q_HO389 h0_) BK378.out (by decide)) (fun _ hk => hk.2) (.string t382)) (fun _ hk => hk.2) (.int .i64 t383)) (fun _ hk => trivial)), Q_HA_HO389, fun _ => zz32, fun _ => (by (with_reducible repeat (first | refine blk_drewN ?_ _ | refine blk_drew ?_ | refine blk_alloc ?_ _)); refine blk_put (cs := #[.string t382, .int .i64 0]) ?_ 1 _ rfl; (with_reducible repeat (first | refine blk_drewN ?_ _ | refine blk_drew ?_ | refine blk_alloc ?_ _)); refine blk_put (cs := #[.string (⟨#[]⟩ : ByteArray), .int .i64 0]) ?_ 0 _ rfl; (with_reducible repeat (first | refine blk_drewN ?_ _ | refine blk_drew ?_ | refine blk_alloc ?_ _)); exact BK378.out), Q_X7_⟩
    refine steps_cons ?_ ?_
    ·rintro b a w' ⟨v388, adz_v388, m7_, ha, Q_BK378, Q_HI381, Q_HB, Q_HI381_e1, Q_HI381_e3, Q_HO389, Q_HA_HO389, Q_HI381_e6, Q_BK378_e9, Q_X7_⟩ hb_ hon hoff
     refine ⟨_, rfl, fun K hK => ?_⟩
     have e15 : a.tmps[15]? = some (.int .i64 (rd y387 t390)) := by rw [ha]; exact putSel_on (e := (8, 15, .int .i64 (rd y387 t390))) 5 rfl rfl (hon 8 (by kernel_rfl)) rfl
     replace ha := Aside0.mk ha
     have HB := Aside0.mk Q_HB
     have HO389 := Aside0.mk (Q_HO389 (hon 4 (by kernel_rfl)))
     have HA_HO389 := Aside0.mk (Q_HA_HO389 (hon 4 (by kernel_rfl)))
     have HI381 := Aside0.mk (Q_HI381_e6 (hon 6 (by kernel_rfl)))
     have BK378 := Aside0.mk (Q_BK378_e9 (hon 9 (by kernel_rfl)))
     refine value_ (w1 := w') (v := .int .i64 (rd y387 t390)) (by rfl) rfl ?_ ?_
     ·go_simp
      (try simp only [i64_w])
      try rfl
     refine hK.out _ _ ⟨v388, adz_v388, m7_, (by rw [ha.out]; exact putSel_upk 6 hb_ rfl rfl rfl), fun h0_ => absurd ((hon 9 (by kernel_rfl)).symm.trans h0_) (by decide), fun h0_ => absurd ((hon 1 (by kernel_rfl)).symm.trans h0_) (by decide), Q_HB, fun _ h1_ => absurd ((hon 3 (by kernel_rfl)).symm.trans h1_) (by decide), fun _ h1_ => absurd ((hon 6 (by kernel_rfl)).symm.trans h1_) (by decide), Q_HO389, Q_HA_HO389, Q_HI381_e6, Q_BK378_e9, Q_X7_⟩
    exact steps_nil
   rintro b a w19 hall ⟨v388, adz_v388, m7_, ha, Q_BK378, Q_HI381, Q_HB, Q_HI381_e1, Q_HI381_e3, Q_HO389, Q_HA_HO389, Q_HI381_e6, Q_BK378_e9, Q_X7_⟩
   clear BK378 HB HI381
   have hb1_ := hall 1 (by kernel_rfl)
   have hb3_ := hall 3 (by kernel_rfl)
   have hb4_ := hall 4 (by kernel_rfl)
   have hb6_ := hall 6 (by kernel_rfl)
   have hb7_ := hall 7 (by kernel_rfl)
   have hb8_ := hall 8 (by kernel_rfl)
   have hb9_ := hall 9 (by kernel_rfl)
   have hb10_ := hall 10 (by kernel_rfl)
   subst ha
   obtain rfl := Q_X7_ hb7_
   simp only [putSel, hb1_, hb3_, hb4_, hb6_, hb7_, hb8_, hb9_, hb10_, if_true, Act.put, List.setIfInBounds_toArray, List.set_cons_zero, List.set_cons_succ]
   clear Q_BK378
   clear Q_HI381
   have HB := Aside0.mk Q_HB
   clear Q_HB
   clear Q_HI381_e1
   clear Q_HI381_e3
   have HO389 := Aside0.mk (Q_HO389 hb4_)
   clear Q_HO389
   have HA_HO389 := Aside0.mk (Q_HA_HO389 hb4_)
   clear Q_HA_HO389
   have HI381 := Aside0.mk (Q_HI381_e6 hb6_)
   clear Q_HI381_e6
   have BK378 := Aside0.mk (Q_BK378_e9 hb9_)
   clear Q_BK378_e9
   clear hall hb1_ hb3_ hb4_ hb6_ hb7_ hb8_ hb9_ hb10_
   obtain ⟨co20, eo20⟩ := HA_HO389.out
   clear HA_HO389
   subst eo20
   try go_wp2
   refine bodyPost_ret (results_ct rfl _ _ gb378 26 #[.string t382, .int .i64 t383] (0, 0) _ rfl zz35 Try.underlying26 rfl (by kernel_rfl)) rfl ?_
   exact ⟨by first | rfl | (simp [errW_none, errW_some] <;> rfl) | (simp [*, errW_none, errW_some] <;> rfl), by repeat (first | (with_reducible first | exact HB.out | apply below_alloc | apply pw_below_drewN | apply below_drew1 | refine below_set ?_ (IsS84.ge HI381.out) | refine below_set ?_ GE378.out) | exact HB.out)⟩
  ·rw [if_neg c7] at H
   exact absurd H (by simp)
 ·rw [if_neg c6] at H
  exact absurd H (by simp)

end Go.Proofs.Ytdgigadocempdaa.PFnShelfFall
