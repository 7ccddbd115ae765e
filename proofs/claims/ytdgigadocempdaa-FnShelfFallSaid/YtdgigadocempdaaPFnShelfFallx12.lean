/- What the Go functions that a law reaches compute, function by function: the machine's calls come to just what these Lean functions say. No condition. Written by a program of this session. -/
import Derived.Test.YtdgigadocempdaaPFnShelfFallx0
import Derived.Test.YtdgigadocempdaaPFnShelfFallx5
import Derived.Test.YtdgigadocempdaaPFnShelfFallx6
import Derived.Test.YtdgigadocempdaaPFnShelfFallx7
import Derived.Test.YtdgigadocempdaaPFnShelfFallx11
namespace Go.Proofs.Ytdgigadocempdaa.PFnShelfFall
open Go.RowKit Go.Proofs.YtdgigadocempdaaW.PrintWords Go.Proofs.YtdgigadocempdaaW.PrintLast Go.Proofs.YtdgigadocempdaaW.PrintMore
attribute [local go_sem] max2_int min2_int max_two min_two max_three min_three max_four min_four   -- for this text's walks alone
set_option linter.unusedVariables false
set_option linter.unusedSimpArgs false

/-! ### spec_l72Shelf: function 50 -/
mutual
def spec_l72Shelf.l0 : Nat → Int → List Int → Int → ByteArray → Int → Option (ByteArray × Int × Int)
 | 0, _, _, _, _, _ => none
 | k + 1, x4, x1000, x1001, x346000, x346001 => if x4 > 0 then ((spec_l72Rec.f k x1000 x1001).bind fun bt348 => ((spec_ShelfAdd.f k x346000 x346001 bt348.1).bind fun bt350 => ((spec_l6Rd_pick.f k x1000 bt348.2 3).bind fun bt353 => (if bt353.1 = 0 then ((spec_ShelfForce.f k bt350.1 bt350.2.1).bind fun bt355 => (spec_l72Shelf.l0 k (wrap64 (x4 - 1)) x1000 bt353.2 bt355.1 bt355.2)) else (spec_l72Shelf.l0 k (wrap64 (x4 - 1)) x1000 bt353.2 bt350.1 bt350.2.1))))) else ((spec_l6Rd_pick.f k x1000 x1001 14).bind fun bt357 => (if bt357.1 = 0 then ((spec_l72Bend.f k x1000 bt357.2 x346000).bind fun bt359 => (some (bt359.1, x346001, bt359.2))) else (if bt357.1 = 1 then ((spec_l6Rd_pick.f k x1000 bt357.2 (wrap64 ((x346000.size : Int) + 1))).bind fun bt361 => ((some (([(-1), wrap64 ((x346000.size : Int) + 1), bt361.1] : List Int) : List Int)).bind fun y363 => ((spec_l6Rd_pick.f k x1000 bt361.2 3).bind fun bt366 => (if 0 ≤ bt366.1 then (if bt366.1 < (y363.length : Int) then (some (x346000, rd y363 bt366.1, bt366.2)) else (none)) else (none))))) else (if bt357.1 = 2 then (spec_l72Shelf.l1 k 0 x1000 bt357.2 x346000 x346001) else (some (x346000, x346001, bt357.2))))))
def spec_l72Shelf.l1 : Nat → Int → List Int → Int → ByteArray → Int → Option (ByteArray × Int × Int)
 | 0, _, _, _, _, _ => none
 | k + 1, x5, x1000, x1001, x346000, x346001 => (spec_l6Rd_pick.f k x1000 x1001 3).bind fun bt369 => (if x5 < (wrap64 (38 + bt369.1)) then ((spec_l6Rd_pick.f k x1000 bt369.2 3).bind fun bt371 => ((spec_l6Many.f k (⟨#[102]⟩ : ByteArray) (wrap64 (58 + bt371.1))).bind fun t373 => ((spec_l11Rec.f k t373).bind fun t374 => (if x346000.size + t374.size ≤ 9223372036854775807 then (spec_l72Shelf.l1 k (wrap64 (x5 + 1)) x1000 bt371.2 (x346000 ++ t374) x346001) else (none))))) else (some (x346000, x346001, bt369.2)))
end
def spec_l72Shelf.f (k : Nat) (s0_0 : List Int) (s0_1 : Int) : Option (ByteArray × Int × Int) := (spec_l6Rd_pick.f k s0_0 s0_1 9).bind fun bt346 => (spec_l72Shelf.l0 k bt346.1 s0_0 bt346.2 (⟨#[]⟩ : ByteArray) 0)
theorem spec_l72Shelf.mono_l : ∀ k, (∀ y0 y1 y2 y3 y4, LeO (spec_l72Shelf.l0 k y0 y1 y2 y3 y4) (spec_l72Shelf.l0 (k + 1) y0 y1 y2 y3 y4)) ∧ (∀ y0 y1 y2 y3 y4, LeO (spec_l72Shelf.l1 k y0 y1 y2 y3 y4) (spec_l72Shelf.l1 (k + 1) y0 y1 y2 y3 y4))
 | 0 => ⟨fun _ _ _ _ _ r h => by simp [spec_l72Shelf.l0] at h, fun _ _ _ _ _ r h => by simp [spec_l72Shelf.l1] at h⟩
 | k + 1 => by
  obtain ⟨ih0, ih1⟩ := spec_l72Shelf.mono_l k
  refine ⟨?_, ?_⟩
  ·intro y0 y1 y2 y3 y4
   unfold spec_l72Shelf.l0
   repeat' first
   | (with_reducible exact ih0 _ _ _ _ _)
   | (with_reducible exact ih1 _ _ _ _ _)
   | (with_reducible exact spec_ShelfAdd.mono _ _ _ _)
   | (with_reducible exact spec_ShelfForce.mono _ _ _)
   | (with_reducible exact spec_l11Rec.mono _ _)
   | (with_reducible exact spec_l6Many.mono _ _ _)
   | (with_reducible exact spec_l6Rd_pick.mono _ _ _ _)
   | (with_reducible exact spec_l72Bend.mono _ _ _ _)
   | (with_reducible exact spec_l72Rec.mono _ _ _)
   | (with_reducible exact LeO.refl _)
   | (with_reducible exact LeO.none _)
   | (with_reducible refine LeO.ite ?_ ?_)
   | (with_reducible refine LeO.bind ?_ (fun _ => ?_))
   | exact ih0 _ _ _ _ _
   | exact ih1 _ _ _ _ _
   | exact spec_ShelfAdd.mono _ _ _ _
   | exact spec_ShelfForce.mono _ _ _
   | exact spec_l11Rec.mono _ _
   | exact spec_l6Many.mono _ _ _
   | exact spec_l6Rd_pick.mono _ _ _ _
   | exact spec_l72Bend.mono _ _ _ _
   | exact spec_l72Rec.mono _ _ _
   | exact LeO.none _
   | refine LeO.ite ?_ ?_
   | refine LeO.bind ?_ (fun _ => ?_)
  ·intro y0 y1 y2 y3 y4
   unfold spec_l72Shelf.l1
   repeat' first
   | (with_reducible exact ih0 _ _ _ _ _)
   | (with_reducible exact ih1 _ _ _ _ _)
   | (with_reducible exact spec_ShelfAdd.mono _ _ _ _)
   | (with_reducible exact spec_ShelfForce.mono _ _ _)
   | (with_reducible exact spec_l11Rec.mono _ _)
   | (with_reducible exact spec_l6Many.mono _ _ _)
   | (with_reducible exact spec_l6Rd_pick.mono _ _ _ _)
   | (with_reducible exact spec_l72Bend.mono _ _ _ _)
   | (with_reducible exact spec_l72Rec.mono _ _ _)
   | (with_reducible exact LeO.refl _)
   | (with_reducible exact LeO.none _)
   | (with_reducible refine LeO.ite ?_ ?_)
   | (with_reducible refine LeO.bind ?_ (fun _ => ?_))
   | exact ih0 _ _ _ _ _
   | exact ih1 _ _ _ _ _
   | exact spec_ShelfAdd.mono _ _ _ _
   | exact spec_ShelfForce.mono _ _ _
   | exact spec_l11Rec.mono _ _
   | exact spec_l6Many.mono _ _ _
   | exact spec_l6Rd_pick.mono _ _ _ _
   | exact spec_l72Bend.mono _ _ _ _
   | exact spec_l72Rec.mono _ _ _
   | exact LeO.none _
   | refine LeO.ite ?_ ?_
   | refine LeO.bind ?_ (fun _ => ?_)
theorem spec_l72Shelf.mono : ∀ a0 a1 k, LeO (spec_l72Shelf.f k a0 a1) (spec_l72Shelf.f (k + 1) a0 a1) := by
 intro a0 a1 k
 obtain ⟨ih0, ih1⟩ := spec_l72Shelf.mono_l k
 unfold spec_l72Shelf.f
 repeat' first
   | (with_reducible exact ih0 _ _ _ _ _)
   | (with_reducible exact ih1 _ _ _ _ _)
   | (with_reducible exact spec_ShelfAdd.mono _ _ _ _)
   | (with_reducible exact spec_ShelfForce.mono _ _ _)
   | (with_reducible exact spec_l11Rec.mono _ _)
   | (with_reducible exact spec_l6Many.mono _ _ _)
   | (with_reducible exact spec_l6Rd_pick.mono _ _ _ _)
   | (with_reducible exact spec_l72Bend.mono _ _ _ _)
   | (with_reducible exact spec_l72Rec.mono _ _ _)
   | (with_reducible exact LeO.refl _)
   | (with_reducible exact LeO.none _)
   | (with_reducible refine LeO.ite ?_ ?_)
   | (with_reducible refine LeO.bind ?_ (fun _ => ?_))
   | exact ih0 _ _ _ _ _
   | exact ih1 _ _ _ _ _
   | exact spec_ShelfAdd.mono _ _ _ _
   | exact spec_ShelfForce.mono _ _ _
   | exact spec_l11Rec.mono _ _
   | exact spec_l6Many.mono _ _ _
   | exact spec_l6Rd_pick.mono _ _ _ _
   | exact spec_l72Bend.mono _ _ _ _
   | exact spec_l72Rec.mono _ _ _
   | exact LeO.none _
   | refine LeO.ite ?_ ?_
   | refine LeO.bind ?_ (fun _ => ?_)
def spec_l72Shelf.T5 : Bool × List (List Nat × List Nat) := (true, [([], []), ([], []), ([1], [1]), ([0, 2, 2], [0, 2]), ([3], [3]), ([4], [4]), ([4], [4]), ([5, 3, 0, 1, 2, 3, 4, 5], [5])])
def spec_l72Shelf.B5 : List Nat := [0, 0, 2, 7, 15, 31, 31, 63]
theorem spec_l72Shelf.tab5 : rtab .any (opsOf Try.f50 5) = spec_l72Shelf.T5 := by kernel_rfl
theorem spec_l72Shelf.bits5 : waitsOk spec_l72Shelf.T5.2 spec_l72Shelf.B5 = true := by kernel_rfl
def spec_l72Shelf.T12 : Bool × List (List Nat × List Nat) := (true, [([], []), ([0], [0]), ([1], [1]), ([2], [2]), ([], []), ([], []), ([5], [5]), ([6], [6]), ([7], [7]), ([4, 8], [4, 8]), ([3, 9], [3, 9]), ([], []), ([11, 9], [11]), ([10, 12], [10, 12]), ([13], [13]), ([0, 1, 2, 3, 4, 5, 6, 7, 8, 9, 10, 11, 12, 13, 14], []), ([15, 14, 12, 0, 1, 2, 3, 4, 5, 6, 7, 8, 9, 10, 11, 12, 13, 14], [14, 15])])
def spec_l72Shelf.B12 : List Nat := [0, 1, 3, 7, 0, 0, 32, 96, 224, 496, 1023, 0, 3056, 8191, 16383, 32767, 65535]
theorem spec_l72Shelf.tab12 : rtab .any (opsOf Try.f50 12) = spec_l72Shelf.T12 := by kernel_rfl
theorem spec_l72Shelf.bits12 : waitsOk spec_l72Shelf.T12.2 spec_l72Shelf.B12 = true := by kernel_rfl
def spec_l72Shelf.T17 : Bool × List (List Nat × List Nat) := (true, [([], []), ([0], [0]), ([], []), ([2], [2]), ([3], [3]), ([4, 3], [4]), ([5, 5], [5]), ([1, 6], [1, 6]), ([0, 1, 2, 3, 4, 5, 6, 7], []), ([8, 7, 6, 0, 1, 2, 3, 4, 5, 6, 7], [7, 8])])
def spec_l72Shelf.B17 : List Nat := [0, 1, 0, 4, 12, 28, 60, 127, 255, 511]
theorem spec_l72Shelf.tab17 : rtab .any (opsOf Try.f50 17) = spec_l72Shelf.T17 := by kernel_rfl
theorem spec_l72Shelf.bits17 : waitsOk spec_l72Shelf.T17.2 spec_l72Shelf.B17 = true := by kernel_rfl
set_option maxHeartbeats 8000000 in
set_option maxRecDepth 100000 in
theorem spec_l72Shelf.calls (k : Nat) (g : Nat) (s0_0 : List Int) (s0_1 : Int) (r1 : ByteArray) (r2 : Int) (r3 : Int) (w0 w : World) (hI : IsS84 w0 w g s0_0 s0_1) (hB : Below w0.heap.size w0 w) (h : spec_l72Shelf.f k s0_0 s0_1 = some (r1, r2, r3)) :
  Calls Try.prog 50 #[.pointer (some ⟨g, 0, none⟩)] w fun e w' => e = .returned (.agg #[.string r1, .int .i64 r2]) ∧ IsS84 w0 w' g s0_0 r3 ∧ Below w0.heap.size w0 w' ∧ KeepBut w w' g none := by
 have hu26 := Try.underlying26
 have HI0 := Aside0.mk hI
 have HK := Aside0.mk (KeepBut.refl w g none)
 have HL := Aside0.mk hB.size
 clear hI
 have HW0 := Aside0.mk hB.size
 have HB := Aside0.mk hB
 clear hB
 have H := h
 clear h
 unfold spec_l72Shelf.f at H
 obtain ⟨⟨t346, t347⟩, A20, H⟩ := Option.bind_eq_some_iff.mp H
 try dsimp only at H
 have A2 := Aside0.mk A20
 clear A20
 have H' := Aside0.mk H
 clear H
 go_enter Try.func50, Try.ntmps50
 go_wp2_with (first | ((with_reducible refine gate_dst (N := 2) rfl ?_); refine box_event ?hg (N := 2) ?hd (cs := #[.string (⟨#[]⟩ : ByteArray), .int .i64 0]) (t := 26) ?hr ?_; (case hd => rfl); (case hg => rfl); (case hr => first | (go_simp; done) | (go_simp; rfl)); intro gb344 hg w3 hbox hb; have n0_ := Aside0.mk (IsS84.below zz6 hb); have n1_ := Aside0.mk (KeepBut.trans zz2 (KeepBut.of_below hb g none) (.inl rfl)); have n2_ := Aside0.mk (below_step zz4 hb); have n3_ := Aside0.mk (hbox); have n4_ := Aside0.mk ((by rw [hg]; exact (keep_size (w := w) (g := g) (row := none) zz2) : w.heap.size ≤ gb344)); have n5_ := Aside0.mk ((Nat.le_trans HW0.out (by rw [hg]; exact (keep_size (w := w) (g := g) (row := none) zz2) : w.heap.size ≤ gb344) : w0.heap.size ≤ gb344)); have n6_ := Aside0.mk ((by rw [hg]; exact Nat.ne_of_lt (IsS84.lt (show IsS84 w0 _ g s0_0 s0_1 from by repeat (first | (with_reducible first | exact HI0.out | apply IsS84.alloc | apply IsS84.drewN | apply IsS84.drew | apply IsS84.set_1) | exact HI0.out))) : g ≠ gb344)); have n7_ := Aside0.mk ((by rw [hg]; exact Nat.ne_of_gt (IsS84.lt (show IsS84 w0 _ g s0_0 s0_1 from by repeat (first | (with_reducible first | exact HI0.out | apply IsS84.alloc | apply IsS84.drewN | apply IsS84.drew | apply IsS84.set_1) | exact HI0.out))) : gb344 ≠ g)); clear HI0; clear HK; clear HB; have HI0 := n0_; have HK := n1_; have HB := n2_; have BK344 := n3_; have GW344 := n4_; have GE344 := n5_; have NB0_344 := n6_; have NB344_0 := n7_; clear n0_ n1_ n2_ n3_ n4_ n5_ n6_ n7_; clear hb hbox hg) | ((with_reducible refine gate_dst (N := 3) rfl ?_); refine box_event ?hg (N := 3) ?hd (cs := #[.string (⟨#[]⟩ : ByteArray), .int .i64 0]) (t := 26) ?hr ?_; (case hd => rfl); (case hg => rfl); (case hr => first | (go_simp; done) | (go_simp; rfl)); intro gb345 hg w4 hbox hb; have n0_ := Aside0.mk (IsS84.below (by repeat (first | (with_reducible first | exact HI0.out | apply IsS84.alloc | apply IsS84.drewN | apply IsS84.drew | apply IsS84.set_1 | refine IsS84.far ?_ NB0_344.out _) | exact HI0.out)) hb); have n1_ := Aside0.mk (blk_below (g := gb344) (o := .cells #[.string (⟨#[]⟩ : ByteArray), .int .i64 0] 26 (0, 0)) zz22 hb); have n2_ := Aside0.mk (KeepBut.trans zz57 (KeepBut.of_below hb g none) (.inl rfl)); have n3_ := Aside0.mk (below_step (by repeat (first | (with_reducible first | exact HB.out | apply below_alloc | apply pw_below_drewN | apply below_drew1 | refine below_set ?_ (IsS84.ge HI0.out) | refine below_set ?_ GE344.out) | exact HB.out)) hb); have n4_ := Aside0.mk (hbox); have n5_ := Aside0.mk ((by rw [hg]; exact (keep_size (w := w) (g := g) (row := none) zz57) : w.heap.size ≤ gb345)); have n6_ := Aside0.mk ((Nat.le_trans HW0.out (by rw [hg]; exact (keep_size (w := w) (g := g) (row := none) zz57) : w.heap.size ≤ gb345) : w0.heap.size ≤ gb345)); have n7_ := Aside0.mk ((by rw [hg]; exact Nat.ne_of_lt (blk_lt (g := gb344) (o := .cells #[.string (⟨#[]⟩ : ByteArray), .int .i64 0] 26 (0, 0)) zz22) : gb344 ≠ gb345)); have n8_ := Aside0.mk ((by rw [hg]; exact Nat.ne_of_gt (blk_lt (g := gb344) (o := .cells #[.string (⟨#[]⟩ : ByteArray), .int .i64 0] 26 (0, 0)) zz22) : gb345 ≠ gb344)); have n9_ := Aside0.mk ((by rw [hg]; exact Nat.ne_of_lt (IsS84.lt (show IsS84 w0 _ g s0_0 s0_1 from by repeat (first | (with_reducible first | exact HI0.out | apply IsS84.alloc | apply IsS84.drewN | apply IsS84.drew | apply IsS84.set_1 | refine IsS84.far ?_ NB0_344.out _) | exact HI0.out))) : g ≠ gb345)); have n10_ := Aside0.mk ((by rw [hg]; exact Nat.ne_of_gt (IsS84.lt (show IsS84 w0 _ g s0_0 s0_1 from by repeat (first | (with_reducible first | exact HI0.out | apply IsS84.alloc | apply IsS84.drewN | apply IsS84.drew | apply IsS84.set_1 | refine IsS84.far ?_ NB0_344.out _) | exact HI0.out))) : gb345 ≠ g)); clear HI0; clear BK344; clear HK; clear HB; have HI0 := n0_; have BK344 := n1_; have HK := n2_; have HB := n3_; have BK345 := n4_; have GW345 := n5_; have GE345 := n6_; have NB344_345 := n7_; have NB345_344 := n8_; have NB0_345 := n9_; have NB345_0 := n10_; clear n0_ n1_ n2_ n3_ n4_ n5_ n6_ n7_ n8_ n9_ n10_; clear hb hbox hg; have hnb5 := NB345_344.out; have hnc5 := NB344_345.out; have hnb6 := NB345_0.out; have hnc6 := NB0_345.out; have hcz7_0 : w4.cell? ⟨gb345, 0, none⟩ = some (.string (⟨#[]⟩ : ByteArray)) := (blk_cell BK345.out 0).trans rfl; have hcz7_1 : w4.cell? ⟨gb345, 1, none⟩ = some (.int .i64 0) := (blk_cell BK345.out 1).trans rfl; have hfz7_0 := blk_frozen BK345.out 0; have hfz7_1 := blk_frozen BK345.out 1) | ((with_reducible refine gate_callee (f := 53) rfl ?_); refine zgo_ (some 8) Try.func53 #[.pointer (some ⟨g, 0, none⟩), .int .i64 9] ?_; (with_reducible refine (spec_l6Rd_pick.calls k g s0_0 s0_1 9 t346 t347 w0 _ ?side1 ?side2 A2.out).mono ?_); (case side1 => exact zz12); (case side2 => exact zz10); rintro e w8 ⟨rfl, hi, hb, hk⟩; refine ⟨_, rfl, ?_⟩; have n0_ := Aside0.mk (KeepBut.blk hk (g' := gb344) (o := .cells #[.string (⟨#[]⟩ : ByteArray), .int .i64 0] 26 (0, 0)) zz36 NB344_0.out (by simp)); have n1_ := Aside0.mk (KeepBut.blk hk (g' := gb345) (o := .cells #[.string (⟨#[]⟩ : ByteArray), .int .i64 0] 26 (0, 0)) (by (with_reducible repeat (first | refine blk_drewN ?_ _ | refine blk_drew ?_ | refine blk_alloc ?_ _)); refine blk_put (cs := #[.string (⟨#[]⟩ : ByteArray), .int .i64 0]) ?_ 1 _ rfl; (with_reducible repeat (first | refine blk_drewN ?_ _ | refine blk_drew ?_ | refine blk_alloc ?_ _)); refine blk_put (cs := #[.string (⟨#[]⟩ : ByteArray), .int .i64 0]) ?_ 0 _ rfl; (with_reducible repeat (first | refine blk_drewN ?_ _ | refine blk_drew ?_ | refine blk_alloc ?_ _)); exact BK345.out) NB345_0.out (by simp)); have n2_ := Aside0.mk (KeepBut.trans zz11 hk (.inl rfl)); have n3_ := Aside0.mk (hb); have n4_ := Aside0.mk (hi); clear BK344; clear BK345; clear HK; clear HB; clear HI0; have BK344 := n0_; have BK345 := n1_; have HK := n2_; have HB := n3_; have HI0 := n4_; clear n0_ n1_ n2_ n3_ n4_; (try clear hb); (try clear hb2); (try clear hk); (try clear hi)))
 go_loopg [4] k (fun kq v4 w' => ∃ (x4_1 : Int) (x1001_1 : Int) (x346000_1 : ByteArray) (x346001_1 : Int), v4 = .int .i64 x4_1 ∧ Aside0 (spec_l72Shelf.l0 kq x4_1 s0_0 x1001_1 x346000_1 x346001_1 = some (r1, r2, r3)) ∧ Aside0 (kq ≤ k) ∧ Aside0 (w'.heap[gb344]? = some (.cells #[.string (⟨#[]⟩ : ByteArray), .int .i64 0] 26 (0, 0))) ∧ Aside0 (w'.heap[gb345]? = some (.cells #[.string x346000_1, .int .i64 x346001_1] 26 (0, 0))) ∧ Aside0 (IsS84 w0 w' g s0_0 x1001_1) ∧ Aside0 (KeepBut w w' g none) ∧ Aside0 (Below w0.heap.size w0 w'))
 case atStart => exact ⟨(t346), (t347), ((⟨#[]⟩ : ByteArray)), (0), zz20, H', ⟨Nat.le_refl _⟩, ⟨by (with_reducible repeat (first | refine blk_drewN ?_ _ | refine blk_drew ?_ | refine blk_alloc ?_ _)); exact BK344.out⟩, ⟨by (with_reducible repeat (first | refine blk_drewN ?_ _ | refine blk_drew ?_ | refine blk_alloc ?_ _)); exact BK345.out⟩, ⟨by repeat (first | (with_reducible first | exact HI0.out | apply IsS84.alloc | apply IsS84.drewN | apply IsS84.drew | apply IsS84.set_1 | refine IsS84.far ?_ NB0_344.out _ | refine IsS84.far ?_ NB0_345.out _) | exact HI0.out)⟩, ⟨by repeat (first | (with_reducible first | exact HK.out | apply KeepBut.set_ | apply keep_drewN | apply keep_drew | apply keep_alloc | refine keep_far ?_ GW344.out _ | refine keep_far ?_ GW345.out _) | exact HK.out)⟩, ⟨by repeat (first | (with_reducible first | exact HB.out | apply below_alloc | apply pw_below_drewN | apply below_drew1 | refine below_set ?_ (IsS84.ge HI0.out) | refine below_set ?_ GE344.out | refine below_set ?_ GE345.out) | exact HB.out)⟩⟩
 case round =>
  clear H'
  try clear p2
  try clear c5
  try clear c6
  try clear hcz7_0
  try clear hcz7_1
  try clear hfz7_0
  try clear hfz7_1
  obtain ⟨x4_1, x1001_1, x346000_1, x346001_1, rfl, HA, HK1, BK344, BK345, HI0, HK, HB⟩ := hrel
  cases gk with
  | zero => exact absurd HA.out (by simp [spec_l72Shelf.l0])
  | succ k1 =>
   have H := HA.out
   clear HA
   simp only [spec_l72Shelf.l0] at H
   by_cases c9 : x4_1 > 0
   ·rw [if_pos c9] at H
    have c9b0 : decide (0 < x4_1) = true := decide_eq_true c9
    clear c9
    obtain ⟨⟨t348, t349⟩, A100, H⟩ := Option.bind_eq_some_iff.mp H
    try dsimp only at H
    have A10 := Aside0.mk A100
    clear A100
    obtain ⟨⟨t350, t351, t352⟩, A110, H⟩ := Option.bind_eq_some_iff.mp H
    try dsimp only at H
    have A11 := Aside0.mk A110
    clear A110
    obtain ⟨⟨t353, t354⟩, A120, H⟩ := Option.bind_eq_some_iff.mp H
    try dsimp only at H
    have A12 := Aside0.mk A120
    clear A120
    by_cases c13 : t353 = 0
    ·rw [if_pos c13] at H
     have c13b0 : (t353 == 0) = true := beq_iff_eq.mpr c13
     have c13b1 : (t353 != 0) = false := bne_eq_false_iff_eq.mpr c13
     clear c13
     obtain ⟨⟨t355, t356⟩, A140, H⟩ := Option.bind_eq_some_iff.mp H
     try dsimp only at H
     have A14 := Aside0.mk A140
     clear A140
     have H' := Aside0.mk H
     clear H
     try go_wp2
     have n0_ := Aside0.mk (blk_drew BK344.out)
     have n1_ := Aside0.mk (blk_drew BK345.out)
     have n2_ := Aside0.mk (IsS84.drew HI0.out)
     have n3_ := Aside0.mk (keep_drew HK.out)
     have n4_ := Aside0.mk (below_drew1 HB.out)
     clear BK344
     clear BK345
     clear HI0
     clear HK
     clear HB
     have BK344 := n0_
     have BK345 := n1_
     have HI0 := n2_
     have HK := n3_
     have HB := n4_
     clear n0_ n1_ n2_ n3_ n4_
     refine start_ (n := 8) (S := fun w' => w'.cell? ⟨gb345, 0, none⟩ = some (.string x346000_1) ∧ w'.cell? ⟨gb345, 1, none⟩ = some (.int .i64 x346001_1)) (ds := [7]) #[false, false, false, false, false, false, false, false] (by kernel_rfl) rfl rfl ⟨(blk_cell BK345.out 0).trans rfl, (blk_cell BK345.out 1).trans rfl⟩ (fun hHeld => ?_); refine with_tabW spec_l72Shelf.tab5 spec_l72Shelf.bits5 (fun HT_ HW_ => ?_)
     generalize wr.drew = w15 at BK344 BK345 HI0 HK HB hHeld ⊢
     refine pure_ (i := 1) (N := some 15) (v := ?_) (a' := ?_) #[false, true, false, false, false, false, false, false] rfl rfl (any_of HT_.out (by kernel_rfl)) (fun _ _ _ h => h) (Or.inl ⟨by rfl, ?_⟩) ?_ ?_
     rotate_left
     ·intro w'
      go_simp
      with_reducible rfl
     rotate_left
     ·simp only [Act.put, List.setIfInBounds_toArray, List.set_cons_zero, List.set_cons_succ, i64_w, i32_w]
      rfl
     refine take_ (i := 0) (N := some 14) (v := ?_) (a' := ?_) #[true, true, false, false, false, false, false, false] rfl rfl (take_ofW HT_.out HW_.out (by kernel_rfl)) (fun _ _ _ h => h) (Or.inl ⟨by rfl, ?_⟩) hHeld ?_ ?_
     rotate_left
     ·rintro w' ⟨s0, s1⟩
      go_simp
      with_reducible rfl
     rotate_left
     ·simp only [Act.put, List.setIfInBounds_toArray, List.set_cons_zero, List.set_cons_succ, i64_w, i32_w]
      rfl
     refine one_ (i := 2) (N := some 16) #[true, true, true, false, false, false, false, false] rfl rfl (one_of HT_.out (by kernel_rfl)) (by decide) (fun K hK => ?_)
     refine goes_ Try.func58 (by kernel_rfl) rfl #[.pointer (some ⟨g, 0, none⟩)] (by rfl) rfl rfl zz16 ?_
     with_reducible refine (spec_l72Rec.calls k1 g s0_0 x1001_1 t348 t349 w0 _ ?side1 ?side2 A10.out).mono ?_
     (case side1 => exact zz12)
     (case side2 => exact zz10)
     rintro e w16 ⟨rfl, hi, hb, hk⟩
     refine ⟨_, rfl, ?_⟩
     have n0_ := Aside0.mk (KeepBut.blk hk (g' := gb344) (o := .cells #[.string (⟨#[]⟩ : ByteArray), .int .i64 0] 26 (0, 0)) zz22 NB344_0.out (by simp))
     have n1_ := Aside0.mk (KeepBut.blk hk (g' := gb345) (o := .cells #[.string x346000_1, .int .i64 x346001_1] 26 (0, 0)) zz24 NB345_0.out (by simp))
     have n2_ := Aside0.mk (KeepBut.trans zz11 hk (.inl rfl))
     have n3_ := Aside0.mk (hb)
     have n4_ := Aside0.mk (hi)
     clear BK344
     clear BK345
     clear HK
     clear HB
     clear HI0
     have BK344 := n0_
     have BK345 := n1_
     have HK := n2_
     have HB := n3_
     have HI0 := n4_
     clear n0_ n1_ n2_ n3_ n4_
     (try clear hb)
     (try clear hb2)
     (try clear hk)
     (try clear hi)
     refine hK.out _ _ ⟨(blk_cell BK345.out 0).trans rfl, (blk_cell BK345.out 1).trans rfl⟩ (fun hHeld => ?_)
     clear hK K
     refine norm_ (a' := ?_) ?_ ?_
     rotate_left
     ·show Act.put _ (some 16) _ = _
      simp only [Act.put, List.setIfInBounds_toArray, List.set_cons_zero, List.set_cons_succ, i64_w, i32_w]
      rfl
     refine one_ (i := 3) (N := some 17) #[true, true, true, true, false, false, false, false] rfl rfl (one_of HT_.out (by kernel_rfl)) (by decide) (fun K hK => ?_)
     refine goes_ Try.func57 (by kernel_rfl) rfl #[.agg #[.string x346000_1, .int .i64 x346001_1], .string t348] (by rfl) rfl rfl zz16 ?_
     with_reducible refine (spec_ShelfAdd.calls k1 x346000_1 x346001_1 t348 t350 t351 t352 _ A11.out).mono ?_
     rintro e w17 ⟨rfl, hb⟩
     refine ⟨_, rfl, ?_⟩
     have n0_ := Aside0.mk (blk_below (g := gb344) (o := .cells #[.string (⟨#[]⟩ : ByteArray), .int .i64 0] 26 (0, 0)) zz22 hb)
     have n1_ := Aside0.mk (blk_below (g := gb345) (o := .cells #[.string x346000_1, .int .i64 x346001_1] 26 (0, 0)) zz24 hb)
     have n2_ := Aside0.mk (IsS84.below zz12 hb)
     have n3_ := Aside0.mk (KeepBut.trans zz11 (KeepBut.of_below hb g none) (.inl rfl))
     have n4_ := Aside0.mk (below_step zz10 hb)
     clear BK344
     clear BK345
     clear HI0
     clear HK
     clear HB
     have BK344 := n0_
     have BK345 := n1_
     have HI0 := n2_
     have HK := n3_
     have HB := n4_
     clear n0_ n1_ n2_ n3_ n4_
     (try clear hb)
     (try clear hb2)
     (try clear hk)
     (try clear hi)
     refine hK.out _ _ ⟨(blk_cell BK345.out 0).trans rfl, (blk_cell BK345.out 1).trans rfl⟩ (fun hHeld => ?_)
     clear hK K
     refine norm_ (a' := ?_) ?_ ?_
     rotate_left
     ·show Act.put _ (some 17) _ = _
      simp only [Act.put, List.setIfInBounds_toArray, List.set_cons_zero, List.set_cons_succ, i64_w, i32_w]
      rfl
     refine pure_ (i := 4) (N := some 13) (v := ?_) (a' := ?_) #[true, true, true, true, true, false, false, false] rfl rfl (any_of HT_.out (by kernel_rfl)) (fun _ _ _ h => h) (Or.inl ⟨by rfl, ?_⟩) ?_ ?_
     rotate_left
     ·intro w'
      go_simp
      with_reducible rfl
     rotate_left
     ·simp only [Act.put, List.setIfInBounds_toArray, List.set_cons_zero, List.set_cons_succ, i64_w, i32_w]
      rfl
     refine pure_ (i := 5) (N := some 18) (v := ?_) (a' := ?_) #[true, true, true, true, true, true, false, false] rfl rfl (any_of HT_.out (by kernel_rfl)) (fun _ _ _ h => h) (Or.inl ⟨by rfl, ?_⟩) ?_ ?_
     rotate_left
     ·intro w'
      go_simp
      with_reducible rfl
     rotate_left
     ·simp only [Act.put, List.setIfInBounds_toArray, List.set_cons_zero, List.set_cons_succ, i64_w, i32_w]
      rfl
     refine pure_ (i := 6) (N := some 19) (v := ?_) (a' := ?_) #[true, true, true, true, true, true, true, false] rfl rfl (any_of HT_.out (by kernel_rfl)) (fun _ _ _ h => h) (Or.inl ⟨by rfl, ?_⟩) ?_ ?_
     rotate_left
     ·intro w'
      go_simp
      with_reducible rfl
     rotate_left
     ·simp only [Act.put, List.setIfInBounds_toArray, List.set_cons_zero, List.set_cons_succ, i64_w, i32_w]
      rfl
     refine last_ (i := 7) (N := none) #[true, true, true, true, true, true, true, true] rfl rfl (one_of HT_.out (by kernel_rfl)) (by decide) (fun K hK => ?_)
     have hs18 : w17.cell? ⟨gb345, 0, none⟩ = some (.string x346000_1) := (blk_cell BK345.out 0).trans rfl
     have hfs18 := blk_frozen BK345.out 0
     have hns18_0 := NB344_345.out
     have hms18_0 := NB345_344.out
     have hs19 : w17.cell? ⟨gb345, 1, none⟩ = some (.int .i64 x346001_1) := (blk_cell BK345.out 1).trans rfl
     have hfs19 := blk_frozen BK345.out 1
     have hns19_0 := NB344_345.out
     have hms19_0 := NB345_344.out
     refine skip_ (w1 := ?_) (by rfl) rfl ?_ ?_
     rotate_left
     ·go_simp
      rfl
     refine hK.out _ _ ?_
     clear hK K
     refine done_ (done_of HT_.out (by kernel_rfl)) ?_
     try go_wp2_with (first | ((with_reducible refine gate_callee (f := 53) rfl ?_); refine zgo_ (some 21) Try.func53 #[.pointer (some ⟨g, 0, none⟩), .int .i64 3] ?_; (with_reducible refine (spec_l6Rd_pick.calls k1 g s0_0 t349 3 t353 t354 w0 _ ?side1 ?side2 A12.out).mono ?_); (case side1 => exact zz12); (case side2 => exact zz10); rintro e w20 ⟨rfl, hi, hb, hk⟩; refine ⟨_, rfl, ?_⟩; have n0_ := Aside0.mk (KeepBut.blk hk (g' := gb344) (o := .cells #[.string (⟨#[]⟩ : ByteArray), .int .i64 0] 26 (0, 0)) zz36 NB344_0.out (by simp)); have n1_ := Aside0.mk (KeepBut.blk hk (g' := gb345) (o := .cells #[.string t350, .int .i64 t351] 26 (0, 0)) (by (with_reducible repeat (first | refine blk_drewN ?_ _ | refine blk_drew ?_ | refine blk_alloc ?_ _)); refine blk_put (cs := #[.string t350, .int .i64 x346001_1]) ?_ 1 _ rfl; (with_reducible repeat (first | refine blk_drewN ?_ _ | refine blk_drew ?_ | refine blk_alloc ?_ _)); refine blk_put (cs := #[.string x346000_1, .int .i64 x346001_1]) ?_ 0 _ rfl; (with_reducible repeat (first | refine blk_drewN ?_ _ | refine blk_drew ?_ | refine blk_alloc ?_ _)); exact BK345.out) NB345_0.out (by simp)); have n2_ := Aside0.mk (KeepBut.trans zz11 hk (.inl rfl)); have n3_ := Aside0.mk (hb); have n4_ := Aside0.mk (hi); clear BK344; clear BK345; clear HK; clear HB; clear HI0; have BK344 := n0_; have BK345 := n1_; have HK := n2_; have HB := n3_; have HI0 := n4_; clear n0_ n1_ n2_ n3_ n4_; (try clear hb); (try clear hb2); (try clear hk); (try clear hi); have hnb21 := NB345_344.out; have hnc21 := NB344_345.out; have hnb22 := NB345_0.out; have hnc22 := NB0_345.out; have hcz23_0 : w20.cell? ⟨gb345, 0, none⟩ = some (.string t350) := (blk_cell BK345.out 0).trans rfl; have hcz23_1 : w20.cell? ⟨gb345, 1, none⟩ = some (.int .i64 t351) := (blk_cell BK345.out 1).trans rfl; have hfz23_0 := blk_frozen BK345.out 0; have hfz23_1 := blk_frozen BK345.out 1) | ((with_reducible refine gate_callee (f := 21) rfl ?_); refine zgo_ (some 24) Try.func21 #[.agg #[.string t350, .int .i64 t351]] ?_; (with_reducible refine (spec_ShelfForce.calls k1 t350 t351 t355 t356 _ A14.out).mono ?_); rintro e w24 ⟨rfl, hb⟩; refine ⟨_, rfl, ?_⟩; have n0_ := Aside0.mk (blk_below (g := gb344) (o := .cells #[.string (⟨#[]⟩ : ByteArray), .int .i64 0] 26 (0, 0)) zz22 hb); have n1_ := Aside0.mk (blk_below (g := gb345) (o := .cells #[.string t350, .int .i64 t351] 26 (0, 0)) zz24 hb); have n2_ := Aside0.mk (IsS84.below zz12 hb); have n3_ := Aside0.mk (KeepBut.trans zz11 (KeepBut.of_below hb g none) (.inl rfl)); have n4_ := Aside0.mk (below_step zz10 hb); clear BK344; clear BK345; clear HI0; clear HK; clear HB; have BK344 := n0_; have BK345 := n1_; have HI0 := n2_; have HK := n3_; have HB := n4_; clear n0_ n1_ n2_ n3_ n4_; (try clear hb); (try clear hb2); (try clear hk); (try clear hi); have hcz25_0 : w24.cell? ⟨gb345, 0, none⟩ = some (.string t350) := (blk_cell BK345.out 0).trans rfl; have hcz25_1 : w24.cell? ⟨gb345, 1, none⟩ = some (.int .i64 t351) := (blk_cell BK345.out 1).trans rfl; have hfz25_0 := blk_frozen BK345.out 0; have hfz25_1 := blk_frozen BK345.out 1))
     go_roundg k1
     case measure => have := HK1.out; omega
     case rel => exact ⟨(wrap64 (x4_1 - 1)), (t354), (t355), (t356), zz20, H', ⟨by have := HK1.out; omega⟩, ⟨by (with_reducible repeat (first | refine blk_drewN ?_ _ | refine blk_drew ?_ | refine blk_alloc ?_ _)); refine blk_far ?_ NB344_345.out _; (with_reducible repeat (first | refine blk_drewN ?_ _ | refine blk_drew ?_ | refine blk_alloc ?_ _)); refine blk_far ?_ NB344_345.out _; (with_reducible repeat (first | refine blk_drewN ?_ _ | refine blk_drew ?_ | refine blk_alloc ?_ _)); exact BK344.out⟩, ⟨by (with_reducible repeat (first | refine blk_drewN ?_ _ | refine blk_drew ?_ | refine blk_alloc ?_ _)); refine blk_put (cs := #[.string t355, .int .i64 t351]) ?_ 1 _ rfl; (with_reducible repeat (first | refine blk_drewN ?_ _ | refine blk_drew ?_ | refine blk_alloc ?_ _)); refine blk_put (cs := #[.string t350, .int .i64 t351]) ?_ 0 _ rfl; (with_reducible repeat (first | refine blk_drewN ?_ _ | refine blk_drew ?_ | refine blk_alloc ?_ _)); exact BK345.out⟩, ⟨by repeat (first | (with_reducible first | exact HI0.out | apply IsS84.alloc | apply IsS84.drewN | apply IsS84.drew | apply IsS84.set_1 | refine IsS84.far ?_ NB0_344.out _ | refine IsS84.far ?_ NB0_345.out _) | exact HI0.out)⟩, ⟨by repeat (first | (with_reducible first | exact HK.out | apply KeepBut.set_ | apply keep_drewN | apply keep_drew | apply keep_alloc | refine keep_far ?_ GW344.out _ | refine keep_far ?_ GW345.out _) | exact HK.out)⟩, ⟨by repeat (first | (with_reducible first | exact HB.out | apply below_alloc | apply pw_below_drewN | apply below_drew1 | refine below_set ?_ (IsS84.ge HI0.out) | refine below_set ?_ GE344.out | refine below_set ?_ GE345.out) | exact HB.out)⟩⟩
    ·rw [if_neg c13] at H
     have c13b0 : (t353 == 0) = false := beq_eq_false_iff_ne.mpr c13
     have c13b1 : (t353 != 0) = true := bne_iff_ne.mpr c13
     have H' := Aside0.mk H
     clear H
     try go_wp2
     have n0_ := Aside0.mk (blk_drew BK344.out)
     have n1_ := Aside0.mk (blk_drew BK345.out)
     have n2_ := Aside0.mk (IsS84.drew HI0.out)
     have n3_ := Aside0.mk (keep_drew HK.out)
     have n4_ := Aside0.mk (below_drew1 HB.out)
     clear BK344
     clear BK345
     clear HI0
     clear HK
     clear HB
     have BK344 := n0_
     have BK345 := n1_
     have HI0 := n2_
     have HK := n3_
     have HB := n4_
     clear n0_ n1_ n2_ n3_ n4_
     refine start_ (n := 8) (S := fun w' => w'.cell? ⟨gb345, 0, none⟩ = some (.string x346000_1) ∧ w'.cell? ⟨gb345, 1, none⟩ = some (.int .i64 x346001_1)) (ds := [7]) #[false, false, false, false, false, false, false, false] (by kernel_rfl) rfl rfl ⟨(blk_cell BK345.out 0).trans rfl, (blk_cell BK345.out 1).trans rfl⟩ (fun hHeld => ?_); refine with_tabW spec_l72Shelf.tab5 spec_l72Shelf.bits5 (fun HT_ HW_ => ?_)
     generalize wr.drew = w26 at BK344 BK345 HI0 HK HB hHeld ⊢
     refine pure_ (i := 1) (N := some 15) (v := ?_) (a' := ?_) #[false, true, false, false, false, false, false, false] rfl rfl (any_of HT_.out (by kernel_rfl)) (fun _ _ _ h => h) (Or.inl ⟨by rfl, ?_⟩) ?_ ?_
     rotate_left
     ·intro w'
      go_simp
      with_reducible rfl
     rotate_left
     ·simp only [Act.put, List.setIfInBounds_toArray, List.set_cons_zero, List.set_cons_succ, i64_w, i32_w]
      rfl
     refine take_ (i := 0) (N := some 14) (v := ?_) (a' := ?_) #[true, true, false, false, false, false, false, false] rfl rfl (take_ofW HT_.out HW_.out (by kernel_rfl)) (fun _ _ _ h => h) (Or.inl ⟨by rfl, ?_⟩) hHeld ?_ ?_
     rotate_left
     ·rintro w' ⟨s0, s1⟩
      go_simp
      with_reducible rfl
     rotate_left
     ·simp only [Act.put, List.setIfInBounds_toArray, List.set_cons_zero, List.set_cons_succ, i64_w, i32_w]
      rfl
     refine one_ (i := 2) (N := some 16) #[true, true, true, false, false, false, false, false] rfl rfl (one_of HT_.out (by kernel_rfl)) (by decide) (fun K hK => ?_)
     refine goes_ Try.func58 (by kernel_rfl) rfl #[.pointer (some ⟨g, 0, none⟩)] (by rfl) rfl rfl zz16 ?_
     with_reducible refine (spec_l72Rec.calls k1 g s0_0 x1001_1 t348 t349 w0 _ ?side1 ?side2 A10.out).mono ?_
     (case side1 => exact zz12)
     (case side2 => exact zz10)
     rintro e w27 ⟨rfl, hi, hb, hk⟩
     refine ⟨_, rfl, ?_⟩
     have n0_ := Aside0.mk (KeepBut.blk hk (g' := gb344) (o := .cells #[.string (⟨#[]⟩ : ByteArray), .int .i64 0] 26 (0, 0)) zz22 NB344_0.out (by simp))
     have n1_ := Aside0.mk (KeepBut.blk hk (g' := gb345) (o := .cells #[.string x346000_1, .int .i64 x346001_1] 26 (0, 0)) zz24 NB345_0.out (by simp))
     have n2_ := Aside0.mk (KeepBut.trans zz11 hk (.inl rfl))
     have n3_ := Aside0.mk (hb)
     have n4_ := Aside0.mk (hi)
     clear BK344
     clear BK345
     clear HK
     clear HB
     clear HI0
     have BK344 := n0_
     have BK345 := n1_
     have HK := n2_
     have HB := n3_
     have HI0 := n4_
     clear n0_ n1_ n2_ n3_ n4_
     (try clear hb)
     (try clear hb2)
     (try clear hk)
     (try clear hi)
     refine hK.out _ _ ⟨(blk_cell BK345.out 0).trans rfl, (blk_cell BK345.out 1).trans rfl⟩ (fun hHeld => ?_)
     clear hK K
     refine norm_ (a' := ?_) ?_ ?_
     rotate_left
     ·show Act.put _ (some 16) _ = _
      simp only [Act.put, List.setIfInBounds_toArray, List.set_cons_zero, List.set_cons_succ, i64_w, i32_w]
      rfl
     refine one_ (i := 3) (N := some 17) #[true, true, true, true, false, false, false, false] rfl rfl (one_of HT_.out (by kernel_rfl)) (by decide) (fun K hK => ?_)
     refine goes_ Try.func57 (by kernel_rfl) rfl #[.agg #[.string x346000_1, .int .i64 x346001_1], .string t348] (by rfl) rfl rfl zz16 ?_
     with_reducible refine (spec_ShelfAdd.calls k1 x346000_1 x346001_1 t348 t350 t351 t352 _ A11.out).mono ?_
     rintro e w28 ⟨rfl, hb⟩
     refine ⟨_, rfl, ?_⟩
     have n0_ := Aside0.mk (blk_below (g := gb344) (o := .cells #[.string (⟨#[]⟩ : ByteArray), .int .i64 0] 26 (0, 0)) zz22 hb)
     have n1_ := Aside0.mk (blk_below (g := gb345) (o := .cells #[.string x346000_1, .int .i64 x346001_1] 26 (0, 0)) zz24 hb)
     have n2_ := Aside0.mk (IsS84.below zz12 hb)
     have n3_ := Aside0.mk (KeepBut.trans zz11 (KeepBut.of_below hb g none) (.inl rfl))
     have n4_ := Aside0.mk (below_step zz10 hb)
     clear BK344
     clear BK345
     clear HI0
     clear HK
     clear HB
     have BK344 := n0_
     have BK345 := n1_
     have HI0 := n2_
     have HK := n3_
     have HB := n4_
     clear n0_ n1_ n2_ n3_ n4_
     (try clear hb)
     (try clear hb2)
     (try clear hk)
     (try clear hi)
     refine hK.out _ _ ⟨(blk_cell BK345.out 0).trans rfl, (blk_cell BK345.out 1).trans rfl⟩ (fun hHeld => ?_)
     clear hK K
     refine norm_ (a' := ?_) ?_ ?_
     rotate_left
     ·show Act.put _ (some 17) _ = _
      simp only [Act.put, List.setIfInBounds_toArray, List.set_cons_zero, List.set_cons_succ, i64_w, i32_w]
      rfl
     refine pure_ (i := 4) (N := some 13) (v := ?_) (a' := ?_) #[true, true, true, true, true, false, false, false] rfl rfl (any_of HT_.out (by kernel_rfl)) (fun _ _ _ h => h) (Or.inl ⟨by rfl, ?_⟩) ?_ ?_
     rotate_left
     ·intro w'
      go_simp
      with_reducible rfl
     rotate_left
     ·simp only [Act.put, List.setIfInBounds_toArray, List.set_cons_zero, List.set_cons_succ, i64_w, i32_w]
      rfl
     refine pure_ (i := 5) (N := some 18) (v := ?_) (a' := ?_) #[true, true, true, true, true, true, false, false] rfl rfl (any_of HT_.out (by kernel_rfl)) (fun _ _ _ h => h) (Or.inl ⟨by rfl, ?_⟩) ?_ ?_
     rotate_left
     ·intro w'
      go_simp
      with_reducible rfl
     rotate_left
     ·simp only [Act.put, List.setIfInBounds_toArray, List.set_cons_zero, List.set_cons_succ, i64_w, i32_w]
      rfl
     refine pure_ (i := 6) (N := some 19) (v := ?_) (a' := ?_) #[true, true, true, true, true, true, true, false] rfl rfl (any_of HT_.out (by kernel_rfl)) (fun _ _ _ h => h) (Or.inl ⟨by rfl, ?_⟩) ?_ ?_
     rotate_left
     ·intro w'
      go_simp
      with_reducible rfl
     rotate_left
     ·simp only [Act.put, List.setIfInBounds_toArray, List.set_cons_zero, List.set_cons_succ, i64_w, i32_w]
      rfl
     refine last_ (i := 7) (N := none) #[true, true, true, true, true, true, true, true] rfl rfl (one_of HT_.out (by kernel_rfl)) (by decide) (fun K hK => ?_)
     have hs29 : w28.cell? ⟨gb345, 0, none⟩ = some (.string x346000_1) := (blk_cell BK345.out 0).trans rfl
     have hfs29 := blk_frozen BK345.out 0
     have hns29_0 := NB344_345.out
     have hms29_0 := NB345_344.out
     have hs30 : w28.cell? ⟨gb345, 1, none⟩ = some (.int .i64 x346001_1) := (blk_cell BK345.out 1).trans rfl
     have hfs30 := blk_frozen BK345.out 1
     have hns30_0 := NB344_345.out
     have hms30_0 := NB345_344.out
     refine skip_ (w1 := ?_) (by rfl) rfl ?_ ?_
     rotate_left
     ·go_simp
      rfl
     refine hK.out _ _ ?_
     clear hK K
     refine done_ (done_of HT_.out (by kernel_rfl)) ?_
     try go_wp2_with (first | ((with_reducible refine gate_callee (f := 53) rfl ?_); refine zgo_ (some 21) Try.func53 #[.pointer (some ⟨g, 0, none⟩), .int .i64 3] ?_; (with_reducible refine (spec_l6Rd_pick.calls k1 g s0_0 t349 3 t353 t354 w0 _ ?side1 ?side2 A12.out).mono ?_); (case side1 => exact zz12); (case side2 => exact zz10); rintro e w31 ⟨rfl, hi, hb, hk⟩; refine ⟨_, rfl, ?_⟩; have n0_ := Aside0.mk (KeepBut.blk hk (g' := gb344) (o := .cells #[.string (⟨#[]⟩ : ByteArray), .int .i64 0] 26 (0, 0)) zz36 NB344_0.out (by simp)); have n1_ := Aside0.mk (KeepBut.blk hk (g' := gb345) (o := .cells #[.string t350, .int .i64 t351] 26 (0, 0)) (by (with_reducible repeat (first | refine blk_drewN ?_ _ | refine blk_drew ?_ | refine blk_alloc ?_ _)); refine blk_put (cs := #[.string t350, .int .i64 x346001_1]) ?_ 1 _ rfl; (with_reducible repeat (first | refine blk_drewN ?_ _ | refine blk_drew ?_ | refine blk_alloc ?_ _)); refine blk_put (cs := #[.string x346000_1, .int .i64 x346001_1]) ?_ 0 _ rfl; (with_reducible repeat (first | refine blk_drewN ?_ _ | refine blk_drew ?_ | refine blk_alloc ?_ _)); exact BK345.out) NB345_0.out (by simp)); have n2_ := Aside0.mk (KeepBut.trans zz11 hk (.inl rfl)); have n3_ := Aside0.mk (hb); have n4_ := Aside0.mk (hi); clear BK344; clear BK345; clear HK; clear HB; clear HI0; have BK344 := n0_; have BK345 := n1_; have HK := n2_; have HB := n3_; have HI0 := n4_; clear n0_ n1_ n2_ n3_ n4_; (try clear hb); (try clear hb2); (try clear hk); (try clear hi)))
     go_roundg k1
     case measure => have := HK1.out; omega
     case rel => exact ⟨(wrap64 (x4_1 - 1)), (t354), (t350), (t351), zz20, H', ⟨by have := HK1.out; omega⟩, ⟨by (with_reducible repeat (first | refine blk_drewN ?_ _ | refine blk_drew ?_ | refine blk_alloc ?_ _)); exact BK344.out⟩, ⟨by (with_reducible repeat (first | refine blk_drewN ?_ _ | refine blk_drew ?_ | refine blk_alloc ?_ _)); exact BK345.out⟩, ⟨by repeat (first | (with_reducible first | exact HI0.out | apply IsS84.alloc | apply IsS84.drewN | apply IsS84.drew | apply IsS84.set_1 | refine IsS84.far ?_ NB0_344.out _ | refine IsS84.far ?_ NB0_345.out _) | exact HI0.out)⟩, ⟨by repeat (first | (with_reducible first | exact HK.out | apply KeepBut.set_ | apply keep_drewN | apply keep_drew | apply keep_alloc | refine keep_far ?_ GW344.out _ | refine keep_far ?_ GW345.out _) | exact HK.out)⟩, ⟨by repeat (first | (with_reducible first | exact HB.out | apply below_alloc | apply pw_below_drewN | apply below_drew1 | refine below_set ?_ (IsS84.ge HI0.out) | refine below_set ?_ GE344.out | refine below_set ?_ GE345.out) | exact HB.out)⟩⟩
   ·rw [if_neg c9] at H
    have c9b0 : decide (0 < x4_1) = false := decide_eq_false c9
    clear c9
    obtain ⟨⟨t357, t358⟩, A320, H⟩ := Option.bind_eq_some_iff.mp H
    try dsimp only at H
    have A32 := Aside0.mk A320
    clear A320
    by_cases c33 : t357 = 0
    ·rw [if_pos c33] at H
     have c33b0 : (t357 == 0) = true := beq_iff_eq.mpr c33
     have c33b1 : (t357 != 0) = false := bne_eq_false_iff_eq.mpr c33
     clear c33
     obtain ⟨⟨t359, t360⟩, A340, H⟩ := Option.bind_eq_some_iff.mp H
     try dsimp only at H
     have A34 := Aside0.mk A340
     clear A340
     simp only [Option.some.injEq, Prod.mk.injEq] at H
     obtain ⟨rfl, rfl, rfl⟩ := H
     go_wp2_with (first | ((with_reducible refine gate_callee (f := 53) rfl ?_); refine zgo_ (some 26) Try.func53 #[.pointer (some ⟨g, 0, none⟩), .int .i64 14] ?_; (with_reducible refine (spec_l6Rd_pick.calls k1 g s0_0 x1001_1 14 t357 t358 w0 _ ?side1 ?side2 A32.out).mono ?_); (case side1 => exact zz12); (case side2 => exact zz10); rintro e w35 ⟨rfl, hi, hb, hk⟩; refine ⟨_, rfl, ?_⟩; have n0_ := Aside0.mk (KeepBut.blk hk (g' := gb344) (o := .cells #[.string (⟨#[]⟩ : ByteArray), .int .i64 0] 26 (0, 0)) zz22 NB344_0.out (by simp)); have n1_ := Aside0.mk (KeepBut.blk hk (g' := gb345) (o := .cells #[.string x346000_1, .int .i64 x346001_1] 26 (0, 0)) zz24 NB345_0.out (by simp)); have n2_ := Aside0.mk (KeepBut.trans zz11 hk (.inl rfl)); have n3_ := Aside0.mk (hb); have n4_ := Aside0.mk (hi); clear BK344; clear BK345; clear HK; clear HB; clear HI0; have BK344 := n0_; have BK345 := n1_; have HK := n2_; have HB := n3_; have HI0 := n4_; clear n0_ n1_ n2_ n3_ n4_; (try clear hb); (try clear hb2); (try clear hk); (try clear hi); have hnb36 := NB345_344.out; have hnc36 := NB344_345.out; have hnb37 := NB345_0.out; have hnc37 := NB0_345.out; have hcz38_0 : w35.cell? ⟨gb345, 0, none⟩ = some (.string x346000_1) := (blk_cell BK345.out 0).trans rfl; have hcz38_1 : w35.cell? ⟨gb345, 1, none⟩ = some (.int .i64 x346001_1) := (blk_cell BK345.out 1).trans rfl; have hfz38_0 := blk_frozen BK345.out 0; have hfz38_1 := blk_frozen BK345.out 1) | ((with_reducible refine gate_callee (f := 52) rfl ?_); refine zgo_ (some 32) Try.func52 #[.pointer (some ⟨g, 0, none⟩), .string x346000_1] ?_; (with_reducible refine (spec_l72Bend.calls k1 g s0_0 t358 x346000_1 t359 t360 w0 _ ?side1 ?side2 A34.out).mono ?_); (case side1 => exact zz12); (case side2 => exact zz10); rintro e w39 ⟨rfl, hi, hb, hk⟩; refine ⟨_, rfl, ?_⟩; have n0_ := Aside0.mk (KeepBut.blk hk (g' := gb344) (o := .cells #[.string (⟨#[]⟩ : ByteArray), .int .i64 0] 26 (0, 0)) zz22 NB344_0.out (by simp)); have n1_ := Aside0.mk (KeepBut.blk hk (g' := gb345) (o := .cells #[.string x346000_1, .int .i64 x346001_1] 26 (0, 0)) zz24 NB345_0.out (by simp)); have n2_ := Aside0.mk (KeepBut.trans zz11 hk (.inl rfl)); have n3_ := Aside0.mk (hb); have n4_ := Aside0.mk (hi); clear BK344; clear BK345; clear HK; clear HB; clear HI0; have BK344 := n0_; have BK345 := n1_; have HK := n2_; have HB := n3_; have HI0 := n4_; clear n0_ n1_ n2_ n3_ n4_; (try clear hb); (try clear hb2); (try clear hk); (try clear hi); have hcz40_0 : w39.cell? ⟨gb345, 0, none⟩ = some (.string x346000_1) := (blk_cell BK345.out 0).trans rfl; have hcz40_1 : w39.cell? ⟨gb345, 1, none⟩ = some (.int .i64 x346001_1) := (blk_cell BK345.out 1).trans rfl; have hfz40_0 := blk_frozen BK345.out 0; have hfz40_1 := blk_frozen BK345.out 1; have hnb41 := NB344_0.out; have hnc41 := NB0_344.out; have hcz42_0 : w39.cell? ⟨gb344, 0, none⟩ = some (.string (⟨#[]⟩ : ByteArray)) := (blk_cell BK344.out 0).trans rfl; have hcz42_1 : w39.cell? ⟨gb344, 1, none⟩ = some (.int .i64 0) := (blk_cell BK344.out 1).trans rfl; have hfz42_0 := blk_frozen BK344.out 0; have hfz42_1 := blk_frozen BK344.out 1))
     refine bodyPost_ret (results_cell_row rfl _ _ gb344 26 #[.string t359, .int .i64 x346001_1] (0, 0) _ rfl (by (with_reducible repeat (first | refine blk_drewN ?_ _ | refine blk_drew ?_ | refine blk_alloc ?_ _)); refine blk_put (cs := #[.string t359, .int .i64 0]) ?_ 1 _ rfl; (with_reducible repeat (first | refine blk_drewN ?_ _ | refine blk_drew ?_ | refine blk_alloc ?_ _)); refine blk_put (cs := #[.string (⟨#[]⟩ : ByteArray), .int .i64 0]) ?_ 0 _ rfl; (with_reducible repeat (first | refine blk_drewN ?_ _ | refine blk_drew ?_ | refine blk_alloc ?_ _)); refine blk_far ?_ NB344_345.out _; (with_reducible repeat (first | refine blk_drewN ?_ _ | refine blk_drew ?_ | refine blk_alloc ?_ _)); exact BK344.out) Try.underlying26 rfl (by kernel_rfl)) rfl ?_
     exact ⟨by first | rfl | (simp [errW_none, errW_some] <;> rfl) | (simp [*, errW_none, errW_some] <;> rfl), by repeat (first | (with_reducible first | exact HI0.out | apply IsS84.alloc | apply IsS84.drewN | apply IsS84.drew | apply IsS84.set_1 | refine IsS84.far ?_ NB0_344.out _ | refine IsS84.far ?_ NB0_345.out _) | exact HI0.out), by repeat (first | (with_reducible first | exact HB.out | apply below_alloc | apply pw_below_drewN | apply below_drew1 | refine below_set ?_ (IsS84.ge HI0.out) | refine below_set ?_ GE344.out | refine below_set ?_ GE345.out) | exact HB.out), by repeat (first | (with_reducible first | exact HK.out | apply KeepBut.set_ | apply keep_drewN | apply keep_drew | apply keep_alloc | refine keep_far ?_ GW344.out _ | refine keep_far ?_ GW345.out _) | exact HK.out)⟩
    ·rw [if_neg c33] at H
     have c33b0 : (t357 == 0) = false := beq_eq_false_iff_ne.mpr c33
     have c33b1 : (t357 != 0) = true := bne_iff_ne.mpr c33
     by_cases c43 : t357 = 1
     ·rw [if_pos c43] at H
      have c43b0 : (t357 == 1) = true := beq_iff_eq.mpr c43
      have c43b1 : (t357 != 1) = false := bne_eq_false_iff_eq.mpr c43
      clear c43
      obtain ⟨⟨t361, t362⟩, A440, H⟩ := Option.bind_eq_some_iff.mp H
      try dsimp only at H
      have A44 := Aside0.mk A440
      clear A440
      obtain ⟨y363, hy363⟩ : ∃ y_ : List Int, y_ = (([(-1), wrap64 ((x346000_1.size : Int) + 1), t361] : List Int)) := ⟨_, rfl⟩
      replace H : ((spec_l6Rd_pick.f k1 s0_0 t362 3).bind fun bt366 => (if 0 ≤ bt366.1 then (if bt366.1 < (y363.length : Int) then (some (x346000_1, rd y363 bt366.1, bt366.2)) else (none)) else (none))) = some (r1, r2, r3) := by first | (rw [hy363]; with_reducible exact H) | (have H2_ := (Option.bind_some _ _).symm.trans H; rw [hy363]; with_reducible exact H2_) | (have H2_ := (Option.bind_some _ _).symm.trans H; with_reducible exact H2_) | with_reducible exact H | (rw [hy363]; exact H) | exact H
      have Ny363 := Aside0.mk hy363
      clear hy363
      obtain ⟨⟨t366, t367⟩, A450, H⟩ := Option.bind_eq_some_iff.mp H
      try dsimp only at H
      have A45 := Aside0.mk A450
      clear A450
      by_cases c46 : 0 ≤ t366
      ·rw [if_pos c46] at H
       have c46b0 : decide (0 ≤ t366) = true := decide_eq_true c46
       clear c46
       by_cases c47 : t366 < (y363.length : Int)
       ·rw [if_pos c47] at H
        have c47b0 : decide (t366 < (y363.length : Int)) = true := decide_eq_true c47
        clear c47
        simp only [Option.some.injEq, Prod.mk.injEq] at H
        obtain ⟨rfl, rfl, rfl⟩ := H
        try go_wp2_with (first | ((with_reducible refine gate_callee (f := 53) rfl ?_); refine zgo_ (some 26) Try.func53 #[.pointer (some ⟨g, 0, none⟩), .int .i64 14] ?_; (with_reducible refine (spec_l6Rd_pick.calls k1 g s0_0 x1001_1 14 t357 t358 w0 _ ?side1 ?side2 A32.out).mono ?_); (case side1 => exact zz12); (case side2 => exact zz10); rintro e w48 ⟨rfl, hi, hb, hk⟩; refine ⟨_, rfl, ?_⟩; have n0_ := Aside0.mk (KeepBut.blk hk (g' := gb344) (o := .cells #[.string (⟨#[]⟩ : ByteArray), .int .i64 0] 26 (0, 0)) zz22 NB344_0.out (by simp)); have n1_ := Aside0.mk (KeepBut.blk hk (g' := gb345) (o := .cells #[.string x346000_1, .int .i64 x346001_1] 26 (0, 0)) zz24 NB345_0.out (by simp)); have n2_ := Aside0.mk (KeepBut.trans zz11 hk (.inl rfl)); have n3_ := Aside0.mk (hb); have n4_ := Aside0.mk (hi); clear BK344; clear BK345; clear HK; clear HB; clear HI0; have BK344 := n0_; have BK345 := n1_; have HK := n2_; have HB := n3_; have HI0 := n4_; clear n0_ n1_ n2_ n3_ n4_; (try clear hb); (try clear hb2); (try clear hk); (try clear hi)))
        have pi368 : (0 ≤ (t366 : Int)) = True := eq_true (of_decide_eq_true zz14)
        have qi368 : (t366 < (y363.length : Int)) = True := eq_true (of_decide_eq_true zz14)
        have n0_ := Aside0.mk (blk_drew BK344.out)
        have n1_ := Aside0.mk (blk_drew BK345.out)
        have n2_ := Aside0.mk (IsS84.drew HI0.out)
        have n3_ := Aside0.mk (keep_drew HK.out)
        have n4_ := Aside0.mk (below_drew1 HB.out)
        clear BK344
        clear BK345
        clear HI0
        clear HK
        clear HB
        have BK344 := n0_
        have BK345 := n1_
        have HI0 := n2_
        have HK := n3_
        have HB := n4_
        clear n0_ n1_ n2_ n3_ n4_
        refine start_ (n := 17) (S := fun w' => w'.cell? ⟨gb345, 0, none⟩ = some (.string x346000_1) ∧ w'.cell? ⟨gb345, 1, none⟩ = some (.int .i64 x346001_1)) (ds := [16]) #[false, false, false, false, false, false, false, false, false, false, false, false, false, false, false, false, false] (by kernel_rfl) rfl rfl ⟨(blk_cell BK345.out 0).trans rfl, (blk_cell BK345.out 1).trans rfl⟩ (fun hHeld => ?_); refine with_tabW spec_l72Shelf.tab12 spec_l72Shelf.bits12 (fun HT_ HW_ => ?_)
        generalize w48.drew = w49 at BK344 BK345 HI0 HK HB hHeld ⊢
        refine pure_ (i := 0) (N := some 36) (v := ?_) (a' := ?_) #[true, false, false, false, false, false, false, false, false, false, false, false, false, false, false, false, false] rfl rfl (any_of HT_.out (by kernel_rfl)) (fun _ _ _ h => h) (Or.inl ⟨by rfl, ?_⟩) ?_ ?_
        rotate_left
        ·intro w'
         go_simp
         with_reducible rfl
        rotate_left
        ·simp only [Act.put, List.setIfInBounds_toArray, List.set_cons_zero, List.set_cons_succ, i64_w, i32_w]
         rfl
        refine pure_ (i := 4) (N := some 40) (v := ?_) (a' := ?_) #[true, false, false, false, true, false, false, false, false, false, false, false, false, false, false, false, false] rfl rfl (any_of HT_.out (by kernel_rfl)) (fun _ _ _ h => h) (Or.inl ⟨by rfl, ?_⟩) ?_ ?_
        rotate_left
        ·intro w'
         go_simp
         with_reducible rfl
        rotate_left
        ·simp only [Act.put, List.setIfInBounds_toArray, List.set_cons_zero, List.set_cons_succ, i64_w, i32_w]
         rfl
        refine pure_ (i := 5) (N := some 41) (v := ?_) (a' := ?_) #[true, false, false, false, true, true, false, false, false, false, false, false, false, false, false, false, false] rfl rfl (any_of HT_.out (by kernel_rfl)) (fun _ _ _ h => h) (Or.inl ⟨by rfl, ?_⟩) ?_ ?_
        rotate_left
        ·intro w'
         go_simp
         with_reducible rfl
        rotate_left
        ·simp only [Act.put, List.setIfInBounds_toArray, List.set_cons_zero, List.set_cons_succ, i64_w, i32_w]
         rfl
        refine pure_ (i := 11) (N := some 47) (v := ?_) (a' := ?_) #[true, false, false, false, true, true, false, false, false, false, false, true, false, false, false, false, false] rfl rfl (any_of HT_.out (by kernel_rfl)) (fun _ _ _ h => h) (Or.inl ⟨by rfl, ?_⟩) ?_ ?_
        rotate_left
        ·intro w'
         go_simp
         with_reducible rfl
        rotate_left
        ·simp only [Act.put, List.setIfInBounds_toArray, List.set_cons_zero, List.set_cons_succ, i64_w, i32_w]
         rfl
        refine take_ (i := 1) (N := some 37) (v := ?_) (a' := ?_) #[true, true, false, false, true, true, false, false, false, false, false, true, false, false, false, false, false] rfl rfl (take_ofW HT_.out HW_.out (by kernel_rfl)) (fun _ _ _ h => h) (Or.inl ⟨by rfl, ?_⟩) hHeld ?_ ?_
        rotate_left
        ·rintro w' ⟨s0, s1⟩
         go_simp
         with_reducible rfl
        rotate_left
        ·simp only [Act.put, List.setIfInBounds_toArray, List.set_cons_zero, List.set_cons_succ, i64_w, i32_w]
         rfl
        refine pure_ (i := 2) (N := some 38) (v := ?_) (a' := ?_) #[true, true, true, false, true, true, false, false, false, false, false, true, false, false, false, false, false] rfl rfl (any_of HT_.out (by kernel_rfl)) (fun _ _ _ h => h) (Or.inl ⟨by rfl, ?_⟩) ?_ ?_
        rotate_left
        ·intro w'
         go_simp
         with_reducible rfl
        rotate_left
        ·simp only [Act.put, List.setIfInBounds_toArray, List.set_cons_zero, List.set_cons_succ, i64_w, i32_w]
         rfl
        refine pure_ (i := 3) (N := some 39) (v := ?_) (a' := ?_) #[true, true, true, true, true, true, false, false, false, false, false, true, false, false, false, false, false] rfl rfl (any_of HT_.out (by kernel_rfl)) (fun _ _ _ h => h) (Or.inl ⟨by rfl, ?_⟩) ?_ ?_
        rotate_left
        ·intro w'
         go_simp
         with_reducible rfl
        rotate_left
        ·simp only [Act.put, List.setIfInBounds_toArray, List.set_cons_zero, List.set_cons_succ, i64_w, i32_w]
         rfl
        refine take_ (i := 6) (N := some 42) (v := ?_) (a' := ?_) #[true, true, true, true, true, true, true, false, false, false, false, true, false, false, false, false, false] rfl rfl (take_ofW HT_.out HW_.out (by kernel_rfl)) (fun _ _ _ h => h) (Or.inl ⟨by rfl, ?_⟩) hHeld ?_ ?_
        rotate_left
        ·rintro w' ⟨s0, s1⟩
         go_simp
         with_reducible rfl
        rotate_left
        ·simp only [Act.put, List.setIfInBounds_toArray, List.set_cons_zero, List.set_cons_succ, i64_w, i32_w]
         rfl
        refine pure_ (i := 7) (N := some 43) (v := ?_) (a' := ?_) #[true, true, true, true, true, true, true, true, false, false, false, true, false, false, false, false, false] rfl rfl (any_of HT_.out (by kernel_rfl)) (fun _ _ _ h => h) (Or.inl ⟨by rfl, ?_⟩) ?_ ?_
        rotate_left
        ·intro w'
         go_simp
         with_reducible rfl
        rotate_left
        ·simp only [Act.put, List.setIfInBounds_toArray, List.set_cons_zero, List.set_cons_succ, i64_w, i32_w]
         rfl
        refine pure_ (i := 8) (N := some 44) (v := ?_) (a' := ?_) #[true, true, true, true, true, true, true, true, true, false, false, true, false, false, false, false, false] rfl rfl (any_of HT_.out (by kernel_rfl)) (fun _ _ _ h => h) (Or.inl ⟨by rfl, ?_⟩) ?_ ?_
        rotate_left
        ·intro w'
         go_simp
         with_reducible rfl
        rotate_left
        ·simp only [Act.put, List.setIfInBounds_toArray, List.set_cons_zero, List.set_cons_succ, i64_w, i32_w]
         rfl
        refine one_ (i := 9) (N := some 45) #[true, true, true, true, true, true, true, true, true, true, false, true, false, false, false, false, false] rfl rfl (one_of HT_.out (by kernel_rfl)) (by decide) (fun K hK => ?_)
        refine goes_ Try.func53 (by kernel_rfl) rfl #[.pointer (some ⟨g, 0, none⟩), .int .i64 (wrap64 ((x346000_1.size : Int) + 1))] (by rfl) rfl rfl zz16 ?_
        with_reducible refine (spec_l6Rd_pick.calls k1 g s0_0 t358 (wrap64 ((x346000_1.size : Int) + 1)) t361 t362 w0 _ ?side1 ?side2 A44.out).mono ?_
        (case side1 => exact zz12)
        (case side2 => exact zz10)
        rintro e w50 ⟨rfl, hi, hb, hk⟩
        refine ⟨_, rfl, ?_⟩
        have n0_ := Aside0.mk (KeepBut.blk hk (g' := gb344) (o := .cells #[.string (⟨#[]⟩ : ByteArray), .int .i64 0] 26 (0, 0)) zz22 NB344_0.out (by simp))
        have n1_ := Aside0.mk (KeepBut.blk hk (g' := gb345) (o := .cells #[.string x346000_1, .int .i64 x346001_1] 26 (0, 0)) zz24 NB345_0.out (by simp))
        have n2_ := Aside0.mk (KeepBut.trans zz11 hk (.inl rfl))
        have n3_ := Aside0.mk (hb)
        have n4_ := Aside0.mk (hi)
        clear BK344
        clear BK345
        clear HK
        clear HB
        clear HI0
        have BK344 := n0_
        have BK345 := n1_
        have HK := n2_
        have HB := n3_
        have HI0 := n4_
        clear n0_ n1_ n2_ n3_ n4_
        (try clear hb)
        (try clear hb2)
        (try clear hk)
        (try clear hi)
        refine hK.out _ _ ⟨(blk_cell BK345.out 0).trans rfl, (blk_cell BK345.out 1).trans rfl⟩ (fun hHeld => ?_)
        clear hK K
        refine norm_ (a' := ?_) ?_ ?_
        rotate_left
        ·show Act.put _ (some 45) _ = _
         simp only [Act.put, List.setIfInBounds_toArray, List.set_cons_zero, List.set_cons_succ, i64_w, i32_w]
         rfl
        refine join_ (σ := Value × Addr) 4 #[true, true, true, true, true, true, true, true, true, true, true, true, true, false, false, false, false] (fun s_ => [(46, s_.1), (48, .int .i64 t366)]) (fun s_ w' => (w'.cell? ⟨gb345, 0, none⟩ = some (.string x346000_1) ∧ w'.cell? ⟨gb345, 1, none⟩ = some (.int .i64 x346001_1)) ∧ (Kd.R (Kd.int .i64) 3 w' w.heap.size (fun _ => True) s_.1 y363) ∧ (∃ c_, (s_.1 : Value) = .slice (some s_.2) y363.length c_) ∧ (w'.heap[gb344]? = some (.cells #[.string (⟨#[]⟩ : ByteArray), .int .i64 0] 26 (0, 0))) ∧ (w'.heap[gb345]? = some (.cells #[.string x346000_1, .int .i64 x346001_1] 26 (0, 0))) ∧ (IsS84 w0 w' g s0_0 t367) ∧ (KeepBut w w' g none) ∧ (Below w0.heap.size w0 w')) ?_ ?_
        rotate_left
        ·intro hCont
         refine two_ (i := 10) (j := 12) (Ni := some 46) (Nj := some 48) #[true, true, true, true, true, true, true, true, true, true, true, true, false, false, false, false, false] #[true, true, true, true, true, true, true, true, true, true, false, true, true, false, false, false, false] rfl rfl rfl rfl (two_of HT_.out (by kernel_rfl)) (by decide) (by decide) (fun K hK => ?_) (fun K hK => ?_)
         ·skip
          refine Kd.R_lit_step (Kd.int .i64) _ 3 ?hg (N := 46) ?hd (xs := ([(-1), wrap64 ((x346000_1.size : Int) + 1), t361] : List Int)) (inner := [.int .i64 (-1), .int .i64 (wrap64 ((x346000_1.size : Int) + 1)), .int .i64 t361]) (ok := fun _ => True) (okp := fun _ => True) ?hr ?hp (fun _ hk => hk) trivial (Below.refl _ _) (Nat.le_refl _) (by simp) ?_; (case hd => rfl); (case hg => rfl); (case hr => first | (go_simp; done) | (go_simp; rfl)); (case hp => exact (Reps.one (show Kd.M (Kd.int .i64) _ _ _ (-1) [.int .i64 (-1)] from rfl) (Reps.one (show Kd.M (Kd.int .i64) _ _ _ (wrap64 ((x346000_1.size : Int) + 1)) [.int .i64 (wrap64 ((x346000_1.size : Int) + 1))] from rfl) (Reps.one (show Kd.M (Kd.int .i64) _ _ _ t361 [.int .i64 t361] from rfl) (Reps.none _ _)))))
          intro v364 w51 ho52 hb hg_ hnew_
          clear hg_ hnew_
          (first | rw [← Ny363.out] at ho52 | (simp only [Int.reduceToNat] at ho52; rw [← Ny363.out] at ho52))
          have n0_ := Aside0.mk (Kd.R_lower ho52 (keep_size (w := w) (g := g) (row := none) zz11))
          have n1_ := Aside0.mk (blk_below (g := gb344) (o := .cells #[.string (⟨#[]⟩ : ByteArray), .int .i64 0] 26 (0, 0)) zz22 hb)
          have n2_ := Aside0.mk (blk_below (g := gb345) (o := .cells #[.string x346000_1, .int .i64 x346001_1] 26 (0, 0)) zz24 hb)
          have n3_ := Aside0.mk (IsS84.below zz12 hb)
          have n4_ := Aside0.mk (KeepBut.trans zz11 (KeepBut.of_below hb g none) (.inl rfl))
          have n5_ := Aside0.mk (below_step zz10 hb)
          clear BK344
          clear BK345
          clear HI0
          clear HK
          clear HB
          have HO365 := n0_
          have BK344 := n1_
          have BK345 := n2_
          have HI0 := n3_
          have HK := n4_
          have HB := n5_
          clear n0_ n1_ n2_ n3_ n4_ n5_
          clear hb ho52
          obtain ⟨Ao53, co53, eo53⟩ := Kd.R_slice HO365.out
          subst eo53
          obtain ⟨ado53, fo53, _⟩ := Kd.at_int (Kd.R_reads' HO365.out).2.2 0 (by decide) (by rw [Ny363.out]; simp)
          cases fo53
          refine hK.out _ _ ⟨(blk_cell BK345.out 0).trans rfl, (blk_cell BK345.out 1).trans rfl⟩ (fun hHeld => ?_)
          clear hK K
          refine norm_ (a' := ?_) ?_ ?_
          rotate_left
          ·show Act.put _ (some 46) _ = _
           simp only [Act.put, List.setIfInBounds_toArray, List.set_cons_zero, List.set_cons_succ, i64_w, i32_w]
           rfl
          refine one_ (i := 12) (N := some 48) #[true, true, true, true, true, true, true, true, true, true, true, true, true, false, false, false, false] rfl rfl (one_of HT_.out (by kernel_rfl)) (by decide) (fun K hK => ?_)
          refine goes_ Try.func53 (by kernel_rfl) rfl #[.pointer (some ⟨g, 0, none⟩), .int .i64 3] (by rfl) rfl rfl zz16 ?_
          with_reducible refine (spec_l6Rd_pick.calls k1 g s0_0 t362 3 t366 t367 w0 _ ?side1 ?side2 A45.out).mono ?_
          (case side1 => exact zz12)
          (case side2 => exact zz10)
          rintro e w54 ⟨rfl, hi, hb, hk⟩
          refine ⟨_, rfl, ?_⟩
          have n0_ := Aside0.mk (KeepBut.blk hk (g' := gb344) (o := .cells #[.string (⟨#[]⟩ : ByteArray), .int .i64 0] 26 (0, 0)) zz22 NB344_0.out (by simp))
          have n1_ := Aside0.mk (KeepBut.blk hk (g' := gb345) (o := .cells #[.string x346000_1, .int .i64 x346001_1] 26 (0, 0)) zz24 NB345_0.out (by simp))
          have n2_ := Aside0.mk (Kd.R_mono (Kd.R_keep (IsS84.apart (show IsS84 w0 _ g s0_0 t362 from by repeat (first | (with_reducible first | exact HI0.out | apply IsS84.alloc | apply IsS84.drewN | apply IsS84.drew | apply IsS84.set_1 | refine IsS84.far ?_ NB0_344.out _ | refine IsS84.far ?_ NB0_345.out _) | exact HI0.out)) zz67 (by decide)) hk (fun _ h => h.2)) (fun _ h => h.1))
          have n3_ := Aside0.mk (KeepBut.trans zz11 hk (.inl rfl))
          have n4_ := Aside0.mk (hb)
          have n5_ := Aside0.mk (hi)
          clear BK344
          clear BK345
          clear HO365
          clear HK
          clear HB
          clear HI0
          have BK344 := n0_
          have BK345 := n1_
          have HO365 := n2_
          have HK := n3_
          have HB := n4_
          have HI0 := n5_
          clear n0_ n1_ n2_ n3_ n4_ n5_
          (try clear hb)
          (try clear hb2)
          (try clear hk)
          (try clear hi)
          refine hK.out _ _ ⟨(blk_cell BK345.out 0).trans rfl, (blk_cell BK345.out 1).trans rfl⟩ (fun hHeld => ?_)
          clear hK K
          refine norm_ (a' := ?_) ?_ ?_
          rotate_left
          ·show Act.put _ (some 48) _ = _
           simp only [Act.put, List.setIfInBounds_toArray, List.set_cons_zero, List.set_cons_succ, i64_w, i32_w]
           rfl
          exact norm_ zz59 (hCont (.slice (some ado53) y363.length co53, ado53) _ ⟨hHeld, zz67, ⟨_, rfl⟩, zz22, zz24, zz12, zz11, zz10⟩)
         ·skip
          refine goes_ Try.func53 (by kernel_rfl) rfl #[.pointer (some ⟨g, 0, none⟩), .int .i64 3] (by rfl) rfl rfl zz16 ?_
          with_reducible refine (spec_l6Rd_pick.calls k1 g s0_0 t362 3 t366 t367 w0 _ ?side1 ?side2 A45.out).mono ?_
          (case side1 => exact zz12)
          (case side2 => exact zz10)
          rintro e w51 ⟨rfl, hi, hb, hk⟩
          refine ⟨_, rfl, ?_⟩
          have n0_ := Aside0.mk (KeepBut.blk hk (g' := gb344) (o := .cells #[.string (⟨#[]⟩ : ByteArray), .int .i64 0] 26 (0, 0)) zz22 NB344_0.out (by simp))
          have n1_ := Aside0.mk (KeepBut.blk hk (g' := gb345) (o := .cells #[.string x346000_1, .int .i64 x346001_1] 26 (0, 0)) zz24 NB345_0.out (by simp))
          have n2_ := Aside0.mk (KeepBut.trans zz11 hk (.inl rfl))
          have n3_ := Aside0.mk (hb)
          have n4_ := Aside0.mk (hi)
          clear BK344
          clear BK345
          clear HK
          clear HB
          clear HI0
          have BK344 := n0_
          have BK345 := n1_
          have HK := n2_
          have HB := n3_
          have HI0 := n4_
          clear n0_ n1_ n2_ n3_ n4_
          (try clear hb)
          (try clear hb2)
          (try clear hk)
          (try clear hi)
          refine hK.out _ _ ⟨(blk_cell BK345.out 0).trans rfl, (blk_cell BK345.out 1).trans rfl⟩ (fun hHeld => ?_)
          clear hK K
          refine norm_ (a' := ?_) ?_ ?_
          rotate_left
          ·show Act.put _ (some 48) _ = _
           simp only [Act.put, List.setIfInBounds_toArray, List.set_cons_zero, List.set_cons_succ, i64_w, i32_w]
           rfl
          refine one_ (i := 10) (N := some 46) #[true, true, true, true, true, true, true, true, true, true, true, true, true, false, false, false, false] rfl rfl (one_of HT_.out (by kernel_rfl)) (by decide) (fun K hK => ?_)
          refine Kd.R_lit_step (Kd.int .i64) _ 3 ?hg (N := 46) ?hd (xs := ([(-1), wrap64 ((x346000_1.size : Int) + 1), t361] : List Int)) (inner := [.int .i64 (-1), .int .i64 (wrap64 ((x346000_1.size : Int) + 1)), .int .i64 t361]) (ok := fun _ => True) (okp := fun _ => True) ?hr ?hp (fun _ hk => hk) trivial (Below.refl _ _) (Nat.le_refl _) (by simp) ?_; (case hd => rfl); (case hg => rfl); (case hr => first | (go_simp; done) | (go_simp; rfl)); (case hp => exact (Reps.one (show Kd.M (Kd.int .i64) _ _ _ (-1) [.int .i64 (-1)] from rfl) (Reps.one (show Kd.M (Kd.int .i64) _ _ _ (wrap64 ((x346000_1.size : Int) + 1)) [.int .i64 (wrap64 ((x346000_1.size : Int) + 1))] from rfl) (Reps.one (show Kd.M (Kd.int .i64) _ _ _ t361 [.int .i64 t361] from rfl) (Reps.none _ _)))))
          intro v364 w52 ho53 hb hg_ hnew_
          clear hg_ hnew_
          (first | rw [← Ny363.out] at ho53 | (simp only [Int.reduceToNat] at ho53; rw [← Ny363.out] at ho53))
          have n0_ := Aside0.mk (Kd.R_lower ho53 (keep_size (w := w) (g := g) (row := none) zz11))
          have n1_ := Aside0.mk (blk_below (g := gb344) (o := .cells #[.string (⟨#[]⟩ : ByteArray), .int .i64 0] 26 (0, 0)) zz22 hb)
          have n2_ := Aside0.mk (blk_below (g := gb345) (o := .cells #[.string x346000_1, .int .i64 x346001_1] 26 (0, 0)) zz24 hb)
          have n3_ := Aside0.mk (IsS84.below zz12 hb)
          have n4_ := Aside0.mk (KeepBut.trans zz11 (KeepBut.of_below hb g none) (.inl rfl))
          have n5_ := Aside0.mk (below_step zz10 hb)
          clear BK344
          clear BK345
          clear HI0
          clear HK
          clear HB
          have HO365 := n0_
          have BK344 := n1_
          have BK345 := n2_
          have HI0 := n3_
          have HK := n4_
          have HB := n5_
          clear n0_ n1_ n2_ n3_ n4_ n5_
          clear hb ho53
          obtain ⟨Ao54, co54, eo54⟩ := Kd.R_slice HO365.out
          subst eo54
          obtain ⟨ado54, fo54, _⟩ := Kd.at_int (Kd.R_reads' HO365.out).2.2 0 (by decide) (by rw [Ny363.out]; simp)
          cases fo54
          refine hK.out _ _ ⟨(blk_cell BK345.out 0).trans rfl, (blk_cell BK345.out 1).trans rfl⟩ (fun hHeld => ?_)
          clear hK K
          refine norm_ (a' := ?_) ?_ ?_
          rotate_left
          ·show Act.put _ (some 46) _ = _
           simp only [Act.put, List.setIfInBounds_toArray, List.set_cons_zero, List.set_cons_succ, i64_w, i32_w]
           rfl
          exact norm_ zz59 (hCont (.slice (some ado54) y363.length co54, ado54) _ ⟨hHeld, zz67, ⟨_, rfl⟩, zz22, zz24, zz12, zz11, zz10⟩)
        rintro ⟨v364, adz_v364⟩ w55 ⟨hS_, h0_, h1_, h2_, h3_, h4_, h5_, h6_⟩
        have n0_ : Aside0 (Kd.R (Kd.int .i64) 3 w55 w.heap.size (fun _ => True) v364 y363) := ⟨h0_⟩
        have n1_ : Aside0 (∃ c_, (v364 : Value) = .slice (some adz_v364) y363.length c_) := ⟨h1_⟩
        have n2_ : Aside0 (w55.heap[gb344]? = some (.cells #[.string (⟨#[]⟩ : ByteArray), .int .i64 0] 26 (0, 0))) := ⟨h2_⟩
        have n3_ : Aside0 (w55.heap[gb345]? = some (.cells #[.string x346000_1, .int .i64 x346001_1] 26 (0, 0))) := ⟨h3_⟩
        have n4_ : Aside0 (IsS84 w0 w55 g s0_0 t367) := ⟨h4_⟩
        have n5_ : Aside0 (KeepBut w w55 g none) := ⟨h5_⟩
        have n6_ : Aside0 (Below w0.heap.size w0 w55) := ⟨h6_⟩
        clear BK344
        clear BK345
        clear HI0
        clear HK
        clear HB
        clear h0_ h1_ h2_ h3_ h4_ h5_ h6_
        have HO365 := n0_
        have HA_HO365 := n1_
        have BK344 := n2_
        have BK345 := n3_
        have HI0 := n4_
        have HK := n5_
        have HB := n6_
        clear n0_ n1_ n2_ n3_ n4_ n5_ n6_
        have hHeld : w55.cell? ⟨gb345, 0, none⟩ = some (.string x346000_1) ∧ w55.cell? ⟨gb345, 1, none⟩ = some (.int .i64 x346001_1) := hS_
        obtain ⟨co56, eo56⟩ := HA_HO365.out
        clear HA_HO365
        subst eo56
        refine norm_ (a' := ?_) ?_ ?_
        rotate_left
        ·simp only [putAll, Act.put, List.setIfInBounds_toArray, List.set_cons_zero, List.set_cons_succ]
         rfl
        refine pure_ (i := 13) (N := some 49) (v := ?_) (a' := ?_) #[true, true, true, true, true, true, true, true, true, true, true, true, true, true, false, false, false] rfl rfl (any_of HT_.out (by kernel_rfl)) (fun _ _ _ h => h) (Or.inl ⟨by rfl, ?_⟩) ?_ ?_
        rotate_left
        ·intro w'
         go_simp
         with_reducible rfl
        rotate_left
        ·simp only [Act.put, List.setIfInBounds_toArray, List.set_cons_zero, List.set_cons_succ, i64_w, i32_w]
         rfl
        refine one_ (i := 14) (N := some 50) #[true, true, true, true, true, true, true, true, true, true, true, true, true, true, true, false, false] rfl rfl (one_of HT_.out (by kernel_rfl)) (by decide) (fun K hK => ?_)
        (have p368 : 0 ≤ (t366 : Int) := of_decide_eq_true zz14; have q368 : t366 < (y363.length : Int) := of_decide_eq_true zz14; obtain ⟨ad368, e368, hx368_0⟩ := Kd.at_int (Kd.R_reads' HO365.out).2.2 t366 p368 q368; obtain rfl : adz_v364 = ad368 := (by injection e368))
        refine value_ (w1 := ?_) (v := ?_) (by rfl) rfl ?_ ?_
        rotate_left 2
        ·go_simp
         constructor
         ·rfl
         ·rfl
        clear hx368_0
        refine hK.out _ _ ⟨(blk_cell BK345.out 0).trans rfl, (blk_cell BK345.out 1).trans rfl⟩ (fun hHeld => ?_)
        clear hK K
        refine norm_ (a' := ?_) ?_ ?_
        rotate_left
        ·show Act.put _ (some 50) _ = _
         simp only [Act.put, List.setIfInBounds_toArray, List.set_cons_zero, List.set_cons_succ, i64_w, i32_w]
         rfl
        refine pure_ (i := 15) (N := some 51) (v := ?_) (a' := ?_) #[true, true, true, true, true, true, true, true, true, true, true, true, true, true, true, true, false] rfl rfl (any_of HT_.out (by kernel_rfl)) (fun _ _ _ h => h) (Or.inl ⟨by rfl, ?_⟩) ?_ ?_
        rotate_left
        ·intro w'
         go_simp
         with_reducible rfl
        rotate_left
        ·simp only [Act.put, List.setIfInBounds_toArray, List.set_cons_zero, List.set_cons_succ, i64_w, i32_w]
         rfl
        refine last_ (i := 16) (N := none) #[true, true, true, true, true, true, true, true, true, true, true, true, true, true, true, true, true] rfl rfl (one_of HT_.out (by kernel_rfl)) (by decide) (fun K hK => ?_)
        have hs57 : w55.cell? ⟨gb345, 1, none⟩ = some (.int .i64 x346001_1) := (blk_cell BK345.out 1).trans rfl
        have hfs57 := blk_frozen BK345.out 1
        have hns57_0 := NB344_345.out
        have hms57_0 := NB345_344.out
        refine skip_ (w1 := ?_) (by rfl) rfl ?_ ?_
        rotate_left
        ·go_simp
         rfl
        refine hK.out _ _ ?_
        clear hK K
        refine done_ (done_of HT_.out (by kernel_rfl)) ?_
        have hnb58 := NB345_344.out
        have hnc58 := NB344_345.out
        have hnb59 := NB345_0.out
        have hnc59 := NB0_345.out
        have hcz60_0 : w55.cell? ⟨gb345, 0, none⟩ = some (.string x346000_1) := (blk_cell BK345.out 0).trans rfl
        have hcz60_1 : w55.cell? ⟨gb345, 1, none⟩ = some (.int .i64 x346001_1) := (blk_cell BK345.out 1).trans rfl
        have hfz60_0 := blk_frozen BK345.out 0
        have hfz60_1 := blk_frozen BK345.out 1
        have hnb61 := NB344_0.out
        have hnc61 := NB0_344.out
        have hcz62_0 : w55.cell? ⟨gb344, 0, none⟩ = some (.string (⟨#[]⟩ : ByteArray)) := (blk_cell BK344.out 0).trans rfl
        have hcz62_1 : w55.cell? ⟨gb344, 1, none⟩ = some (.int .i64 0) := (blk_cell BK344.out 1).trans rfl
        have hfz62_0 := blk_frozen BK344.out 0
        have hfz62_1 := blk_frozen BK344.out 1
        try go_wp2
        refine bodyPost_ret (results_cell_row rfl _ _ gb344 26 #[.string x346000_1, .int .i64 (rd y363 t366)] (0, 0) _ rfl (by (with_reducible repeat (first | refine blk_drewN ?_ _ | refine blk_drew ?_ | refine blk_alloc ?_ _)); refine blk_put (cs := #[.string x346000_1, .int .i64 0]) ?_ 1 _ rfl; (with_reducible repeat (first | refine blk_drewN ?_ _ | refine blk_drew ?_ | refine blk_alloc ?_ _)); refine blk_put (cs := #[.string (⟨#[]⟩ : ByteArray), .int .i64 0]) ?_ 0 _ rfl; (with_reducible repeat (first | refine blk_drewN ?_ _ | refine blk_drew ?_ | refine blk_alloc ?_ _)); refine blk_far ?_ NB344_345.out _; (with_reducible repeat (first | refine blk_drewN ?_ _ | refine blk_drew ?_ | refine blk_alloc ?_ _)); exact BK344.out) Try.underlying26 rfl (by kernel_rfl)) rfl ?_
        exact ⟨by first | rfl | (simp [errW_none, errW_some] <;> rfl) | (simp [*, errW_none, errW_some] <;> rfl), by repeat (first | (with_reducible first | exact HI0.out | apply IsS84.alloc | apply IsS84.drewN | apply IsS84.drew | apply IsS84.set_1 | refine IsS84.far ?_ NB0_344.out _ | refine IsS84.far ?_ NB0_345.out _) | exact HI0.out), by repeat (first | (with_reducible first | exact HB.out | apply below_alloc | apply pw_below_drewN | apply below_drew1 | refine below_set ?_ (IsS84.ge HI0.out) | refine below_set ?_ GE344.out | refine below_set ?_ GE345.out) | exact HB.out), by repeat (first | (with_reducible first | exact HK.out | apply KeepBut.set_ | apply keep_drewN | apply keep_drew | apply keep_alloc | refine keep_far ?_ GW344.out _ | refine keep_far ?_ GW345.out _) | exact HK.out)⟩
       ·rw [if_neg c47] at H
        exact absurd H (by simp)
      ·rw [if_neg c46] at H
       exact absurd H (by simp)
     ·rw [if_neg c43] at H
      have c43b0 : (t357 == 1) = false := beq_eq_false_iff_ne.mpr c43
      have c43b1 : (t357 != 1) = true := bne_iff_ne.mpr c43
      by_cases c63 : t357 = 2
      ·rw [if_pos c63] at H
       have c63b0 : (t357 == 2) = true := beq_iff_eq.mpr c63
       have c63b1 : (t357 != 2) = false := bne_eq_false_iff_eq.mpr c63
       clear c63
       have H' := Aside0.mk H
       clear H
       go_wp2_with (first | ((with_reducible refine gate_callee (f := 53) rfl ?_); refine zgo_ (some 26) Try.func53 #[.pointer (some ⟨g, 0, none⟩), .int .i64 14] ?_; (with_reducible refine (spec_l6Rd_pick.calls k1 g s0_0 x1001_1 14 t357 t358 w0 _ ?side1 ?side2 A32.out).mono ?_); (case side1 => exact zz12); (case side2 => exact zz10); rintro e w64 ⟨rfl, hi, hb, hk⟩; refine ⟨_, rfl, ?_⟩; have n0_ := Aside0.mk (KeepBut.blk hk (g' := gb344) (o := .cells #[.string (⟨#[]⟩ : ByteArray), .int .i64 0] 26 (0, 0)) zz22 NB344_0.out (by simp)); have n1_ := Aside0.mk (KeepBut.blk hk (g' := gb345) (o := .cells #[.string x346000_1, .int .i64 x346001_1] 26 (0, 0)) zz24 NB345_0.out (by simp)); have n2_ := Aside0.mk (KeepBut.trans zz11 hk (.inl rfl)); have n3_ := Aside0.mk (hb); have n4_ := Aside0.mk (hi); clear BK344; clear BK345; clear HK; clear HB; clear HI0; have BK344 := n0_; have BK345 := n1_; have HK := n2_; have HB := n3_; have HI0 := n4_; clear n0_ n1_ n2_ n3_ n4_; (try clear hb); (try clear hb2); (try clear hk); (try clear hi)))
       go_loopg [5] k1 (fun kq v5 w' => ∃ (x5_2 : Int) (x1001_2 : Int) (x346000_2 : ByteArray), v5 = .int .i64 x5_2 ∧ Aside0 (spec_l72Shelf.l1 kq x5_2 s0_0 x1001_2 x346000_2 x346001_1 = some (r1, r2, r3)) ∧ Aside0 (kq ≤ k1) ∧ Aside0 (w'.heap[gb344]? = some (.cells #[.string (⟨#[]⟩ : ByteArray), .int .i64 0] 26 (0, 0))) ∧ Aside0 (w'.heap[gb345]? = some (.cells #[.string x346000_2, .int .i64 x346001_1] 26 (0, 0))) ∧ Aside0 (IsS84 w0 w' g s0_0 x1001_2) ∧ Aside0 (KeepBut w w' g none) ∧ Aside0 (Below w0.heap.size w0 w'))
       case atStart => exact ⟨(0), (t358), (x346000_1), zz20, H', ⟨Nat.le_refl _⟩, ⟨by (with_reducible repeat (first | refine blk_drewN ?_ _ | refine blk_drew ?_ | refine blk_alloc ?_ _)); exact BK344.out⟩, ⟨by (with_reducible repeat (first | refine blk_drewN ?_ _ | refine blk_drew ?_ | refine blk_alloc ?_ _)); exact BK345.out⟩, ⟨by repeat (first | (with_reducible first | exact HI0.out | apply IsS84.alloc | apply IsS84.drewN | apply IsS84.drew | apply IsS84.set_1 | refine IsS84.far ?_ NB0_344.out _ | refine IsS84.far ?_ NB0_345.out _) | exact HI0.out)⟩, ⟨by repeat (first | (with_reducible first | exact HK.out | apply KeepBut.set_ | apply keep_drewN | apply keep_drew | apply keep_alloc | refine keep_far ?_ GW344.out _ | refine keep_far ?_ GW345.out _) | exact HK.out)⟩, ⟨by repeat (first | (with_reducible first | exact HB.out | apply below_alloc | apply pw_below_drewN | apply below_drew1 | refine below_set ?_ (IsS84.ge HI0.out) | refine below_set ?_ GE344.out | refine below_set ?_ GE345.out) | exact HB.out)⟩⟩
       case round =>
        clear H'
        try clear c1
        try clear p2
        try clear c3
        try clear p3
        try clear q3
        try clear hx3
        try clear qi3
        try clear c4
        try clear c5
        try clear c6
        try clear p6
        try clear c9
        try clear c9b0
        try clear c13
        try clear c13b0
        try clear c13b1
        try clear c33
        try clear c33b0
        try clear c33b1
        try clear c36
        try clear p36
        try clear q36
        try clear hx36
        try clear qi36
        try clear c37
        try clear c41
        try clear c43
        try clear c43b0
        try clear c43b1
        try clear c46
        try clear c46b0
        try clear c47
        try clear c47b0
        try clear c52
        try clear c53
        try clear c57
        try clear c58
        try clear c59
        try clear c61
        try clear c63
        try clear c63b0
        try clear c63b1
        try clear p64
        try clear hcz38_0
        try clear hcz38_1
        try clear hcz40_0
        try clear hcz40_1
        try clear hcz42_0
        try clear hcz42_1
        try clear hcz60_0
        try clear hcz60_1
        try clear hcz62_0
        try clear hcz62_1
        try clear hfz38_0
        try clear hfz38_1
        try clear hfz40_0
        try clear hfz40_1
        try clear hfz42_0
        try clear hfz42_1
        try clear hfz60_0
        try clear hfz60_1
        try clear hfz62_0
        try clear hfz62_1
        try clear hx368_0
        try clear p368
        try clear q368
        obtain ⟨x5_2, x1001_2, x346000_2, rfl, HA, HK2, BK344, BK345, HI0, HK, HB⟩ := hrel
        cases gk with
        | zero => exact absurd HA.out (by simp [spec_l72Shelf.l1])
        | succ k2 =>
         have H := HA.out
         clear HA
         simp only [spec_l72Shelf.l1] at H
         obtain ⟨⟨t369, t370⟩, A650, H⟩ := Option.bind_eq_some_iff.mp H
         try dsimp only at H
         have A65 := Aside0.mk A650
         clear A650
         by_cases c66 : x5_2 < (wrap64 (38 + t369))
         ·rw [if_pos c66] at H
          have c66b0 : decide (x5_2 < (wrap64 (38 + t369))) = true := decide_eq_true c66
          clear c66
          obtain ⟨⟨t371, t372⟩, A670, H⟩ := Option.bind_eq_some_iff.mp H
          try dsimp only at H
          have A67 := Aside0.mk A670
          clear A670
          obtain ⟨t373, A680, H⟩ := Option.bind_eq_some_iff.mp H
          try dsimp only at H
          have A68 := Aside0.mk A680
          clear A680
          obtain ⟨t374, A690, H⟩ := Option.bind_eq_some_iff.mp H
          try dsimp only at H
          have A69 := Aside0.mk A690
          clear A690
          by_cases c70 : x346000_2.size + t374.size ≤ 9223372036854775807
          ·rw [if_pos c70] at H
           have c70b0 := eq_true c70
           have c70b1 : decide (x346000_2.size + t374.size ≤ 9223372036854775807) = true := decide_eq_true c70
           try have c70b2 : (9223372036854775807 < x346000_2.size + t374.size) = False := eq_false (Nat.not_lt.2 c70)
           have H' := Aside0.mk H
           clear H
           try go_wp2_with (first | ((with_reducible refine gate_callee (f := 53) rfl ?_); refine zgo_ (some 56) Try.func53 #[.pointer (some ⟨g, 0, none⟩), .int .i64 3] ?_; (with_reducible refine (spec_l6Rd_pick.calls k2 g s0_0 x1001_2 3 t369 t370 w0 _ ?side1 ?side2 A65.out).mono ?_); (case side1 => exact zz12); (case side2 => exact zz10); rintro e w71 ⟨rfl, hi, hb, hk⟩; refine ⟨_, rfl, ?_⟩; have n0_ := Aside0.mk (KeepBut.blk hk (g' := gb344) (o := .cells #[.string (⟨#[]⟩ : ByteArray), .int .i64 0] 26 (0, 0)) zz22 NB344_0.out (by simp)); have n1_ := Aside0.mk (KeepBut.blk hk (g' := gb345) (o := .cells #[.string x346000_2, .int .i64 x346001_1] 26 (0, 0)) zz24 NB345_0.out (by simp)); have n2_ := Aside0.mk (KeepBut.trans zz11 hk (.inl rfl)); have n3_ := Aside0.mk (hb); have n4_ := Aside0.mk (hi); clear BK344; clear BK345; clear HK; clear HB; clear HI0; have BK344 := n0_; have BK345 := n1_; have HK := n2_; have HB := n3_; have HI0 := n4_; clear n0_ n1_ n2_ n3_ n4_; (try clear hb); (try clear hb2); (try clear hk); (try clear hi)))
           have n0_ := Aside0.mk (blk_drew BK344.out)
           have n1_ := Aside0.mk (blk_drew BK345.out)
           have n2_ := Aside0.mk (IsS84.drew HI0.out)
           have n3_ := Aside0.mk (keep_drew HK.out)
           have n4_ := Aside0.mk (below_drew1 HB.out)
           clear BK344
           clear BK345
           clear HI0
           clear HK
           clear HB
           have BK344 := n0_
           have BK345 := n1_
           have HI0 := n2_
           have HK := n3_
           have HB := n4_
           clear n0_ n1_ n2_ n3_ n4_
           refine start_ (n := 10) (S := fun w' => w'.cell? ⟨gb345, 0, none⟩ = some (.string x346000_2) ∧ w'.cell? ⟨gb345, 1, none⟩ = some (.int .i64 x346001_1)) (ds := [9]) #[false, false, false, false, false, false, false, false, false, false] (by kernel_rfl) rfl rfl ⟨(blk_cell BK345.out 0).trans rfl, (blk_cell BK345.out 1).trans rfl⟩ (fun hHeld => ?_); refine with_tabW spec_l72Shelf.tab17 spec_l72Shelf.bits17 (fun HT_ HW_ => ?_)
           generalize w71.drew = w72 at BK344 BK345 HI0 HK HB hHeld ⊢
           refine pure_ (i := 0) (N := some 61) (v := ?_) (a' := ?_) #[true, false, false, false, false, false, false, false, false, false] rfl rfl (any_of HT_.out (by kernel_rfl)) (fun _ _ _ h => h) (Or.inl ⟨by rfl, ?_⟩) ?_ ?_
           rotate_left
           ·intro w'
            go_simp
            with_reducible rfl
           rotate_left
           ·simp only [Act.put, List.setIfInBounds_toArray, List.set_cons_zero, List.set_cons_succ, i64_w, i32_w]
            rfl
           refine pure_ (i := 2) (N := some 63) (v := ?_) (a' := ?_) #[true, false, true, false, false, false, false, false, false, false] rfl rfl (any_of HT_.out (by kernel_rfl)) (fun _ _ _ h => h) (Or.inl ⟨by rfl, ?_⟩) ?_ ?_
           rotate_left
           ·intro w'
            go_simp
            with_reducible rfl
           rotate_left
           ·simp only [Act.put, List.setIfInBounds_toArray, List.set_cons_zero, List.set_cons_succ, i64_w, i32_w]
            rfl
           refine take_ (i := 1) (N := some 62) (v := ?_) (a' := ?_) #[true, true, true, false, false, false, false, false, false, false] rfl rfl (take_ofW HT_.out HW_.out (by kernel_rfl)) (fun _ _ _ h => h) (Or.inl ⟨by rfl, ?_⟩) hHeld ?_ ?_
           rotate_left
           ·rintro w' ⟨s0, s1⟩
            go_simp
            with_reducible rfl
           rotate_left
           ·simp only [Act.put, List.setIfInBounds_toArray, List.set_cons_zero, List.set_cons_succ, i64_w, i32_w]
            rfl
           refine one_ (i := 3) (N := some 64) #[true, true, true, true, false, false, false, false, false, false] rfl rfl (one_of HT_.out (by kernel_rfl)) (by decide) (fun K hK => ?_)
           refine goes_ Try.func53 (by kernel_rfl) rfl #[.pointer (some ⟨g, 0, none⟩), .int .i64 3] (by rfl) rfl rfl zz16 ?_
           with_reducible refine (spec_l6Rd_pick.calls k2 g s0_0 t370 3 t371 t372 w0 _ ?side1 ?side2 A67.out).mono ?_
           (case side1 => exact zz12)
           (case side2 => exact zz10)
           rintro e w73 ⟨rfl, hi, hb, hk⟩
           refine ⟨_, rfl, ?_⟩
           have n0_ := Aside0.mk (KeepBut.blk hk (g' := gb344) (o := .cells #[.string (⟨#[]⟩ : ByteArray), .int .i64 0] 26 (0, 0)) zz22 NB344_0.out (by simp))
           have n1_ := Aside0.mk (KeepBut.blk hk (g' := gb345) (o := .cells #[.string x346000_2, .int .i64 x346001_1] 26 (0, 0)) zz24 NB345_0.out (by simp))
           have n2_ := Aside0.mk (KeepBut.trans zz11 hk (.inl rfl))
           have n3_ := Aside0.mk (hb)
           have n4_ := Aside0.mk (hi)
           clear BK344
           clear BK345
           clear HK
           clear HB
           clear HI0
           have BK344 := n0_
           have BK345 := n1_
           have HK := n2_
           have HB := n3_
           have HI0 := n4_
           clear n0_ n1_ n2_ n3_ n4_
           (try clear hb)
           (try clear hb2)
           (try clear hk)
           (try clear hi)
           refine hK.out _ _ ⟨(blk_cell BK345.out 0).trans rfl, (blk_cell BK345.out 1).trans rfl⟩ (fun hHeld => ?_)
           clear hK K
           refine norm_ (a' := ?_) ?_ ?_
           rotate_left
           ·show Act.put _ (some 64) _ = _
            simp only [Act.put, List.setIfInBounds_toArray, List.set_cons_zero, List.set_cons_succ, i64_w, i32_w]
            rfl
           refine pure_ (i := 4) (N := some 65) (v := ?_) (a' := ?_) #[true, true, true, true, true, false, false, false, false, false] rfl rfl (any_of HT_.out (by kernel_rfl)) (fun _ _ _ h => h) (Or.inl ⟨by rfl, ?_⟩) ?_ ?_
           rotate_left
           ·intro w'
            go_simp
            with_reducible rfl
           rotate_left
           ·simp only [Act.put, List.setIfInBounds_toArray, List.set_cons_zero, List.set_cons_succ, i64_w, i32_w]
            rfl
           refine one_ (i := 5) (N := some 66) #[true, true, true, true, true, true, false, false, false, false] rfl rfl (one_of HT_.out (by kernel_rfl)) (by decide) (fun K hK => ?_)
           refine goes_ Try.func60 (by kernel_rfl) rfl #[.string (⟨#[102]⟩ : ByteArray), .int .i64 (wrap64 (58 + t371))] (by rfl) rfl rfl zz16 ?_
           with_reducible refine (spec_l6Many.calls k2 (⟨#[102]⟩ : ByteArray) (wrap64 (58 + t371)) t373 _ A68.out).mono ?_
           rintro e w' ⟨rfl, ⟨nd, rfl⟩⟩
           refine ⟨_, rfl, ?_⟩
           refine hK.out _ _ ⟨(blk_cell BK345.out 0).trans rfl, (blk_cell BK345.out 1).trans rfl⟩ (fun hHeld => ?_)
           clear hK K
           refine norm_ (a' := ?_) ?_ ?_
           rotate_left
           ·show Act.put _ (some 66) _ = _
            simp only [Act.put, List.setIfInBounds_toArray, List.set_cons_zero, List.set_cons_succ, i64_w, i32_w]
            rfl
           refine one_ (i := 6) (N := some 67) #[true, true, true, true, true, true, true, false, false, false] rfl rfl (one_of HT_.out (by kernel_rfl)) (by decide) (fun K hK => ?_)
           refine goes_ Try.func59 (by kernel_rfl) rfl #[.string t373] (by rfl) rfl rfl zz16 ?_
           with_reducible refine (spec_l11Rec.calls k2 t373 t374 _ A69.out).mono ?_
           rintro e w74 ⟨rfl, hb⟩
           refine ⟨_, rfl, ?_⟩
           have n0_ := Aside0.mk (blk_below (g := gb344) (o := .cells #[.string (⟨#[]⟩ : ByteArray), .int .i64 0] 26 (0, 0)) zz22 hb)
           have n1_ := Aside0.mk (blk_below (g := gb345) (o := .cells #[.string x346000_2, .int .i64 x346001_1] 26 (0, 0)) zz24 hb)
           have n2_ := Aside0.mk (IsS84.below zz12 hb)
           have n3_ := Aside0.mk (KeepBut.trans zz11 (KeepBut.of_below hb g none) (.inl rfl))
           have n4_ := Aside0.mk (below_step zz10 hb)
           clear BK344
           clear BK345
           clear HI0
           clear HK
           clear HB
           have BK344 := n0_
           have BK345 := n1_
           have HI0 := n2_
           have HK := n3_
           have HB := n4_
           clear n0_ n1_ n2_ n3_ n4_
           (try clear hb)
           (try clear hb2)
           (try clear hk)
           (try clear hi)
           refine hK.out _ _ ⟨(blk_cell BK345.out 0).trans rfl, (blk_cell BK345.out 1).trans rfl⟩ (fun hHeld => ?_)
           clear hK K
           refine norm_ (a' := ?_) ?_ ?_
           rotate_left
           ·show Act.put _ (some 67) _ = _
            simp only [Act.put, List.setIfInBounds_toArray, List.set_cons_zero, List.set_cons_succ, i64_w, i32_w]
            rfl
           refine pure_ (i := 7) (N := some 68) (v := ?_) (a' := ?_) #[true, true, true, true, true, true, true, true, false, false] rfl rfl (any_of HT_.out (by kernel_rfl)) (fun _ _ _ h => h) (Or.inl ⟨by rfl, ?_⟩) ?_ ?_
           rotate_left
           ·intro w'
            go_simp
            with_reducible rfl
           rotate_left
           ·simp only [Act.put, List.setIfInBounds_toArray, List.set_cons_zero, List.set_cons_succ, i64_w, i32_w]
            rfl
           refine pure_ (i := 8) (N := some 69) (v := ?_) (a' := ?_) #[true, true, true, true, true, true, true, true, true, false] rfl rfl (any_of HT_.out (by kernel_rfl)) (fun _ _ _ h => h) (Or.inl ⟨by rfl, ?_⟩) ?_ ?_
           rotate_left
           ·intro w'
            go_simp
            with_reducible rfl
           rotate_left
           ·simp only [Act.put, List.setIfInBounds_toArray, List.set_cons_zero, List.set_cons_succ, i64_w, i32_w]
            rfl
           refine last_ (i := 9) (N := none) #[true, true, true, true, true, true, true, true, true, true] rfl rfl (one_of HT_.out (by kernel_rfl)) (by decide) (fun K hK => ?_)
           have hs75 : w74.cell? ⟨gb345, 0, none⟩ = some (.string x346000_2) := (blk_cell BK345.out 0).trans rfl
           have hfs75 := blk_frozen BK345.out 0
           have hns75_0 := NB344_345.out
           have hms75_0 := NB345_344.out
           refine skip_ (w1 := ?_) (by rfl) rfl ?_ ?_
           rotate_left
           ·go_simp
            rfl
           refine hK.out _ _ ?_
           clear hK K
           refine done_ (done_of HT_.out (by kernel_rfl)) ?_
           try go_wp2
           go_roundg k2
           case measure => have := HK1.out; have := HK2.out; omega
           case rel => exact ⟨(wrap64 (x5_2 + 1)), (t372), (x346000_2 ++ t374), zz20, H', ⟨by have := HK1.out; have := HK2.out; omega⟩, ⟨by (with_reducible repeat (first | refine blk_drewN ?_ _ | refine blk_drew ?_ | refine blk_alloc ?_ _)); refine blk_far ?_ NB344_345.out _; (with_reducible repeat (first | refine blk_drewN ?_ _ | refine blk_drew ?_ | refine blk_alloc ?_ _)); exact BK344.out⟩, ⟨by (with_reducible repeat (first | refine blk_drewN ?_ _ | refine blk_drew ?_ | refine blk_alloc ?_ _)); refine blk_put (cs := #[.string x346000_2, .int .i64 x346001_1]) ?_ 0 _ rfl; (with_reducible repeat (first | refine blk_drewN ?_ _ | refine blk_drew ?_ | refine blk_alloc ?_ _)); exact BK345.out⟩, ⟨by repeat (first | (with_reducible first | exact HI0.out | apply IsS84.alloc | apply IsS84.drewN | apply IsS84.drew | apply IsS84.set_1 | refine IsS84.far ?_ NB0_344.out _ | refine IsS84.far ?_ NB0_345.out _) | exact HI0.out)⟩, ⟨by repeat (first | (with_reducible first | exact HK.out | apply KeepBut.set_ | apply keep_drewN | apply keep_drew | apply keep_alloc | refine keep_far ?_ GW344.out _ | refine keep_far ?_ GW345.out _) | exact HK.out)⟩, ⟨by repeat (first | (with_reducible first | exact HB.out | apply below_alloc | apply pw_below_drewN | apply below_drew1 | refine below_set ?_ (IsS84.ge HI0.out) | refine below_set ?_ GE344.out | refine below_set ?_ GE345.out) | exact HB.out)⟩⟩
          ·rw [if_neg c70] at H
           exact absurd H (by simp)
         ·rw [if_neg c66] at H
          have c66b0 : decide (x5_2 < (wrap64 (38 + t369))) = false := decide_eq_false c66
          clear c66
          simp only [Option.some.injEq, Prod.mk.injEq] at H
          obtain ⟨rfl, rfl, rfl⟩ := H
          go_wp2_with (first | ((with_reducible refine gate_callee (f := 53) rfl ?_); refine zgo_ (some 56) Try.func53 #[.pointer (some ⟨g, 0, none⟩), .int .i64 3] ?_; (with_reducible refine (spec_l6Rd_pick.calls k2 g s0_0 x1001_2 3 t369 t370 w0 _ ?side1 ?side2 A65.out).mono ?_); (case side1 => exact zz12); (case side2 => exact zz10); rintro e w76 ⟨rfl, hi, hb, hk⟩; refine ⟨_, rfl, ?_⟩; have n0_ := Aside0.mk (KeepBut.blk hk (g' := gb344) (o := .cells #[.string (⟨#[]⟩ : ByteArray), .int .i64 0] 26 (0, 0)) zz22 NB344_0.out (by simp)); have n1_ := Aside0.mk (KeepBut.blk hk (g' := gb345) (o := .cells #[.string x346000_2, .int .i64 x346001_1] 26 (0, 0)) zz24 NB345_0.out (by simp)); have n2_ := Aside0.mk (KeepBut.trans zz11 hk (.inl rfl)); have n3_ := Aside0.mk (hb); have n4_ := Aside0.mk (hi); clear BK344; clear BK345; clear HK; clear HB; clear HI0; have BK344 := n0_; have BK345 := n1_; have HK := n2_; have HB := n3_; have HI0 := n4_; clear n0_ n1_ n2_ n3_ n4_; (try clear hb); (try clear hb2); (try clear hk); (try clear hi); have hnb77 := NB345_344.out; have hnc77 := NB344_345.out; have hnb78 := NB345_0.out; have hnc78 := NB0_345.out; have hcz79_0 : w76.cell? ⟨gb345, 0, none⟩ = some (.string x346000_2) := (blk_cell BK345.out 0).trans rfl; have hcz79_1 : w76.cell? ⟨gb345, 1, none⟩ = some (.int .i64 x346001_1) := (blk_cell BK345.out 1).trans rfl; have hfz79_0 := blk_frozen BK345.out 0; have hfz79_1 := blk_frozen BK345.out 1; have hnb80 := NB344_0.out; have hnc80 := NB0_344.out; have hcz81_0 : w76.cell? ⟨gb344, 0, none⟩ = some (.string (⟨#[]⟩ : ByteArray)) := (blk_cell BK344.out 0).trans rfl; have hcz81_1 : w76.cell? ⟨gb344, 1, none⟩ = some (.int .i64 0) := (blk_cell BK344.out 1).trans rfl; have hfz81_0 := blk_frozen BK344.out 0; have hfz81_1 := blk_frozen BK344.out 1))
          refine bodyPost_ret (results_cell_row rfl _ _ gb344 26 #[.string x346000_2, .int .i64 x346001_1] (0, 0) _ rfl (by (with_reducible repeat (first | refine blk_drewN ?_ _ | refine blk_drew ?_ | refine blk_alloc ?_ _)); refine blk_put (cs := #[.string x346000_2, .int .i64 0]) ?_ 1 _ rfl; (with_reducible repeat (first | refine blk_drewN ?_ _ | refine blk_drew ?_ | refine blk_alloc ?_ _)); refine blk_put (cs := #[.string (⟨#[]⟩ : ByteArray), .int .i64 0]) ?_ 0 _ rfl; (with_reducible repeat (first | refine blk_drewN ?_ _ | refine blk_drew ?_ | refine blk_alloc ?_ _)); exact BK344.out) Try.underlying26 rfl (by kernel_rfl)) rfl ?_
          exact ⟨by first | rfl | (simp [errW_none, errW_some] <;> rfl) | (simp [*, errW_none, errW_some] <;> rfl), by repeat (first | (with_reducible first | exact HI0.out | apply IsS84.alloc | apply IsS84.drewN | apply IsS84.drew | apply IsS84.set_1 | refine IsS84.far ?_ NB0_344.out _ | refine IsS84.far ?_ NB0_345.out _) | exact HI0.out), by repeat (first | (with_reducible first | exact HB.out | apply below_alloc | apply pw_below_drewN | apply below_drew1 | refine below_set ?_ (IsS84.ge HI0.out) | refine below_set ?_ GE344.out | refine below_set ?_ GE345.out) | exact HB.out), by repeat (first | (with_reducible first | exact HK.out | apply KeepBut.set_ | apply keep_drewN | apply keep_drew | apply keep_alloc | refine keep_far ?_ GW344.out _ | refine keep_far ?_ GW345.out _) | exact HK.out)⟩
      ·rw [if_neg c63] at H
       have c63b0 : (t357 == 2) = false := beq_eq_false_iff_ne.mpr c63
       have c63b1 : (t357 != 2) = true := bne_iff_ne.mpr c63
       simp only [Option.some.injEq, Prod.mk.injEq] at H
       obtain ⟨rfl, rfl, rfl⟩ := H
       go_wp2_with (first | ((with_reducible refine gate_callee (f := 53) rfl ?_); refine zgo_ (some 26) Try.func53 #[.pointer (some ⟨g, 0, none⟩), .int .i64 14] ?_; (with_reducible refine (spec_l6Rd_pick.calls k1 g s0_0 x1001_1 14 t357 t358 w0 _ ?side1 ?side2 A32.out).mono ?_); (case side1 => exact zz12); (case side2 => exact zz10); rintro e w82 ⟨rfl, hi, hb, hk⟩; refine ⟨_, rfl, ?_⟩; have n0_ := Aside0.mk (KeepBut.blk hk (g' := gb344) (o := .cells #[.string (⟨#[]⟩ : ByteArray), .int .i64 0] 26 (0, 0)) zz22 NB344_0.out (by simp)); have n1_ := Aside0.mk (KeepBut.blk hk (g' := gb345) (o := .cells #[.string x346000_1, .int .i64 x346001_1] 26 (0, 0)) zz24 NB345_0.out (by simp)); have n2_ := Aside0.mk (KeepBut.trans zz11 hk (.inl rfl)); have n3_ := Aside0.mk (hb); have n4_ := Aside0.mk (hi); clear BK344; clear BK345; clear HK; clear HB; clear HI0; have BK344 := n0_; have BK345 := n1_; have HK := n2_; have HB := n3_; have HI0 := n4_; clear n0_ n1_ n2_ n3_ n4_; (try clear hb); (try clear hb2); (try clear hk); (try clear hi); have hnb83 := NB345_344.out; have hnc83 := NB344_345.out; have hnb84 := NB345_0.out; have hnc84 := NB0_345.out; have hcz85_0 : w82.cell? ⟨gb345, 0, none⟩ = some (.string x346000_1) := (blk_cell BK345.out 0).trans rfl; have hcz85_1 : w82.cell? ⟨gb345, 1, none⟩ = some (.int .i64 x346001_1) := (blk_cell BK345.out 1).trans rfl; have hfz85_0 := blk_frozen BK345.out 0; have hfz85_1 := blk_frozen BK345.out 1; have hnb86 := NB344_0.out; have hnc86 := NB0_344.out; have hcz87_0 : w82.cell? ⟨gb344, 0, none⟩ = some (.string (⟨#[]⟩ : ByteArray)) := (blk_cell BK344.out 0).trans rfl; have hcz87_1 : w82.cell? ⟨gb344, 1, none⟩ = some (.int .i64 0) := (blk_cell BK344.out 1).trans rfl; have hfz87_0 := blk_frozen BK344.out 0; have hfz87_1 := blk_frozen BK344.out 1))
       refine bodyPost_ret (results_cell_row rfl _ _ gb344 26 #[.string x346000_1, .int .i64 x346001_1] (0, 0) _ rfl (by (with_reducible repeat (first | refine blk_drewN ?_ _ | refine blk_drew ?_ | refine blk_alloc ?_ _)); refine blk_put (cs := #[.string x346000_1, .int .i64 0]) ?_ 1 _ rfl; (with_reducible repeat (first | refine blk_drewN ?_ _ | refine blk_drew ?_ | refine blk_alloc ?_ _)); refine blk_put (cs := #[.string (⟨#[]⟩ : ByteArray), .int .i64 0]) ?_ 0 _ rfl; (with_reducible repeat (first | refine blk_drewN ?_ _ | refine blk_drew ?_ | refine blk_alloc ?_ _)); exact BK344.out) Try.underlying26 rfl (by kernel_rfl)) rfl ?_
       exact ⟨by first | rfl | (simp [errW_none, errW_some] <;> rfl) | (simp [*, errW_none, errW_some] <;> rfl), by repeat (first | (with_reducible first | exact HI0.out | apply IsS84.alloc | apply IsS84.drewN | apply IsS84.drew | apply IsS84.set_1 | refine IsS84.far ?_ NB0_344.out _ | refine IsS84.far ?_ NB0_345.out _) | exact HI0.out), by repeat (first | (with_reducible first | exact HB.out | apply below_alloc | apply pw_below_drewN | apply below_drew1 | refine below_set ?_ (IsS84.ge HI0.out) | refine below_set ?_ GE344.out | refine below_set ?_ GE345.out) | exact HB.out), by repeat (first | (with_reducible first | exact HK.out | apply KeepBut.set_ | apply keep_drewN | apply keep_drew | apply keep_alloc | refine keep_far ?_ GW344.out _ | refine keep_far ?_ GW345.out _) | exact HK.out)⟩

end Go.Proofs.Ytdgigadocempdaa.PFnShelfFall
