/- What the Go functions that a law reaches compute, function by function: the machine's calls come to just what these Lean functions say. No condition. Written by a program of this session. -/
import Derived.Test.YtdgigadocempdaaPFnShelfFallx0
import Derived.Test.YtdgigadocempdaaPFnShelfFallx3
namespace Go.Proofs.Ytdgigadocempdaa.PFnShelfFall
open Go.RowKit Go.Proofs.YtdgigadocempdaaW.PrintWords Go.Proofs.YtdgigadocempdaaW.PrintLast Go.Proofs.YtdgigadocempdaaW.PrintMore
attribute [local go_sem] max2_int min2_int max_two min_two max_three min_three max_four min_four   -- for this text's walks alone
set_option linter.unusedVariables false
set_option linter.unusedSimpArgs false

/-! ### impl_natural: function 39 -/
mutual
def impl_natural.j0 : Nat → ByteArray → Bool → Option (Int × Bool)
 | 0, _, _ => none
 | k + 1, x0, x19 => if x19 = true then (some (0, false)) else (impl_natural.l0 k x0 0 0)
def impl_natural.l0 : Nat → ByteArray → Int → Int → Option (Int × Bool)
 | 0, _, _, _ => none
 | k + 1, x0, x4, x5 => if x5 < (x0.size : Int) then (if 0 ≤ x5 then ((impl_in.f (wrap64 (bt x0 x5)) 48 57).bind fun t130 => (if t130 = true then (impl_natural.l0 k x0 (wrap64 ((wrap64 (10 * x4)) + (((bt x0 x5) - 48) % 256))) (wrap64 (x5 + 1))) else (some (0, false)))) else (none)) else (some (x4, true))
end
def impl_natural.f (k : Nat) (a0 : ByteArray) : Option (Int × Bool) := (impl_in.f (a0.size : Int) 1 5).bind fun t129 => (if t129 = true then (if 0 < (a0.size : Int) then (if (bt a0 0) = 48 then (impl_natural.j0 k a0 (decide ((a0.size : Int) > 1))) else (impl_natural.j0 k a0 false)) else (none)) else (impl_natural.j0 k a0 true))
theorem impl_natural.mono_l : ∀ k, (∀ y0 y1, LeO (impl_natural.j0 k y0 y1) (impl_natural.j0 (k + 1) y0 y1)) ∧ (∀ y0 y1 y2, LeO (impl_natural.l0 k y0 y1 y2) (impl_natural.l0 (k + 1) y0 y1 y2))
 | 0 => ⟨fun _ _ r h => by simp [impl_natural.j0] at h, fun _ _ _ r h => by simp [impl_natural.l0] at h⟩
 | k + 1 => by
  obtain ⟨ih0, ih1⟩ := impl_natural.mono_l k
  refine ⟨?_, ?_⟩
  ·intro y0 y1
   unfold impl_natural.j0
   repeat' first
   | (with_reducible exact ih0 _ _)
   | (with_reducible exact ih1 _ _ _)
   | (with_reducible exact LeO.refl _)
   | (with_reducible exact LeO.none _)
   | (with_reducible refine LeO.ite ?_ ?_)
   | (with_reducible refine LeO.bind ?_ (fun _ => ?_))
   | exact ih0 _ _
   | exact ih1 _ _ _
   | exact LeO.none _
   | refine LeO.ite ?_ ?_
   | refine LeO.bind ?_ (fun _ => ?_)
  ·intro y0 y1 y2
   unfold impl_natural.l0
   repeat' first
   | (with_reducible exact ih0 _ _)
   | (with_reducible exact ih1 _ _ _)
   | (with_reducible exact LeO.refl _)
   | (with_reducible exact LeO.none _)
   | (with_reducible refine LeO.ite ?_ ?_)
   | (with_reducible refine LeO.bind ?_ (fun _ => ?_))
   | exact ih0 _ _
   | exact ih1 _ _ _
   | exact LeO.none _
   | refine LeO.ite ?_ ?_
   | refine LeO.bind ?_ (fun _ => ?_)
theorem impl_natural.mono : ∀ a0 k, LeO (impl_natural.f k a0) (impl_natural.f (k + 1) a0) := by
 intro a0 k
 obtain ⟨ih0, ih1⟩ := impl_natural.mono_l k
 unfold impl_natural.f
 repeat' first
   | (with_reducible exact ih0 _ _)
   | (with_reducible exact ih1 _ _ _)
   | (with_reducible exact LeO.refl _)
   | (with_reducible exact LeO.none _)
   | (with_reducible refine LeO.ite ?_ ?_)
   | (with_reducible refine LeO.bind ?_ (fun _ => ?_))
   | exact ih0 _ _
   | exact ih1 _ _ _
   | exact LeO.none _
   | refine LeO.ite ?_ ?_
   | refine LeO.bind ?_ (fun _ => ?_)
set_option maxHeartbeats 8000000 in
set_option maxRecDepth 100000 in
theorem impl_natural.calls (k : Nat) (a0 : ByteArray) (r1 : Int) (r2 : Bool) (w : World) (h : impl_natural.f k a0 = some (r1, r2)) :
  Calls Try.prog 39 #[.string a0] w fun e w' => e = .returned (.tuple #[.int .i64 r1, .bool r2]) ∧ Drawn0 w w' := by
 have H := h
 clear h
 unfold impl_natural.f at H
 have HC2 := Aside0.mk H
 clear H
 go_enter Try.func39, Try.ntmps39
 go_upto_region 1 with (fail)
 go_cut [19] (fun v19 wc => ∃ (kq : Nat) (x19_1 : Bool), v19 = .bool x19_1 ∧ Aside0 (impl_natural.j0 kq a0 x19_1 = some (r1, r2)) ∧ Aside0 (kq ≤ k) ∧ Drawn0 w wc)
 case first =>
  have H := HC2.out
  clear HC2
  obtain ⟨t129, A30, H⟩ := Option.bind_eq_some_iff.mp H
  try dsimp only at H
  have A3 := Aside0.mk A30
  clear A30
  by_cases c4 : t129 = true
  ·subst c4
   rw [if_pos rfl] at H
   by_cases c5 : 0 < (a0.size : Int)
   ·rw [if_pos c5] at H
    have c5b0 : decide (0 < (a0.size : Int)) = true := decide_eq_true c5
    have c5b1 : decide (0 < a0.size) = true := decide_eq_true (by omega)
    clear c5
    (first | rw [c5b0] | (simp only [i64_w, i32_w]; rw [c5b0]) | skip)
    by_cases c7 : (bt a0 0) = 48
    ·rw [if_pos c7] at H
     have c7b0 : ((bt a0 0) == 48) = true := beq_iff_eq.mpr c7
     have c7b1 : ((bt a0 0) != 48) = false := bne_eq_false_iff_eq.mpr c7
     clear c7
     have H' := Aside0.mk H
     clear H
     go_wp2_with (first | ((with_reducible refine gate_callee (f := 37) rfl ?_); refine zgo_ (some 8) Try.func37 #[.int .i64 (a0.size : Int), .int .i64 1, .int .i64 5] ?_; (with_reducible refine (impl_in.calls (a0.size : Int) 1 5 true _ A3.out).mono ?_); rintro e w' ⟨rfl, ⟨nd, rfl⟩⟩; refine ⟨_, rfl, ?_⟩; have p6 : 0 ≤ (0 : Int) := (by omega); have q6 : 0 < a0.size := (by have : (0 : Int) < (a0.size : Int) := of_decide_eq_true zz14; omega); have hx6 : ∀ h : 0 < a0.size, ((a0[0]'h).toNat : Int) = bt a0 0 := bt_at a0 0; clear p6; have qi6 : (0 < (a0.size : Int)) = True := eq_true (of_decide_eq_true zz14); replace q6 := eq_true q6))
     go_meet
     case rel => exact ⟨_, (decide ((a0.size : Int) > 1)), zz20, H', ⟨by first | omega | exact Nat.le_refl _⟩, by repeat (first | exact Drawn0.refl _ | apply Drawn0.step)⟩
    ·rw [if_neg c7] at H
     have c7b0 : ((bt a0 0) == 48) = false := beq_eq_false_iff_ne.mpr c7
     have c7b1 : ((bt a0 0) != 48) = true := bne_iff_ne.mpr c7
     have H' := Aside0.mk H
     clear H
     go_wp2_with (first | ((with_reducible refine gate_callee (f := 37) rfl ?_); refine zgo_ (some 8) Try.func37 #[.int .i64 (a0.size : Int), .int .i64 1, .int .i64 5] ?_; (with_reducible refine (impl_in.calls (a0.size : Int) 1 5 true _ A3.out).mono ?_); rintro e w' ⟨rfl, ⟨nd, rfl⟩⟩; refine ⟨_, rfl, ?_⟩; have p6 : 0 ≤ (0 : Int) := (by omega); have q6 : 0 < a0.size := (by have : (0 : Int) < (a0.size : Int) := of_decide_eq_true zz14; omega); have hx6 : ∀ h : 0 < a0.size, ((a0[0]'h).toNat : Int) = bt a0 0 := bt_at a0 0; clear p6; have qi6 : (0 < (a0.size : Int)) = True := eq_true (of_decide_eq_true zz14); replace q6 := eq_true q6))
     go_meet
     case rel => exact ⟨_, (false), zz20, H', ⟨by first | omega | exact Nat.le_refl _⟩, by repeat (first | exact Drawn0.refl _ | apply Drawn0.step)⟩
   ·rw [if_neg c5] at H
    exact absurd H (by simp)
  ·replace c4 := Bool.eq_false_iff.mpr c4
   subst c4
   rw [if_neg (show ¬ (false = true) by decide)] at H
   have H' := Aside0.mk H
   clear H
   go_wp2_with (first | ((with_reducible refine gate_callee (f := 37) rfl ?_); refine zgo_ (some 8) Try.func37 #[.int .i64 (a0.size : Int), .int .i64 1, .int .i64 5] ?_; (with_reducible refine (impl_in.calls (a0.size : Int) 1 5 false _ A3.out).mono ?_); rintro e w' ⟨rfl, ⟨nd, rfl⟩⟩; refine ⟨_, rfl, ?_⟩))
   go_meet
   case rel => exact ⟨_, (true), zz20, H', ⟨by first | omega | exact Nat.le_refl _⟩, by repeat (first | exact Drawn0.refl _ | apply Drawn0.step)⟩
 case rest =>
  clear HC2
  try clear p2
  try clear c3
  try clear c4
  try clear c5
  try clear c5b0
  try clear c5b1
  try clear p6
  try clear q6
  try clear hx6
  try clear qi6
  try clear c7
  try clear c7b0
  try clear c7b1
  try clear p6
  try clear q6
  obtain ⟨kq, x19_1, rfl, HA, HJ1, ⟨mc1, rfl⟩⟩ := hcut
  cases kq with
  | zero => exact absurd HA.out (by simp [impl_natural.j0])
  | succ kj1 =>
   have H := HA.out
   clear HA
   simp only [impl_natural.j0] at H
   by_cases c8 : x19_1 = true
   ·subst c8
    rw [if_pos rfl] at H
    simp only [Option.some.injEq, Prod.mk.injEq] at H
    obtain ⟨rfl, rfl⟩ := H
    go_wp2
    go_ret2
    exact ⟨by first | rfl | (simp; done) | (simp [*]; done), by repeat (first | exact Drawn0.refl _ | apply Drawn0.step)⟩
   ·replace c8 := Bool.eq_false_iff.mpr c8
    subst c8
    rw [if_neg (show ¬ (false = true) by decide)] at H
    have H' := Aside0.mk H
    clear H
    go_wp2
    go_loopg [4, 5] kj1 (fun kq v4 v5 w' => ∃ (x4_2 : Int) (x5_2 : Int), v4 = .int .i64 x4_2 ∧ v5 = .int .i64 x5_2 ∧ Aside0 (impl_natural.l0 kq a0 x4_2 x5_2 = some (r1, r2)) ∧ Aside0 (kq ≤ kj1) ∧ Drawn0 w w')
    case atStart => exact ⟨(0), (0), zz20, zz20, H', ⟨Nat.le_refl _⟩, by repeat (first | exact Drawn0.refl _ | apply Drawn0.step)⟩
    case round =>
     clear H'
     try clear c1
     try clear p2
     try clear c3
     try clear c4
     try clear c5
     try clear c5b0
     try clear c5b1
     try clear p6
     try clear q6
     try clear hx6
     try clear qi6
     try clear c7
     try clear c7b0
     try clear c7b1
     try clear c8
     try clear p2
     try clear p6
     try clear q6
     obtain ⟨x4_2, x5_2, rfl, rfl, HA, HK2, ⟨m2, rfl⟩⟩ := hrel
     cases gk with
     | zero => exact absurd HA.out (by simp [impl_natural.l0])
     | succ k2 =>
      have H := HA.out
      clear HA
      simp only [impl_natural.l0] at H
      by_cases c9 : x5_2 < (a0.size : Int)
      ·rw [if_pos c9] at H
       have c9b0 : decide (x5_2 < (a0.size : Int)) = true := decide_eq_true c9
       clear c9
       by_cases c10 : 0 ≤ x5_2
       ·rw [if_pos c10] at H
        have c10b0 : decide (0 ≤ x5_2) = true := decide_eq_true c10
        clear c10
        obtain ⟨t130, A120, H⟩ := Option.bind_eq_some_iff.mp H
        try dsimp only at H
        have A12 := Aside0.mk A120
        clear A120
        by_cases c13 : t130 = true
        ·subst c13
         rw [if_pos rfl] at H
         have H' := Aside0.mk H
         clear H
         have p11 : 0 ≤ (x5_2 : Int) := of_decide_eq_true zz14
         have q11 : x5_2 < (a0.size : Int) := of_decide_eq_true zz14
         have hx11 := bt_at a0 x5_2
         replace p11 := eq_true p11
         replace q11 := eq_true q11
         go_wp2_with (first | ((with_reducible refine gate_callee (f := 37) rfl ?_); refine zgo_ (some 30) Try.func37 #[.int .i64 (wrap64 (bt a0 x5_2)), .int .i64 48, .int .i64 57] ?_; (with_reducible refine (impl_in.calls (wrap64 (bt a0 x5_2)) 48 57 true _ A12.out).mono ?_); rintro e w' ⟨rfl, ⟨nd, rfl⟩⟩; refine ⟨_, rfl, ?_⟩; have p14 : 0 ≤ (x5_2 : Int) := of_decide_eq_true zz14; have q14 : x5_2 < (a0.size : Int) := of_decide_eq_true zz14; have hx14 := bt_at a0 x5_2; replace p14 := eq_true p14; replace q14 := eq_true q14))
         go_roundg k2
         case measure => have := HJ1.out; have := HK2.out; omega
         case rel => exact ⟨(wrap64 ((wrap64 (10 * x4_2)) + (((bt a0 x5_2) - 48) % 256))), (wrap64 (x5_2 + 1)), zz20, zz20, H', ⟨by have := HJ1.out; have := HK2.out; omega⟩, by repeat (first | exact Drawn0.refl _ | apply Drawn0.step)⟩
        ·replace c13 := Bool.eq_false_iff.mpr c13
         subst c13
         rw [if_neg (show ¬ (false = true) by decide)] at H
         simp only [Option.some.injEq, Prod.mk.injEq] at H
         obtain ⟨rfl, rfl⟩ := H
         have p11 : 0 ≤ (x5_2 : Int) := of_decide_eq_true zz14
         have q11 : x5_2 < (a0.size : Int) := of_decide_eq_true zz14
         have hx11 := bt_at a0 x5_2
         replace p11 := eq_true p11
         replace q11 := eq_true q11
         go_wp2_with (first | ((with_reducible refine gate_callee (f := 37) rfl ?_); refine zgo_ (some 30) Try.func37 #[.int .i64 (wrap64 (bt a0 x5_2)), .int .i64 48, .int .i64 57] ?_; (with_reducible refine (impl_in.calls (wrap64 (bt a0 x5_2)) 48 57 false _ A12.out).mono ?_); rintro e w' ⟨rfl, ⟨nd, rfl⟩⟩; refine ⟨_, rfl, ?_⟩))
         go_ret2
         exact ⟨by first | rfl | (simp; done) | (simp [*]; done), by repeat (first | exact Drawn0.refl _ | apply Drawn0.step)⟩
       ·rw [if_neg c10] at H
        exact absurd H (by simp)
      ·rw [if_neg c9] at H
       have c9b0 : decide (x5_2 < (a0.size : Int)) = false := decide_eq_false c9
       clear c9
       simp only [Option.some.injEq, Prod.mk.injEq] at H
       obtain ⟨rfl, rfl⟩ := H
       go_wp2
       go_ret2
       exact ⟨by first | rfl | (simp; done) | (simp [*]; done), by repeat (first | exact Drawn0.refl _ | apply Drawn0.step)⟩

/-! ### impl_copied_string: function 40 -/
def impl_copied_string.f (l0 : List ByteArray) : Option (List ByteArray) := if l0.length ≤ 17592186044416 then some l0 else none
set_option maxHeartbeats 8000000 in
set_option maxRecDepth 100000 in
theorem impl_copied_string.calls (A0 : Option Addr) (c0 : Nat) (l0 : List ByteArray) (r : List ByteArray) (w : World) (hr0 : Kd.C Kd.string w A0 l0.length l0) (hc0 : l0.length ≤ c0) (h : impl_copied_string.f l0 = some r) :
  Calls Try.prog 40 #[.slice A0 l0.length c0] w fun e w' => ∃ v0_ : Value, e = .returned (v0_) ∧ Kd.R Kd.string 9 w' w.heap.size (fun _ => True) v0_ r ∧ Below w.heap.size w w' := by
 unfold impl_copied_string.f at h
 by_cases hb : l0.length ≤ 17592186044416
 ·rw [if_pos hb] at h
  obtain rfl := Option.some.inj h
  clear h
  have HR := Aside0.mk hr0
  clear hr0 hc0
  rcases Nat.eq_zero_or_pos l0.length with h0 | hpos
  ·have he : l0 = [] := List.eq_nil_of_length_eq_zero h0
   have HE := Aside0.mk he
   have hz : ((l0.length : Int) == 0) = true := by simpa using h0
   clear he h0 HR
   go_enter Try.func40, Try.ntmps40
   go_wp2
   go_ret
   refine ⟨_, rfl, ?_, Below.refl _ _⟩
   rw [HE.out]
   exact Kd.R_nil _ _ _ _ _
  ·have hz : ((l0.length : Int) == 0) = false := by
    rw [beq_eq_false_iff_ne]
    omega
   have HB0 := Aside0.mk hb
   have HP := Aside0.mk hpos
   clear hb hpos
   go_enter Try.func40, Try.ntmps40
   go_wp2_with (first | ((with_reducible refine gate_dst (N := 9) rfl ?_); refine Kd.R_make Kd.string _ 9 rfl (N := 9) rfl 29 _ _ rfl (l0.length : Int) rfl rfl Try.underlying29 (.string ⟨#[]⟩) 16 info9 rfl (by decide) (by omega) (⟨#[]⟩ : ByteArray) (ok := fun _ => True) (okp := fun _ => True) rfl (fun _ hk => hk) trivial (by omega) (Nat.le_trans (Nat.mul_le_mul_right _ (show (l0.length : Int).toNat ≤ 17592186044416 from HB0.out)) (by omega)) (Below.refl _ _) (Nat.le_refl _) ?_; intro v1 w1 ho1 hb1 hg1 hn1; clear hg1 hn1; have HO := Aside0.mk ho1; have HB := Aside0.mk hb1; clear ho1 hb1) | ((with_reducible refine gate_builtin (b := .copy) (xs := #[.tmp 10, .tmp 11]) (ts := #[29, 29]) rfl ?_); refine Go.Proofs.Ytdgigadocempdaa.Cpy.R_copy Kd.string Go.Proofs.Ytdgigadocempdaa.Cpy.flat_string _ 9 rfl (.tmp 10) (.tmp 11) 29 29 rfl Try.underlying29 (by have h_ := info9; obtain ⟨i_, hi_, he_⟩ := Option.map_eq_some_iff.1 h_; rw [hi_]; simp only [Prod.mk.injEq] at he_; simp only [Option.map_some, he_.2.1]; rfl) rfl rfl HO.out (Kd.C_below HR.out HB.out) (by simp) HP.out HB.out ?_; intro w2 ho2 hb2; have HO2 := Aside0.mk ho2; have HB2 := Aside0.mk hb2; clear ho2 hb2))
   go_ret
   exact ⟨_, rfl, HO2.out, HB2.out⟩
 ·rw [if_neg hb] at h
  cases h

/-! ### impl_ShelfRead: function 17 -/
mutual
def impl_ShelfRead.l0 : Nat → ByteArray → List ByteArray → Int → Option (List ByteArray × Int)
 | 0, _, _, _ => none
 | k + 1, x0, x4, x5 => if x5 < (x0.size : Int) then (impl_ShelfRead.l1 k x0 x4 x5 x5) else ((impl_copied_string.f x4).bind fun t131 => (some (t131, x5)))
def impl_ShelfRead.j2 : Nat → ByteArray → List ByteArray → Int → Int → Option (List ByteArray × Int)
 | 0, _, _, _, _ => none
 | k + 1, x0, x4, x5, x6 => if x6 ≥ (x0.size : Int) then (impl_ShelfRead.j3 k x0 x4 x5 x6 true) else (if 0 ≤ x6 then (if x6 < (x0.size : Int) then (impl_ShelfRead.j3 k x0 x4 x5 x6 ((bt x0 x6) != 58)) else (none)) else (none))
def impl_ShelfRead.j3 : Nat → ByteArray → List ByteArray → Int → Int → Bool → Option (List ByteArray × Int)
 | 0, _, _, _, _, _ => none
 | k + 1, x0, x4, x5, x6, x42 => if x42 = true then ((impl_copied_string.f x4).bind fun t134 => (some (t134, x5))) else (if 0 ≤ x5 then (if x5 ≤ x6 then (if x6 ≤ (x0.size : Int) then ((impl_natural.f k (x0.extract (x5 : Int).toNat (x6 : Int).toNat)).bind fun bt137 => (if bt137.2 = true then ((impl_in.f bt137.1 1 60).bind fun t139 => (if t139 = true then (if (wrap64 ((wrap64 (x6 + 1)) + bt137.1)) ≥ (x0.size : Int) then ((impl_copied_string.f x4).bind fun t140 => (some (t140, x5))) else (if 0 ≤ (wrap64 ((wrap64 (x6 + 1)) + bt137.1)) then (if (wrap64 ((wrap64 (x6 + 1)) + bt137.1)) < (x0.size : Int) then (if (bt x0 (wrap64 ((wrap64 (x6 + 1)) + bt137.1))) = 59 then (if 0 ≤ (wrap64 (x6 + 1)) then (if (wrap64 (x6 + 1)) ≤ (wrap64 ((wrap64 (x6 + 1)) + bt137.1)) then (if (wrap64 ((wrap64 (x6 + 1)) + bt137.1)) ≤ (x0.size : Int) then (if x4.length < 8796093022208 then (impl_ShelfRead.l0 k x0 (x4 ++ [x0.extract ((wrap64 (x6 + 1)) : Int).toNat ((wrap64 ((wrap64 (x6 + 1)) + bt137.1)) : Int).toNat]) (wrap64 ((wrap64 ((wrap64 (x6 + 1)) + bt137.1)) + 1))) else (none)) else (none)) else (none)) else (none)) else ((impl_copied_string.f x4).bind fun t146 => (some (t146, x5)))) else (none)) else (none))) else ((impl_copied_string.f x4).bind fun t149 => (some (t149, x5))))) else ((impl_copied_string.f x4).bind fun t152 => (some (t152, x5))))) else (none)) else (none)) else (none))
def impl_ShelfRead.l1 : Nat → ByteArray → List ByteArray → Int → Int → Option (List ByteArray × Int)
 | 0, _, _, _, _ => none
 | k + 1, x0, x4, x5, x6 => if x6 < (x0.size : Int) then (if x6 < (wrap64 (x5 + 3)) then (if 0 ≤ x6 then (if (bt x0 x6) = 58 then (impl_ShelfRead.j2 k x0 x4 x5 x6) else (impl_ShelfRead.l1 k x0 x4 x5 (wrap64 (x6 + 1)))) else (none)) else (impl_ShelfRead.j2 k x0 x4 x5 x6)) else (impl_ShelfRead.j2 k x0 x4 x5 x6)
end
def impl_ShelfRead.f (k : Nat) (a0 : ByteArray) : Option (List ByteArray × Int) := impl_ShelfRead.l0 k a0 ([] : List ByteArray) 0
theorem impl_ShelfRead.mono_l : ∀ k, (∀ y0 y1 y2, LeO (impl_ShelfRead.l0 k y0 y1 y2) (impl_ShelfRead.l0 (k + 1) y0 y1 y2)) ∧ (∀ y0 y1 y2 y3, LeO (impl_ShelfRead.j2 k y0 y1 y2 y3) (impl_ShelfRead.j2 (k + 1) y0 y1 y2 y3)) ∧ (∀ y0 y1 y2 y3 y4, LeO (impl_ShelfRead.j3 k y0 y1 y2 y3 y4) (impl_ShelfRead.j3 (k + 1) y0 y1 y2 y3 y4)) ∧ (∀ y0 y1 y2 y3, LeO (impl_ShelfRead.l1 k y0 y1 y2 y3) (impl_ShelfRead.l1 (k + 1) y0 y1 y2 y3))
 | 0 => ⟨fun _ _ _ r h => by simp [impl_ShelfRead.l0] at h, fun _ _ _ _ r h => by simp [impl_ShelfRead.j2] at h, fun _ _ _ _ _ r h => by simp [impl_ShelfRead.j3] at h, fun _ _ _ _ r h => by simp [impl_ShelfRead.l1] at h⟩
 | k + 1 => by
  obtain ⟨ih0, ih1, ih2, ih3⟩ := impl_ShelfRead.mono_l k
  refine ⟨?_, ?_, ?_, ?_⟩
  ·intro y0 y1 y2
   unfold impl_ShelfRead.l0
   repeat' first
   | (with_reducible exact ih0 _ _ _)
   | (with_reducible exact ih1 _ _ _ _)
   | (with_reducible exact ih2 _ _ _ _ _)
   | (with_reducible exact ih3 _ _ _ _)
   | (with_reducible exact impl_natural.mono _ _)
   | (with_reducible exact LeO.refl _)
   | (with_reducible exact LeO.none _)
   | (with_reducible refine LeO.ite ?_ ?_)
   | (with_reducible refine LeO.bind ?_ (fun _ => ?_))
   | exact ih0 _ _ _
   | exact ih1 _ _ _ _
   | exact ih2 _ _ _ _ _
   | exact ih3 _ _ _ _
   | exact impl_natural.mono _ _
   | exact LeO.none _
   | refine LeO.ite ?_ ?_
   | refine LeO.bind ?_ (fun _ => ?_)
  ·intro y0 y1 y2 y3
   unfold impl_ShelfRead.j2
   repeat' first
   | (with_reducible exact ih0 _ _ _)
   | (with_reducible exact ih1 _ _ _ _)
   | (with_reducible exact ih2 _ _ _ _ _)
   | (with_reducible exact ih3 _ _ _ _)
   | (with_reducible exact impl_natural.mono _ _)
   | (with_reducible exact LeO.refl _)
   | (with_reducible exact LeO.none _)
   | (with_reducible refine LeO.ite ?_ ?_)
   | (with_reducible refine LeO.bind ?_ (fun _ => ?_))
   | exact ih0 _ _ _
   | exact ih1 _ _ _ _
   | exact ih2 _ _ _ _ _
   | exact ih3 _ _ _ _
   | exact impl_natural.mono _ _
   | exact LeO.none _
   | refine LeO.ite ?_ ?_
   | refine LeO.bind ?_ (fun _ => ?_)
  ·intro y0 y1 y2 y3 y4
   unfold impl_ShelfRead.j3
   repeat' first
   | (with_reducible exact ih0 _ _ _)
   | (with_reducible exact ih1 _ _ _ _)
   | (with_reducible exact ih2 _ _ _ _ _)
   | (with_reducible exact ih3 _ _ _ _)
   | (with_reducible exact impl_natural.mono _ _)
   | (with_reducible exact LeO.refl _)
   | (with_reducible exact LeO.none _)
   | (with_reducible refine LeO.ite ?_ ?_)
   | (with_reducible refine LeO.bind ?_ (fun _ => ?_))
   | exact ih0 _ _ _
   | exact ih1 _ _ _ _
   | exact ih2 _ _ _ _ _
   | exact ih3 _ _ _ _
   | exact impl_natural.mono _ _
   | exact LeO.none _
   | refine LeO.ite ?_ ?_
   | refine LeO.bind ?_ (fun _ => ?_)
  ·intro y0 y1 y2 y3
   unfold impl_ShelfRead.l1
   repeat' first
   | (with_reducible exact ih0 _ _ _)
   | (with_reducible exact ih1 _ _ _ _)
   | (with_reducible exact ih2 _ _ _ _ _)
   | (with_reducible exact ih3 _ _ _ _)
   | (with_reducible exact impl_natural.mono _ _)
   | (with_reducible exact LeO.refl _)
   | (with_reducible exact LeO.none _)
   | (with_reducible refine LeO.ite ?_ ?_)
   | (with_reducible refine LeO.bind ?_ (fun _ => ?_))
   | exact ih0 _ _ _
   | exact ih1 _ _ _ _
   | exact ih2 _ _ _ _ _
   | exact ih3 _ _ _ _
   | exact impl_natural.mono _ _
   | exact LeO.none _
   | refine LeO.ite ?_ ?_
   | refine LeO.bind ?_ (fun _ => ?_)
theorem impl_ShelfRead.mono : ∀ a0 k, LeO (impl_ShelfRead.f k a0) (impl_ShelfRead.f (k + 1) a0) := by
 intro a0 k
 obtain ⟨ih0, ih1, ih2, ih3⟩ := impl_ShelfRead.mono_l k
 unfold impl_ShelfRead.f
 repeat' first
   | (with_reducible exact ih0 _ _ _)
   | (with_reducible exact ih1 _ _ _ _)
   | (with_reducible exact ih2 _ _ _ _ _)
   | (with_reducible exact ih3 _ _ _ _)
   | (with_reducible exact impl_natural.mono _ _)
   | (with_reducible exact LeO.refl _)
   | (with_reducible exact LeO.none _)
   | (with_reducible refine LeO.ite ?_ ?_)
   | (with_reducible refine LeO.bind ?_ (fun _ => ?_))
   | exact ih0 _ _ _
   | exact ih1 _ _ _ _
   | exact ih2 _ _ _ _ _
   | exact ih3 _ _ _ _
   | exact impl_natural.mono _ _
   | exact LeO.none _
   | refine LeO.ite ?_ ?_
   | refine LeO.bind ?_ (fun _ => ?_)
set_option maxHeartbeats 8000000 in
set_option maxRecDepth 100000 in
theorem impl_ShelfRead.calls (k : Nat) (a0 : ByteArray) (r1 : List ByteArray) (r2 : Int) (w : World) (h : impl_ShelfRead.f k a0 = some (r1, r2)) :
  Calls Try.prog 17 #[.string a0] w fun e w' => ∃ v0_ : Value, e = .returned (.tuple #[v0_, .int .i64 r2]) ∧ Kd.R Kd.string 9 w' w.heap.size (fun _ => True) v0_ r1 ∧ Below w.heap.size w w' := by
 have HB := Aside0.mk (Below.refl w.heap.size w)
 have H := h
 clear h
 unfold impl_ShelfRead.f at H
 have H' := Aside0.mk H
 clear H
 go_enter Try.func17, Try.ntmps17
 go_wp2
 go_loopg [4, 5] k (fun kq v4 v5 w' => ∃ (x4_1 : List ByteArray) (x5_1 : Int), v5 = .int .i64 x5_1 ∧ Aside0 (impl_ShelfRead.l0 kq a0 x4_1 x5_1 = some (r1, r2)) ∧ Aside0 (kq ≤ k) ∧ Aside0 (Kd.R Kd.string 9 w' w.heap.size (fun _ => True) v4 x4_1) ∧ Aside0 (Below w.heap.size w w'))
 case atStart => exact ⟨(([] : List ByteArray)), (0), zz20, H', ⟨Nat.le_refl _⟩, ⟨by first | exact Kd.R_nil _ _ _ _ _ | exact Kd.N_nil _ _ _ _ _ | exact Kd.V_nil _ _ _ _ _ | exact Kd.Q_nil _ _ _ _ _ | exact Kd.S_nil _ _ _ _ _⟩, ⟨by repeat (first | (with_reducible first | exact HB.out | apply below_alloc | apply pw_below_drewN | apply below_drew1) | exact HB.out)⟩⟩
 case round =>
  clear H'
  try clear c1
  obtain ⟨x4_1, x5_1, rfl, HA, HK1, HO_4, HB⟩ := hrel
  cases gk with
  | zero => exact absurd HA.out (by simp [impl_ShelfRead.l0])
  | succ k1 =>
   have H := HA.out
   clear HA
   simp only [impl_ShelfRead.l0] at H
   by_cases c2 : x5_1 < (a0.size : Int)
   ·rw [if_pos c2] at H
    have c2b0 : decide (x5_1 < (a0.size : Int)) = true := decide_eq_true c2
    clear c2
    have HC3 := Aside0.mk H
    clear H
    go_upto_block 2 with (fail)
    go_cut [6] (fun v6 wc => ∃ (kq : Nat) (x6_2 : Int), v6 = .int .i64 x6_2 ∧ Aside0 (impl_ShelfRead.j2 kq a0 x4_1 x5_1 x6_2 = some (r1, r2)) ∧ Aside0 (kq ≤ k1) ∧ Aside0 (Kd.R Kd.string 9 wc w.heap.size (fun _ => True) u4 x4_1) ∧ Aside0 (Below w.heap.size w wc))
    case first =>
     have H := HC3.out
     clear HC3
     have H' := Aside0.mk H
     clear H
     go_wp2
     go_loopg [6] k1 (fun kq v6 w' => ∃ (x6_2 : Int), v6 = .int .i64 x6_2 ∧ Aside0 (impl_ShelfRead.l1 kq a0 x4_1 x5_1 x6_2 = some (r1, r2)) ∧ Aside0 (kq ≤ k1) ∧ Aside0 (Kd.R Kd.string 9 w' w.heap.size (fun _ => True) u4 x4_1) ∧ Aside0 (Below w.heap.size w w'))
     case atStart => exact ⟨(x5_1), zz20, H', ⟨Nat.le_refl _⟩, ⟨by (with_reducible repeat (first | apply Kd.R_alloc | apply Kd.R_drewN | apply Kd.R_drew)); exact HO_4.out⟩, ⟨by repeat (first | (with_reducible first | exact HB.out | apply below_alloc | apply pw_below_drewN | apply below_drew1) | exact HB.out)⟩⟩
     case round =>
      clear H'
      try clear c1
      try clear c2
      try clear c2b0
      try clear p2
      obtain ⟨x6_2, rfl, HA, HK2, HO_4, HB⟩ := hrel
      cases gk with
      | zero => exact absurd HA.out (by simp [impl_ShelfRead.l1])
      | succ k2 =>
       have H := HA.out
       clear HA
       simp only [impl_ShelfRead.l1] at H
       by_cases c4 : x6_2 < (a0.size : Int)
       ·rw [if_pos c4] at H
        have c4b0 : decide (x6_2 < (a0.size : Int)) = true := decide_eq_true c4
        clear c4
        (first | rw [c4b0] | (simp only [i64_w, i32_w]; rw [c4b0]) | skip)
        by_cases c5 : x6_2 < (wrap64 (x5_1 + 3))
        ·rw [if_pos c5] at H
         have c5b0 : decide (x6_2 < (wrap64 (x5_1 + 3))) = true := decide_eq_true c5
         clear c5
         by_cases c6 : 0 ≤ x6_2
         ·rw [if_pos c6] at H
          have c6b0 : decide (0 ≤ x6_2) = true := decide_eq_true c6
          clear c6
          by_cases c8 : (bt a0 x6_2) = 58
          ·rw [if_pos c8] at H
           have c8b0 : ((bt a0 x6_2) == 58) = true := beq_iff_eq.mpr c8
           have c8b1 : ((bt a0 x6_2) != 58) = false := bne_eq_false_iff_eq.mpr c8
           clear c8
           have H' := Aside0.mk H
           clear H
           have p7 : 0 ≤ (x6_2 : Int) := of_decide_eq_true zz14
           have q7 : x6_2 < (a0.size : Int) := of_decide_eq_true zz14
           have hx7 := bt_at a0 x6_2
           replace p7 := eq_true p7
           replace q7 := eq_true q7
           go_wp2
           go_meet
           case rel => exact ⟨_, (x6_2), zz20, H', ⟨by have := HK1.out; have := HK2.out; first | omega | exact Nat.le_refl _⟩, ⟨by (with_reducible repeat (first | apply Kd.R_alloc | apply Kd.R_drewN | apply Kd.R_drew)); exact HO_4.out⟩, ⟨by repeat (first | (with_reducible first | exact HB.out | apply below_alloc | apply pw_below_drewN | apply below_drew1) | exact HB.out)⟩⟩
          ·rw [if_neg c8] at H
           have c8b0 : ((bt a0 x6_2) == 58) = false := beq_eq_false_iff_ne.mpr c8
           have c8b1 : ((bt a0 x6_2) != 58) = true := bne_iff_ne.mpr c8
           have H' := Aside0.mk H
           clear H
           have p7 : 0 ≤ (x6_2 : Int) := of_decide_eq_true zz14
           have q7 : x6_2 < (a0.size : Int) := of_decide_eq_true zz14
           have hx7 := bt_at a0 x6_2
           replace p7 := eq_true p7
           replace q7 := eq_true q7
           go_wp2
           go_roundg k2
           case measure => have := HK1.out; have := HK2.out; omega
           case rel => exact ⟨(wrap64 (x6_2 + 1)), zz20, H', ⟨by have := HK1.out; have := HK2.out; omega⟩, ⟨by (with_reducible repeat (first | apply Kd.R_alloc | apply Kd.R_drewN | apply Kd.R_drew)); exact HO_4.out⟩, ⟨by repeat (first | (with_reducible first | exact HB.out | apply below_alloc | apply pw_below_drewN | apply below_drew1) | exact HB.out)⟩⟩
         ·rw [if_neg c6] at H
          exact absurd H (by simp)
        ·rw [if_neg c5] at H
         have c5b0 : decide (x6_2 < (wrap64 (x5_1 + 3))) = false := decide_eq_false c5
         clear c5
         have H' := Aside0.mk H
         clear H
         go_wp2
         go_meet
         case rel => exact ⟨_, (x6_2), zz20, H', ⟨by have := HK1.out; have := HK2.out; first | omega | exact Nat.le_refl _⟩, ⟨by (with_reducible repeat (first | apply Kd.R_alloc | apply Kd.R_drewN | apply Kd.R_drew)); exact HO_4.out⟩, ⟨by repeat (first | (with_reducible first | exact HB.out | apply below_alloc | apply pw_below_drewN | apply below_drew1) | exact HB.out)⟩⟩
       ·rw [if_neg c4] at H
        have c4b0 : decide (x6_2 < (a0.size : Int)) = false := decide_eq_false c4
        clear c4
        (first | rw [c4b0] | (simp only [i64_w, i32_w]; rw [c4b0]) | skip)
        have H' := Aside0.mk H
        clear H
        go_wp2
        go_meet
        case rel => exact ⟨_, (x6_2), zz20, H', ⟨by have := HK1.out; have := HK2.out; first | omega | exact Nat.le_refl _⟩, ⟨by (with_reducible repeat (first | apply Kd.R_alloc | apply Kd.R_drewN | apply Kd.R_drew)); exact HO_4.out⟩, ⟨by repeat (first | (with_reducible first | exact HB.out | apply below_alloc | apply pw_below_drewN | apply below_drew1) | exact HB.out)⟩⟩
    case rest =>
     clear HC3
     try clear c1
     try clear c2
     try clear c2b0
     try clear p2
     try clear c4
     try clear c4b0
     try clear c5
     try clear c5b0
     try clear c6
     try clear c6b0
     try clear p6
     try clear p7
     try clear q7
     try clear hx7
     try clear c8
     try clear c8b0
     try clear c8b1
     try clear p2
     try clear p7
     try clear q7
     obtain ⟨kq, x6_2, rfl, HA, HJ2, HO_4, HB⟩ := hcut
     cases kq with
     | zero => exact absurd HA.out (by simp [impl_ShelfRead.j2])
     | succ kj2 =>
      have H := HA.out
      clear HA
      simp only [impl_ShelfRead.j2] at H
      have HC9 := Aside0.mk H
      clear H
      go_upto_region 7 with (fail)
      go_cut [42] (fun v42 wc => ∃ (kq : Nat) (x42_8 : Bool), v42 = .bool x42_8 ∧ Aside0 (impl_ShelfRead.j3 kq a0 x4_1 x5_1 x6_2 x42_8 = some (r1, r2)) ∧ Aside0 (kq ≤ kj2) ∧ Aside0 (Kd.R Kd.string 9 wc w.heap.size (fun _ => True) u4 x4_1) ∧ Aside0 (Below w.heap.size w wc))
      case first =>
       have H := HC9.out
       clear HC9
       by_cases c10 : x6_2 ≥ (a0.size : Int)
       ·rw [if_pos c10] at H
        have c10b0 : decide ((a0.size : Int) ≤ x6_2) = true := decide_eq_true c10
        clear c10
        (first | rw [c10b0] | (simp only [i64_w, i32_w]; rw [c10b0]) | skip)
        have H' := Aside0.mk H
        clear H
        go_wp2
        go_meet
        case rel => exact ⟨_, (true), zz20, H', ⟨by have := HK1.out; have := HJ2.out; first | omega | exact Nat.le_refl _⟩, ⟨by (with_reducible repeat (first | apply Kd.R_alloc | apply Kd.R_drewN | apply Kd.R_drew)); exact HO_4.out⟩, ⟨by repeat (first | (with_reducible first | exact HB.out | apply below_alloc | apply pw_below_drewN | apply below_drew1) | exact HB.out)⟩⟩
       ·rw [if_neg c10] at H
        have c10b0 : decide ((a0.size : Int) ≤ x6_2) = false := decide_eq_false c10
        clear c10
        (first | rw [c10b0] | (simp only [i64_w, i32_w]; rw [c10b0]) | skip)
        by_cases c11 : 0 ≤ x6_2
        ·rw [if_pos c11] at H
         have c11b0 : decide (0 ≤ x6_2) = true := decide_eq_true c11
         clear c11
         by_cases c12 : x6_2 < (a0.size : Int)
         ·rw [if_pos c12] at H
          have c12b0 : decide (x6_2 < (a0.size : Int)) = true := decide_eq_true c12
          clear c12
          have H' := Aside0.mk H
          clear H
          have p13 : 0 ≤ (x6_2 : Int) := of_decide_eq_true zz14
          have q13 : x6_2 < (a0.size : Int) := of_decide_eq_true zz14
          have hx13 := bt_at a0 x6_2
          replace p13 := eq_true p13
          replace q13 := eq_true q13
          go_wp2
          go_meet
          case rel => exact ⟨_, (((bt a0 x6_2) != 58)), zz20, H', ⟨by have := HK1.out; have := HJ2.out; first | omega | exact Nat.le_refl _⟩, ⟨by (with_reducible repeat (first | apply Kd.R_alloc | apply Kd.R_drewN | apply Kd.R_drew)); exact HO_4.out⟩, ⟨by repeat (first | (with_reducible first | exact HB.out | apply below_alloc | apply pw_below_drewN | apply below_drew1) | exact HB.out)⟩⟩
         ·rw [if_neg c12] at H
          exact absurd H (by simp)
        ·rw [if_neg c11] at H
         exact absurd H (by simp)
      case rest =>
       clear HC9
       try clear c1
       try clear p1
       try clear q1
       try clear hx1
       try clear c2
       try clear c2b0
       try clear p2
       try clear c4
       try clear c4b0
       try clear c5
       try clear c5b0
       try clear c6
       try clear c6b0
       try clear p6
       try clear p7
       try clear q7
       try clear hx7
       try clear c8
       try clear c8b0
       try clear c8b1
       try clear c10
       try clear c10b0
       try clear c11
       try clear c11b0
       try clear c12
       try clear c12b0
       try clear p13
       try clear q13
       try clear hx13
       try clear p13
       try clear p2
       try clear p6
       try clear p7
       try clear q13
       try clear q7
       obtain ⟨kq, x42_8, rfl, HA, HJ8, HO_4, HB⟩ := hcut
       cases kq with
       | zero => exact absurd HA.out (by simp [impl_ShelfRead.j3])
       | succ kj8 =>
        have H := HA.out
        clear HA
        simp only [impl_ShelfRead.j3] at H
        by_cases c14 : x42_8 = true
        ·subst c14
         rw [if_pos rfl] at H
         obtain ⟨t134, A150, H⟩ := Option.bind_eq_some_iff.mp H
         try dsimp only at H
         have A15 := Aside0.mk A150
         clear A150
         simp only [Option.some.injEq, Prod.mk.injEq] at H
         obtain ⟨rfl, rfl⟩ := H
         obtain ⟨Ao16, co16, eo16⟩ := Kd.R_slice HO_4.out
         subst eo16
         go_wp2_with (first | ((with_reducible refine gate_callee (f := 40) rfl ?_); refine zgo_ (some 85) Try.func40 #[.slice Ao16 x4_1.length co16] ?_; (with_reducible refine (impl_copied_string.calls _ _ x4_1 t134 _ ?side1 ?side2 A15.out).mono ?_); (case side1 => exact zz42); (case side2 => exact (Kd.R_reads' HO_4.out).2.1); rintro e w17 ⟨v135, rfl, ho0, hb⟩; refine ⟨_, rfl, ?_⟩; have n0_ := Aside0.mk (Kd.R_elder' zz29 (Kd.R_base ho0) hb); have n1_ := Aside0.mk (Kd.R_lower (Kd.R_new' ho0 (Kd.R_lt zz29)) (below_size zz1)); have n2_ := Aside0.mk (below_step zz1 hb); clear HO_4; clear HB; have HO_4 := n0_; have HO136 := n1_; have HB := n2_; clear n0_ n1_ n2_; (try clear hb); (try clear hb2); (try clear hk); (try clear hi); (try clear ho0)))
         go_ret2
         exact ⟨_, by first | rfl | (simp [errW_none, errW_some] <;> rfl) | (simp [*, errW_none, errW_some] <;> rfl), by (with_reducible repeat (first | apply Kd.R_alloc | apply Kd.R_drewN | apply Kd.R_drew)); exact Kd.R_mono HO136.out (fun _ hk => trivial), by repeat (first | (with_reducible first | exact HB.out | apply below_alloc | apply pw_below_drewN | apply below_drew1) | exact HB.out)⟩
        ·replace c14 := Bool.eq_false_iff.mpr c14
         subst c14
         rw [if_neg (show ¬ (false = true) by decide)] at H
         by_cases c18 : 0 ≤ x5_1
         ·rw [if_pos c18] at H
          have c18b0 := eq_true c18
          have c18b1 : decide (0 ≤ x5_1) = true := decide_eq_true c18
          clear c18
          by_cases c19 : x5_1 ≤ x6_2
          ·rw [if_pos c19] at H
           have c19b0 := eq_true c19
           have c19b1 : decide (x5_1 ≤ x6_2) = true := decide_eq_true c19
           clear c19
           by_cases c20 : x6_2 ≤ (a0.size : Int)
           ·rw [if_pos c20] at H
            have c20b0 := eq_true c20
            have c20b1 : decide (x6_2 ≤ (a0.size : Int)) = true := decide_eq_true c20
            clear c20
            obtain ⟨⟨t137, t138⟩, A210, H⟩ := Option.bind_eq_some_iff.mp H
            try dsimp only at H
            have A21 := Aside0.mk A210
            clear A210
            by_cases c22 : t138 = true
            ·subst c22
             rw [if_pos rfl] at H
             obtain ⟨t139, A230, H⟩ := Option.bind_eq_some_iff.mp H
             try dsimp only at H
             have A23 := Aside0.mk A230
             clear A230
             by_cases c24 : t139 = true
             ·subst c24
              rw [if_pos rfl] at H
              by_cases c25 : (wrap64 ((wrap64 (x6_2 + 1)) + t137)) ≥ (a0.size : Int)
              ·rw [if_pos c25] at H
               have c25b0 : decide ((a0.size : Int) ≤ (wrap64 ((wrap64 (x6_2 + 1)) + t137))) = true := decide_eq_true c25
               clear c25
               obtain ⟨t140, A260, H⟩ := Option.bind_eq_some_iff.mp H
               try dsimp only at H
               have A26 := Aside0.mk A260
               clear A260
               simp only [Option.some.injEq, Prod.mk.injEq] at H
               obtain ⟨rfl, rfl⟩ := H
               go_wp2_with (first | ((with_reducible refine gate_callee (f := 39) rfl ?_); refine zgo_ (some 48) Try.func39 #[.string (a0.extract (x5_1 : Int).toNat (x6_2 : Int).toNat)] ?_; (with_reducible refine (impl_natural.calls kj8 (a0.extract (x5_1 : Int).toNat (x6_2 : Int).toNat) t137 true _ A21.out).mono ?_); rintro e w' ⟨rfl, ⟨nd, rfl⟩⟩; refine ⟨_, rfl, ?_⟩) | (go_at_call 37; (with_reducible refine (impl_in.calls t137 1 60 true _ A23.out).mono ?_); rintro e w' ⟨rfl, ⟨nd, rfl⟩⟩; obtain ⟨Ao27, co27, eo27⟩ := Kd.R_slice HO_4.out; subst eo27) | ((with_reducible refine gate_callee (f := 40) rfl ?_); refine zgo_ (some 85) Try.func40 #[.slice Ao27 x4_1.length co27] ?_; (with_reducible refine (impl_copied_string.calls _ _ x4_1 t140 _ ?side1 ?side2 A26.out).mono ?_); (case side1 => exact zz42); (case side2 => exact (Kd.R_reads' HO_4.out).2.1); rintro e w28 ⟨v141, rfl, ho0, hb⟩; refine ⟨_, rfl, ?_⟩; have n0_ := Aside0.mk (Kd.R_elder' zz29 (Kd.R_base ho0) hb); have n1_ := Aside0.mk (Kd.R_lower (Kd.R_new' ho0 (Kd.R_lt zz29)) (below_size zz1)); have n2_ := Aside0.mk (below_step zz1 hb); clear HO_4; clear HB; have HO_4 := n0_; have HO142 := n1_; have HB := n2_; clear n0_ n1_ n2_; (try clear hb); (try clear hb2); (try clear hk); (try clear hi); (try clear ho0)))
               go_ret2
               exact ⟨_, by first | rfl | (simp [errW_none, errW_some] <;> rfl) | (simp [*, errW_none, errW_some] <;> rfl), by (with_reducible repeat (first | apply Kd.R_alloc | apply Kd.R_drewN | apply Kd.R_drew)); exact Kd.R_mono HO142.out (fun _ hk => trivial), by repeat (first | (with_reducible first | exact HB.out | apply below_alloc | apply pw_below_drewN | apply below_drew1) | exact HB.out)⟩
              ·rw [if_neg c25] at H
               have c25b0 : decide ((a0.size : Int) ≤ (wrap64 ((wrap64 (x6_2 + 1)) + t137))) = false := decide_eq_false c25
               clear c25
               obtain ⟨ji29, hji29⟩ : ∃ j_ : Int, (wrap64 ((wrap64 (x6_2 + 1)) + t137)) = j_ := ⟨_, rfl⟩
               replace H : (if 0 ≤ (ji29) then (if (ji29) < (a0.size : Int) then (if (bt a0 (ji29)) = 59 then (if 0 ≤ (wrap64 (x6_2 + 1)) then (if (wrap64 (x6_2 + 1)) ≤ (ji29) then (if (ji29) ≤ (a0.size : Int) then (if x4_1.length < 8796093022208 then (impl_ShelfRead.l0 kj8 a0 (x4_1 ++ [a0.extract ((wrap64 (x6_2 + 1)) : Int).toNat ((ji29) : Int).toNat]) (wrap64 ((ji29) + 1))) else (none)) else (none)) else (none)) else (none)) else ((impl_copied_string.f x4_1).bind fun t146 => (some (t146, x5_1)))) else (none)) else (none)) = some (r1, r2) := by first | (rw [hji29] at H; exact H) | (simp only [hji29] at H ⊢; exact H)
               (try rw [hji29] at c25b0)
               (try rw [hji29] at A21)
               (try rw [hji29] at A23)
               have hji29w : (IntKind.i64.wrap ((wrap64 (x6_2 + 1)) + t137)) = ji29 := (i64_w _).trans hji29
               by_cases c30 : 0 ≤ (ji29)
               ·rw [if_pos c30] at H
                have c30b0 : decide (0 ≤ (ji29)) = true := decide_eq_true c30
                clear c30
                by_cases c31 : (ji29) < (a0.size : Int)
                ·rw [if_pos c31] at H
                 have c31b0 : decide ((ji29) < (a0.size : Int)) = true := decide_eq_true c31
                 clear c31
                 by_cases c33 : (bt a0 (ji29)) = 59
                 ·rw [if_pos c33] at H
                  have c33b0 : ((bt a0 (ji29)) == 59) = true := beq_iff_eq.mpr c33
                  have c33b1 : ((bt a0 (ji29)) != 59) = false := bne_eq_false_iff_eq.mpr c33
                  clear c33
                  obtain ⟨ji34, hji34⟩ : ∃ j_ : Int, (wrap64 (x6_2 + 1)) = j_ := ⟨_, rfl⟩
                  replace H : (if 0 ≤ (ji34) then (if (ji34) ≤ (ji29) then (if (ji29) ≤ (a0.size : Int) then (if x4_1.length < 8796093022208 then (impl_ShelfRead.l0 kj8 a0 (x4_1 ++ [a0.extract ((ji34) : Int).toNat ((ji29) : Int).toNat]) (wrap64 ((ji29) + 1))) else (none)) else (none)) else (none)) else (none)) = some (r1, r2) := by first | (rw [hji34] at H; exact H) | (simp only [hji34] at H ⊢; exact H)
                  (try rw [hji34] at hji29)
                  (try rw [hji34] at hji29w)
                  (try rw [hji34] at c25b0)
                  (try rw [hji34] at A21)
                  (try rw [hji34] at A23)
                  have hji34w : (IntKind.i64.wrap (x6_2 + 1)) = ji34 := (i64_w _).trans hji34
                  by_cases c35 : 0 ≤ (ji34)
                  ·rw [if_pos c35] at H
                   have c35b0 := eq_true c35
                   have c35b1 : decide (0 ≤ (ji34)) = true := decide_eq_true c35
                   clear c35
                   by_cases c36 : (ji34) ≤ (ji29)
                   ·rw [if_pos c36] at H
                    have c36b0 := eq_true c36
                    have c36b1 : decide ((ji34) ≤ (ji29)) = true := decide_eq_true c36
                    clear c36
                    by_cases c37 : (ji29) ≤ (a0.size : Int)
                    ·rw [if_pos c37] at H
                     have c37b0 := eq_true c37
                     have c37b1 : decide ((ji29) ≤ (a0.size : Int)) = true := decide_eq_true c37
                     clear c37
                     by_cases c38 : x4_1.length < 8796093022208
                     ·rw [if_pos c38] at H
                      have LMc38 := Aside0.mk c38
                      clear c38
                      obtain ⟨y143, hy143⟩ : ∃ y_ : List ByteArray, y_ = (x4_1 ++ [a0.extract ((ji34) : Int).toNat ((ji29) : Int).toNat]) := ⟨_, rfl⟩
                      replace H : (impl_ShelfRead.l0 kj8 a0 y143 (wrap64 ((ji29) + 1))) = some (r1, r2) := by first | (rw [hy143]; with_reducible exact H) | (have H2_ := (Option.bind_some _ _).symm.trans H; rw [hy143]; with_reducible exact H2_) | (have H2_ := (Option.bind_some _ _).symm.trans H; with_reducible exact H2_) | with_reducible exact H | (rw [hy143]; exact H) | exact H
                      have Ny143 := Aside0.mk hy143
                      clear hy143
                      have H' := Aside0.mk H
                      clear H
                      go_wp2_with (first | ((with_reducible refine gate_callee (f := 39) rfl ?_); refine zgo_ (some 48) Try.func39 #[.string (a0.extract (x5_1 : Int).toNat (x6_2 : Int).toNat)] ?_; (with_reducible refine (impl_natural.calls kj8 (a0.extract (x5_1 : Int).toNat (x6_2 : Int).toNat) t137 true _ A21.out).mono ?_); rintro e w' ⟨rfl, ⟨nd, rfl⟩⟩; refine ⟨_, rfl, ?_⟩) | (go_at_call 37; (with_reducible refine (impl_in.calls t137 1 60 true _ A23.out).mono ?_); rintro e w' ⟨rfl, ⟨nd, rfl⟩⟩; have p32 : 0 ≤ ((ji29) : Int) := of_decide_eq_true zz14; have q32 : (ji29) < (a0.size : Int) := of_decide_eq_true zz14; have hx32 := bt_at a0 (ji29); replace p32 := eq_true p32; replace q32 := eq_true q32) | ((with_reducible refine gate_builtin (b := .append) (xs := #[.tmp 74, .tmp 80]) rfl ?_); (try (refine gate_guard (by rfl) ?_; dsimp only)); at_builtin; refine Kd.R_append Kd.string (w0 := w) w.heap.size rfl (.tmp 74) (.tmp 80) 29 9 (.string ⟨#[]⟩) 16 rfl Try.underlying29 info9 rfl (by decide) (by omega) u4 x4_1 (a0.extract ((ji34) : Int).toNat ((ji29) : Int).toNat) [.string (a0.extract ((ji34) : Int).toNat ((ji29) : Int).toNat)] (fun _ => True) (fun _ => False) rfl rfl ?aP (fun _ hk => hk.elim) ?aF ?aO ?aB ?aS ?aL ?_; (case aP => exact rfl); (case aB => exact zz1); (case aF => exact (fun _ _ => trivial)); (case aO => exact zz29); (case aS => exact (below_size zz1)); (case aL => have := LMc38.out; omega); intro v144 w39 ho hb hg hat; rw [← Ny143.out] at ho; have n0_ := Aside0.mk (hb); have n1_ := Aside0.mk (ho); clear HB; clear HO_4; have HB := n0_; have HO145 := n1_; clear n0_ n1_; clear ho hb hg hat))
                      go_roundg kj8
                      case measure => have := HK1.out; have := HJ2.out; have := HJ8.out; omega
                      case rel => exact ⟨(y143), (wrap64 ((ji29) + 1)), (by first | rfl | (simp; done) | (simp only [← hji29] <;> (first | rfl | simp)) | (simp [*]; done)), H', ⟨by have := HK1.out; have := HJ2.out; have := HJ8.out; omega⟩, ⟨by (with_reducible repeat (first | apply Kd.R_alloc | apply Kd.R_drewN | apply Kd.R_drew)); exact HO145.out⟩, ⟨by repeat (first | (with_reducible first | exact HB.out | apply below_alloc | apply pw_below_drewN | apply below_drew1) | exact HB.out)⟩⟩
                     ·rw [if_neg c38] at H
                      exact absurd H (by simp)
                    ·rw [if_neg c37] at H
                     exact absurd H (by simp)
                   ·rw [if_neg c36] at H
                    exact absurd H (by simp)
                  ·rw [if_neg c35] at H
                   exact absurd H (by simp)
                 ·rw [if_neg c33] at H
                  have c33b0 : ((bt a0 (ji29)) == 59) = false := beq_eq_false_iff_ne.mpr c33
                  have c33b1 : ((bt a0 (ji29)) != 59) = true := bne_iff_ne.mpr c33
                  obtain ⟨t146, A400, H⟩ := Option.bind_eq_some_iff.mp H
                  try dsimp only at H
                  have A40 := Aside0.mk A400
                  clear A400
                  simp only [Option.some.injEq, Prod.mk.injEq] at H
                  obtain ⟨rfl, rfl⟩ := H
                  go_wp2_with (first | ((with_reducible refine gate_callee (f := 39) rfl ?_); refine zgo_ (some 48) Try.func39 #[.string (a0.extract (x5_1 : Int).toNat (x6_2 : Int).toNat)] ?_; (with_reducible refine (impl_natural.calls kj8 (a0.extract (x5_1 : Int).toNat (x6_2 : Int).toNat) t137 true _ A21.out).mono ?_); rintro e w' ⟨rfl, ⟨nd, rfl⟩⟩; refine ⟨_, rfl, ?_⟩) | (go_at_call 37; (with_reducible refine (impl_in.calls t137 1 60 true _ A23.out).mono ?_); rintro e w' ⟨rfl, ⟨nd, rfl⟩⟩; have p32 : 0 ≤ ((ji29) : Int) := of_decide_eq_true zz14; have q32 : (ji29) < (a0.size : Int) := of_decide_eq_true zz14; have hx32 := bt_at a0 (ji29); replace p32 := eq_true p32; replace q32 := eq_true q32; obtain ⟨Ao41, co41, eo41⟩ := Kd.R_slice HO_4.out; subst eo41) | ((with_reducible refine gate_callee (f := 40) rfl ?_); refine zgo_ (some 85) Try.func40 #[.slice Ao41 x4_1.length co41] ?_; (with_reducible refine (impl_copied_string.calls _ _ x4_1 t146 _ ?side1 ?side2 A40.out).mono ?_); (case side1 => exact zz42); (case side2 => exact (Kd.R_reads' HO_4.out).2.1); rintro e w42 ⟨v147, rfl, ho0, hb⟩; refine ⟨_, rfl, ?_⟩; have n0_ := Aside0.mk (Kd.R_elder' zz29 (Kd.R_base ho0) hb); have n1_ := Aside0.mk (Kd.R_lower (Kd.R_new' ho0 (Kd.R_lt zz29)) (below_size zz1)); have n2_ := Aside0.mk (below_step zz1 hb); clear HO_4; clear HB; have HO_4 := n0_; have HO148 := n1_; have HB := n2_; clear n0_ n1_ n2_; (try clear hb); (try clear hb2); (try clear hk); (try clear hi); (try clear ho0)))
                  go_ret2
                  exact ⟨_, by first | rfl | (simp [errW_none, errW_some] <;> rfl) | (simp only [← hji29]; first | rfl | (simp [errW_none, errW_some] <;> rfl)) | (simp [*, errW_none, errW_some] <;> rfl), by (with_reducible repeat (first | apply Kd.R_alloc | apply Kd.R_drewN | apply Kd.R_drew)); exact Kd.R_mono HO148.out (fun _ hk => trivial), by repeat (first | (with_reducible first | exact HB.out | apply below_alloc | apply pw_below_drewN | apply below_drew1) | exact HB.out)⟩
                ·rw [if_neg c31] at H
                 exact absurd H (by simp)
               ·rw [if_neg c30] at H
                exact absurd H (by simp)
             ·replace c24 := Bool.eq_false_iff.mpr c24
              subst c24
              rw [if_neg (show ¬ (false = true) by decide)] at H
              obtain ⟨t149, A430, H⟩ := Option.bind_eq_some_iff.mp H
              try dsimp only at H
              have A43 := Aside0.mk A430
              clear A430
              simp only [Option.some.injEq, Prod.mk.injEq] at H
              obtain ⟨rfl, rfl⟩ := H
              go_wp2_with (first | ((with_reducible refine gate_callee (f := 39) rfl ?_); refine zgo_ (some 48) Try.func39 #[.string (a0.extract (x5_1 : Int).toNat (x6_2 : Int).toNat)] ?_; (with_reducible refine (impl_natural.calls kj8 (a0.extract (x5_1 : Int).toNat (x6_2 : Int).toNat) t137 true _ A21.out).mono ?_); rintro e w' ⟨rfl, ⟨nd, rfl⟩⟩; refine ⟨_, rfl, ?_⟩) | (go_at_call 37; (with_reducible refine (impl_in.calls t137 1 60 false _ A23.out).mono ?_); rintro e w' ⟨rfl, ⟨nd, rfl⟩⟩; obtain ⟨Ao44, co44, eo44⟩ := Kd.R_slice HO_4.out; subst eo44) | ((with_reducible refine gate_callee (f := 40) rfl ?_); refine zgo_ (some 85) Try.func40 #[.slice Ao44 x4_1.length co44] ?_; (with_reducible refine (impl_copied_string.calls _ _ x4_1 t149 _ ?side1 ?side2 A43.out).mono ?_); (case side1 => exact zz42); (case side2 => exact (Kd.R_reads' HO_4.out).2.1); rintro e w45 ⟨v150, rfl, ho0, hb⟩; refine ⟨_, rfl, ?_⟩; have n0_ := Aside0.mk (Kd.R_elder' zz29 (Kd.R_base ho0) hb); have n1_ := Aside0.mk (Kd.R_lower (Kd.R_new' ho0 (Kd.R_lt zz29)) (below_size zz1)); have n2_ := Aside0.mk (below_step zz1 hb); clear HO_4; clear HB; have HO_4 := n0_; have HO151 := n1_; have HB := n2_; clear n0_ n1_ n2_; (try clear hb); (try clear hb2); (try clear hk); (try clear hi); (try clear ho0)))
              go_ret2
              exact ⟨_, by first | rfl | (simp [errW_none, errW_some] <;> rfl) | (simp [*, errW_none, errW_some] <;> rfl), by (with_reducible repeat (first | apply Kd.R_alloc | apply Kd.R_drewN | apply Kd.R_drew)); exact Kd.R_mono HO151.out (fun _ hk => trivial), by repeat (first | (with_reducible first | exact HB.out | apply below_alloc | apply pw_below_drewN | apply below_drew1) | exact HB.out)⟩
            ·replace c22 := Bool.eq_false_iff.mpr c22
             subst c22
             rw [if_neg (show ¬ (false = true) by decide)] at H
             obtain ⟨t152, A460, H⟩ := Option.bind_eq_some_iff.mp H
             try dsimp only at H
             have A46 := Aside0.mk A460
             clear A460
             simp only [Option.some.injEq, Prod.mk.injEq] at H
             obtain ⟨rfl, rfl⟩ := H
             go_wp2_with (first | ((with_reducible refine gate_callee (f := 39) rfl ?_); refine zgo_ (some 48) Try.func39 #[.string (a0.extract (x5_1 : Int).toNat (x6_2 : Int).toNat)] ?_; (with_reducible refine (impl_natural.calls kj8 (a0.extract (x5_1 : Int).toNat (x6_2 : Int).toNat) t137 false _ A21.out).mono ?_); rintro e w' ⟨rfl, ⟨nd, rfl⟩⟩; refine ⟨_, rfl, ?_⟩; obtain ⟨Ao47, co47, eo47⟩ := Kd.R_slice HO_4.out; subst eo47) | ((with_reducible refine gate_callee (f := 40) rfl ?_); refine zgo_ (some 85) Try.func40 #[.slice Ao47 x4_1.length co47] ?_; (with_reducible refine (impl_copied_string.calls _ _ x4_1 t152 _ ?side1 ?side2 A46.out).mono ?_); (case side1 => exact zz42); (case side2 => exact (Kd.R_reads' HO_4.out).2.1); rintro e w48 ⟨v153, rfl, ho0, hb⟩; refine ⟨_, rfl, ?_⟩; have n0_ := Aside0.mk (Kd.R_elder' zz29 (Kd.R_base ho0) hb); have n1_ := Aside0.mk (Kd.R_lower (Kd.R_new' ho0 (Kd.R_lt zz29)) (below_size zz1)); have n2_ := Aside0.mk (below_step zz1 hb); clear HO_4; clear HB; have HO_4 := n0_; have HO154 := n1_; have HB := n2_; clear n0_ n1_ n2_; (try clear hb); (try clear hb2); (try clear hk); (try clear hi); (try clear ho0)))
             go_ret2
             exact ⟨_, by first | rfl | (simp [errW_none, errW_some] <;> rfl) | (simp [*, errW_none, errW_some] <;> rfl), by (with_reducible repeat (first | apply Kd.R_alloc | apply Kd.R_drewN | apply Kd.R_drew)); exact Kd.R_mono HO154.out (fun _ hk => trivial), by repeat (first | (with_reducible first | exact HB.out | apply below_alloc | apply pw_below_drewN | apply below_drew1) | exact HB.out)⟩
           ·rw [if_neg c20] at H
            exact absurd H (by simp)
          ·rw [if_neg c19] at H
           exact absurd H (by simp)
         ·rw [if_neg c18] at H
          exact absurd H (by simp)
   ·rw [if_neg c2] at H
    have c2b0 : decide (x5_1 < (a0.size : Int)) = false := decide_eq_false c2
    clear c2
    obtain ⟨t131, A490, H⟩ := Option.bind_eq_some_iff.mp H
    try dsimp only at H
    have A49 := Aside0.mk A490
    clear A490
    simp only [Option.some.injEq, Prod.mk.injEq] at H
    obtain ⟨rfl, rfl⟩ := H
    obtain ⟨Ao50, co50, eo50⟩ := Kd.R_slice HO_4.out
    subst eo50
    go_wp2_with (first | ((with_reducible refine gate_callee (f := 40) rfl ?_); refine zgo_ (some 85) Try.func40 #[.slice Ao50 x4_1.length co50] ?_; (with_reducible refine (impl_copied_string.calls _ _ x4_1 t131 _ ?side1 ?side2 A49.out).mono ?_); (case side1 => exact zz42); (case side2 => exact (Kd.R_reads' HO_4.out).2.1); rintro e w51 ⟨v132, rfl, ho0, hb⟩; refine ⟨_, rfl, ?_⟩; have n0_ := Aside0.mk (Kd.R_elder' zz29 (Kd.R_base ho0) hb); have n1_ := Aside0.mk (Kd.R_lower (Kd.R_new' ho0 (Kd.R_lt zz29)) (below_size zz1)); have n2_ := Aside0.mk (below_step zz1 hb); clear HO_4; clear HB; have HO_4 := n0_; have HO133 := n1_; have HB := n2_; clear n0_ n1_ n2_; (try clear hb); (try clear hb2); (try clear hk); (try clear hi); (try clear ho0)))
    go_ret2
    exact ⟨_, by first | rfl | (simp [errW_none, errW_some] <;> rfl) | (simp [*, errW_none, errW_some] <;> rfl), by (with_reducible repeat (first | apply Kd.R_alloc | apply Kd.R_drewN | apply Kd.R_drew)); exact Kd.R_mono HO133.out (fun _ hk => trivial), by repeat (first | (with_reducible first | exact HB.out | apply below_alloc | apply pw_below_drewN | apply below_drew1) | exact HB.out)⟩

end Go.Proofs.Ytdgigadocempdaa.PFnShelfFall
