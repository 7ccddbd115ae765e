/- What the Go functions compute, told in plain words. No condition beyond those that stand in each. -/
import Derived.Test.YtpdemmdladcamaaEvuFnExactMixPeel
import Derived.Test.YtpdemmdladcamaaPur
import Derived.Test.YtpdemmdladcamaaPum
namespace Go.Ev.F
set_option linter.unusedVariables false
set_option linter.unusedSimpArgs false
theorem spec_l6In.val {R : Type} (k : Nat) (a b c : Int) (K : Bool → Option R) : spec_l6In.c k a b c K = K (inB a b c) := by
  rw [spec_l6In.u]
  unfold inB
  by_cases h : b ≤ a <;> simp [h]
theorem spec_l1Ok.val {R : Type} (k : Nat) (a b : Int) (K : Bool → Option R) : spec_l1Ok.c k a b K = K (inB a 1 6 && inB b 0 999) := by
  rw [spec_l1Ok.u, spec_l6In.val, spec_l6In.val]
  cases inB a 1 6 <;> rfl
theorem spec_RandNext.val {R : Type} (k : Nat) (a : Int) (K : Int → Option R) : spec_RandNext.c k a K = K (rnd a) := by
  rw [spec_RandNext.u, spec_l6In.val]
  by_cases h : 0 ≤ a ∧ a ≤ 65535
  · rw [inB_yes h.1 h.2]
    refine (cf rfl).trans ?_
    simp only []
    refine (ct rfl).trans ?_
    congr 1
    rw [w64_id (x := a * 25173) (by omega) (by omega), w64_id (x := a * 25173 + 13849) (by omega) (by omega), Int.tmod_eq_emod_of_nonneg (by omega)]
    unfold rnd
    rw [if_pos h]
    all_goals omega
  · rw [inB_no h]
    refine (ct rfl).trans ?_
    unfold rnd
    rw [if_neg h]
theorem spec_l1Weight.nat {R : Type} (k : Nat) (a b : Int) (K : Int → Option R) : spec_l1Weight.c k a b K = (spec_l1Weight.c k a b some).bind K := by
  rw [spec_l1Weight.u, spec_l1Weight.u]
  simp only [cond_bind, Option.bind_some, Option.bind_none]
def spec_l1Weight.d (k : Nat) (a b : Int) : Option Int := spec_l1Weight.c k a b some
theorem spec_l1Weight.natd {R : Type} (k : Nat) (a b : Int) (K : Int → Option R) : spec_l1Weight.c k a b K = (spec_l1Weight.d k a b).bind K := spec_l1Weight.nat k a b K
theorem spec_MixDegree.l4r_nat {R : Type} (k : Nat) (a0 a1 : Int) (x0 : Int → Option R) : ∀ (n : Nat) (u v : Int), spec_MixDegree.l4r (spec_MixDegree.g k) k a0 a1 x0 n u v = (spec_MixDegree.l4r (spec_MixDegree.g k) k a0 a1 some n u v).bind x0
  | 0, _, _ => rfl
  | n + 1, u, v => by
    have ih := spec_MixDegree.l4r_nat k a0 a1 x0 n
    rw [spec_MixDegree.l4r_u, spec_MixDegree.l4r_u]
    simp only [cond_bind, Option.bind_some, Option.bind_none, Option.bind_assoc, spec_l1Weight.natd, ih]
theorem spec_MixDegree.l10r_nat {R : Type} (k : Nat) (a0 z : Int) (K : Int → Option R) : ∀ (n : Nat) (u v : Int), spec_MixDegree.l10r (spec_MixDegree.g k) k a0 (K z) (fun w => K w) n u v = (spec_MixDegree.l10r (spec_MixDegree.g k) k a0 (some z) (fun w => some w) n u v).bind K
  | 0, _, _ => rfl
  | n + 1, u, v => by
    have ih := spec_MixDegree.l10r_nat k a0 z K n
    rw [spec_MixDegree.l10r_u, spec_MixDegree.l10r_u]
    simp only [cond_bind, Option.bind_some, Option.bind_none, Option.bind_assoc, spec_l1Weight.natd, ih]
def spec_MixDegree.l4d (k : Nat) (a0 a1 : Int) (n : Nat) (u v : Int) : Option Int := spec_MixDegree.l4r (spec_MixDegree.g k) k a0 a1 some n u v
def spec_MixDegree.l10d (k : Nat) (a0 z : Int) (n : Nat) (u v : Int) : Option Int := spec_MixDegree.l10r (spec_MixDegree.g k) k a0 (some z) (fun w => some w) n u v
theorem spec_MixDegree.nat {R : Type} (k : Nat) (a b : Int) (K : Int → Option R) : spec_MixDegree.c k a b K = (spec_MixDegree.c k a b some).bind K := by
  have e1 : ∀ {R : Type} (x0 : Int → Option R) (n : Nat) (u v : Int), spec_MixDegree.l4r (spec_MixDegree.g k) k a b x0 n u v = (spec_MixDegree.l4d k a b n u v).bind x0 := fun x0 n u v => spec_MixDegree.l4r_nat k a b x0 n u v
  have e2 : ∀ (n : Nat) (u v : Int), spec_MixDegree.l10r (spec_MixDegree.g k) k a (K a) (fun w => K w) n u v = (spec_MixDegree.l10d k a a n u v).bind K := fun n u v => spec_MixDegree.l10r_nat k a a K n u v
  have e3 : ∀ (n : Nat) (u v : Int), spec_MixDegree.l10r (spec_MixDegree.g k) k a (some a) (fun w => some w) n u v = spec_MixDegree.l10d k a a n u v := fun n u v => rfl
  rw [spec_MixDegree.u, spec_MixDegree.u]
  simp only [spec_l1Ok.val, spec_RandNext.val, e1, e2, e3, cond_bind, Option.bind_some, Option.bind_none, Option.bind_assoc]
def spec_MixDegree.d (k : Nat) (a b : Int) : Option Int := spec_MixDegree.c k a b some
theorem spec_MixDegree.natd {R : Type} (k : Nat) (a b : Int) (K : Int → Option R) : spec_MixDegree.c k a b K = (spec_MixDegree.d k a b).bind K := spec_MixDegree.nat k a b K
theorem spec_MixDegree.out {R : Type} (k : Nat) {b n : Int} (h : ¬ ((1 ≤ b ∧ b ≤ 6) ∧ (0 ≤ n ∧ n ≤ 999))) (K : Int → Option R) : spec_MixDegree.c k b n K = K 0 := by
  rw [spec_MixDegree.u, spec_l1Ok.val, mix_out h]
  exact ct rfl
theorem spec_MixOf.l6r_nat {R : Type} (k : Nat) (a0 p q : Int) (w : List Int) (b : List Bool) (x : Int → Option R) : ∀ (n : Nat) (u : Int), spec_MixOf.l6r (spec_MixOf.g k) k a0 p q w b x n u = (spec_MixOf.l6r (spec_MixOf.g k) k a0 p q w b some n u).bind x
  | 0, _ => rfl
  | n + 1, u => by
    have ih := spec_MixOf.l6r_nat k a0 p q w b x n
    rw [spec_MixOf.l6r_u, spec_MixOf.l6r_u]
    simp only [cond_bind, Option.bind_some, Option.bind_none, ih]
def spec_MixOf.l6d (k : Nat) (a0 p q : Int) (w : List Int) (b : List Bool) (n : Nat) (u : Int) : Option Int := spec_MixOf.l6r (spec_MixOf.g k) k a0 p q w b some n u
theorem spec_MixOf.l6e {R : Type} (k : Nat) (a0 p q : Int) (w : List Int) (b : List Bool) (x : Int → Option R) (n : Nat) (u : Int) : spec_MixOf.l6r (spec_MixOf.g k) k a0 p q w b x n u = (spec_MixOf.l6d k a0 p q w b n u).bind x := spec_MixOf.l6r_nat k a0 p q w b x n u
theorem spec_MixOf.l15r_nat {R : Type} (k : Nat) (a0 : Int) (w : List Int) (x : List Bool → Option R) : ∀ (n : Nat) (u v : Int) (b : List Bool), spec_MixOf.l15r (spec_MixOf.g k) k a0 w x n u v b = (spec_MixOf.l15r (spec_MixOf.g k) k a0 w some n u v b).bind x
  | 0, _, _, _ => rfl
  | n + 1, u, v, b => by
    have ih := spec_MixOf.l15r_nat k a0 w x n
    rw [spec_MixOf.l15r_u, spec_MixOf.l15r_u]
    simp only [cond_bind, Option.bind_some, Option.bind_none, Option.bind_assoc, spec_RandNext.val, spec_MixOf.l6e, ih]
def spec_MixOf.l15d (k : Nat) (a0 : Int) (w : List Int) (n : Nat) (u v : Int) (b : List Bool) : Option (List Bool) := spec_MixOf.l15r (spec_MixOf.g k) k a0 w some n u v b
theorem spec_MixOf.l15e {R : Type} (k : Nat) (a0 : Int) (w : List Int) (x : List Bool → Option R) (n : Nat) (u v : Int) (b : List Bool) : spec_MixOf.l15r (spec_MixOf.g k) k a0 w x n u v b = (spec_MixOf.l15d k a0 w n u v b).bind x := spec_MixOf.l15r_nat k a0 w x n u v b
theorem spec_MixOf.l20r_nat {R : Type} (k : Nat) (a0 : Int) (b : List Bool) (x : List Int → Option R) : ∀ (n : Nat) (u : Int) (w : List Int), spec_MixOf.l20r (spec_MixOf.g k) k a0 b x n u w = (spec_MixOf.l20r (spec_MixOf.g k) k a0 b some n u w).bind x
  | 0, _, _ => rfl
  | n + 1, u, w => by
    have ih := spec_MixOf.l20r_nat k a0 b x n
    rw [spec_MixOf.l20r_u, spec_MixOf.l20r_u]
    simp only [cond_bind, Option.bind_some, Option.bind_none, ih]
def spec_MixOf.l20d (k : Nat) (a0 : Int) (b : List Bool) (n : Nat) (u : Int) (w : List Int) : Option (List Int) := spec_MixOf.l20r (spec_MixOf.g k) k a0 b some n u w
theorem spec_MixOf.l20e {R : Type} (k : Nat) (a0 : Int) (b : List Bool) (x : List Int → Option R) (n : Nat) (u : Int) (w : List Int) : spec_MixOf.l20r (spec_MixOf.g k) k a0 b x n u w = (spec_MixOf.l20d k a0 b n u w).bind x := spec_MixOf.l20r_nat k a0 b x n u w
theorem spec_MixOf.nat {R : Type} (k : Nat) (a b : Int) (K : List Int → Option R) : spec_MixOf.c k a b K = (spec_MixOf.c k a b some).bind K := by
  rw [spec_MixOf.u, spec_MixOf.u]
  simp only [spec_l1Ok.val, spec_RandNext.val, spec_MixDegree.natd, spec_MixOf.l15e, spec_MixOf.l20e, cond_bind, Option.bind_some, Option.bind_none, Option.bind_assoc]
theorem spec_MixOf.out {R : Type} (k : Nat) {b n : Int} (h : ¬ ((1 ≤ b ∧ b ≤ 6) ∧ (0 ≤ n ∧ n ≤ 999))) (K : List Int → Option R) : spec_MixOf.c k b n K = K [] := by
  rw [spec_MixOf.u, spec_l1Ok.val, mix_out h]
  exact ct rfl
theorem impl_in.val {R : Type} (k : Nat) (a b c : Int) (K : Bool → Option R) : impl_in.c k a b c K = K (inB a b c) := by
  rw [impl_in.u]
  unfold inB
  by_cases h : b ≤ a <;> simp [h]
theorem impl_mixOk.val {R : Type} (k : Nat) (a b : Int) (K : Bool → Option R) : impl_mixOk.c k a b K = K (inB a 1 6 && inB b 0 999) := by
  rw [impl_mixOk.u, impl_in.val, impl_in.val]
  cases inB a 1 6 <;> rfl
theorem impl_RandNext.val {R : Type} (k : Nat) (a : Int) (K : Int → Option R) : impl_RandNext.c k a K = K (rnd a) := by
  rw [impl_RandNext.u, impl_in.val]
  by_cases h : 0 ≤ a ∧ a ≤ 65535
  · rw [inB_yes h.1 h.2]
    refine (cf rfl).trans ?_
    simp only []
    refine (ct rfl).trans ?_
    congr 1
    rw [w64_id (x := 25173 * a) (by omega) (by omega), w64_id (x := 25173 * a + 13849) (by omega) (by omega), Int.tmod_eq_emod_of_nonneg (by omega)]
    unfold rnd
    rw [if_pos h]
    all_goals omega
  · rw [inB_no h]
    refine (ct rfl).trans ?_
    unfold rnd
    rw [if_neg h]
theorem impl_MixDegree.l4r_nat {R : Type} (k : Nat) (a0 a1 : Int) (x0 : Int → List Int → Option R) : ∀ (n : Nat) (u v : Int) (w : List Int), impl_MixDegree.l4r (impl_MixDegree.g k) k a0 a1 x0 n u v w = (impl_MixDegree.l4r (impl_MixDegree.g k) k a0 a1 (fun p q => some (p, q)) n u v w).bind fun r => x0 r.1 r.2
  | 0, _, _, _ => rfl
  | n + 1, u, v, w => by
    have ih := impl_MixDegree.l4r_nat k a0 a1 x0 n
    rw [impl_MixDegree.l4r_u, impl_MixDegree.l4r_u]
    simp only [cond_bind, Option.bind_some, Option.bind_none, Option.bind_assoc, ih]
theorem impl_MixDegree.l10r_nat {R : Type} (k : Nat) (a0 x z : Int) (w : List Int) (K : Int → Option R) : ∀ (n : Nat) (u v : Int), impl_MixDegree.l10r (impl_MixDegree.g k) k a0 x w (K z) (fun w => K w) n u v = (impl_MixDegree.l10r (impl_MixDegree.g k) k a0 x w (some z) (fun w => some w) n u v).bind K
  | 0, _, _ => rfl
  | n + 1, u, v => by
    have ih := impl_MixDegree.l10r_nat k a0 x z w K n
    rw [impl_MixDegree.l10r_u, impl_MixDegree.l10r_u]
    simp only [cond_bind, Option.bind_some, Option.bind_none, Option.bind_assoc, ih]
def impl_MixDegree.l4d (k : Nat) (a0 a1 : Int) (n : Nat) (u v : Int) (w : List Int) : Option (Int × List Int) := impl_MixDegree.l4r (impl_MixDegree.g k) k a0 a1 (fun p q => some (p, q)) n u v w
def impl_MixDegree.l10d (k : Nat) (a0 x z : Int) (w : List Int) (n : Nat) (u v : Int) : Option Int := impl_MixDegree.l10r (impl_MixDegree.g k) k a0 x w (some z) (fun w => some w) n u v
theorem impl_MixDegree.nat {R : Type} (k : Nat) (a b : Int) (K : Int → Option R) : impl_MixDegree.c k a b K = (impl_MixDegree.c k a b some).bind K := by
  have e1 : ∀ {R : Type} (x0 : Int → List Int → Option R) (n : Nat) (u v : Int) (w : List Int), impl_MixDegree.l4r (impl_MixDegree.g k) k a b x0 n u v w = (impl_MixDegree.l4d k a b n u v w).bind fun r => x0 r.1 r.2 := fun x0 n u v w => impl_MixDegree.l4r_nat k a b x0 n u v w
  have e2 : ∀ (x : Int) (w : List Int) (n : Nat) (u v : Int), impl_MixDegree.l10r (impl_MixDegree.g k) k a x w (K a) (fun w => K w) n u v = (impl_MixDegree.l10d k a x a w n u v).bind K := fun x w n u v => impl_MixDegree.l10r_nat k a x a w K n u v
  have e3 : ∀ (x : Int) (w : List Int) (n : Nat) (u v : Int), impl_MixDegree.l10r (impl_MixDegree.g k) k a x w (some a) (fun w => some w) n u v = impl_MixDegree.l10d k a x a w n u v := fun x w n u v => rfl
  rw [impl_MixDegree.u, impl_MixDegree.u]
  simp only [impl_mixOk.val, impl_RandNext.val, e1, e2, e3, cond_bind, Option.bind_some, Option.bind_none, Option.bind_assoc]
def impl_MixDegree.d (k : Nat) (a b : Int) : Option Int := impl_MixDegree.c k a b some
theorem impl_MixDegree.natd {R : Type} (k : Nat) (a b : Int) (K : Int → Option R) : impl_MixDegree.c k a b K = (impl_MixDegree.d k a b).bind K := impl_MixDegree.nat k a b K
theorem impl_MixDegree.out {R : Type} (k : Nat) {b n : Int} (h : ¬ ((1 ≤ b ∧ b ≤ 6) ∧ (0 ≤ n ∧ n ≤ 999))) (K : Int → Option R) : impl_MixDegree.c k b n K = K 0 := by
  rw [impl_MixDegree.u, impl_mixOk.val, mix_out h]
  exact ct rfl
theorem impl_copied_int.val {R : Type} (k : Nat) (a : List Int) (h : a.length ≤ 1099511627776) (K : List Int → Option R) : impl_copied_int.c k a K = K a := by
  rw [impl_copied_int.u]
  by_cases h0 : a.length = 0
  · have := List.eq_nil_of_length_eq_zero h0
    subst this
    exact ct rfl
  · refine (cf (df (by omega))).trans ((ct ?_).trans ?_)
    · rw [Int.toNat_natCast, lim_le h]
      simp
    · simp
theorem impl_copied_int.nat {R : Type} (k : Nat) (a : List Int) (K : List Int → Option R) : impl_copied_int.c k a K = (impl_copied_int.c k a some).bind K := by
  rw [impl_copied_int.u, impl_copied_int.u]
  simp only [cond_bind, Option.bind_some, Option.bind_none]
theorem impl_MixOf.l6r_nat {R : Type} (k : Nat) (a0 p q : Int) (b : List Bool) (x : Int → Option R) : ∀ (n : Nat) (u : Int), impl_MixOf.l6r (impl_MixOf.g k) k a0 p q b x n u = (impl_MixOf.l6r (impl_MixOf.g k) k a0 p q b some n u).bind x
  | 0, _ => rfl
  | n + 1, u => by
    have ih := impl_MixOf.l6r_nat k a0 p q b x n
    rw [impl_MixOf.l6r_u, impl_MixOf.l6r_u]
    simp only [cond_bind, Option.bind_some, Option.bind_none, ih]
def impl_MixOf.l6d (k : Nat) (a0 p q : Int) (b : List Bool) (n : Nat) (u : Int) : Option Int := impl_MixOf.l6r (impl_MixOf.g k) k a0 p q b some n u
theorem impl_MixOf.l6e {R : Type} (k : Nat) (a0 p q : Int) (b : List Bool) (x : Int → Option R) (n : Nat) (u : Int) : impl_MixOf.l6r (impl_MixOf.g k) k a0 p q b x n u = (impl_MixOf.l6d k a0 p q b n u).bind x := impl_MixOf.l6r_nat k a0 p q b x n u
theorem impl_MixOf.l15r_nat {R : Type} (k : Nat) (a0 : Int) (x : List Bool → Option R) : ∀ (n : Nat) (u v : Int) (b : List Bool), impl_MixOf.l15r (impl_MixOf.g k) k a0 x n u v b = (impl_MixOf.l15r (impl_MixOf.g k) k a0 some n u v b).bind x
  | 0, _, _, _ => rfl
  | n + 1, u, v, b => by
    have ih := impl_MixOf.l15r_nat k a0 x n
    rw [impl_MixOf.l15r_u, impl_MixOf.l15r_u]
    simp only [cond_bind, Option.bind_some, Option.bind_none, Option.bind_assoc, impl_RandNext.val, impl_MixOf.l6e, ih]
def impl_MixOf.l15d (k : Nat) (a0 : Int) (n : Nat) (u v : Int) (b : List Bool) : Option (List Bool) := impl_MixOf.l15r (impl_MixOf.g k) k a0 some n u v b
theorem impl_MixOf.l15e {R : Type} (k : Nat) (a0 : Int) (x : List Bool → Option R) (n : Nat) (u v : Int) (b : List Bool) : impl_MixOf.l15r (impl_MixOf.g k) k a0 x n u v b = (impl_MixOf.l15d k a0 n u v b).bind x := impl_MixOf.l15r_nat k a0 x n u v b
theorem impl_MixOf.l21r_nat {R : Type} (k : Nat) (b : List Bool) (x : List Int → Option R) : ∀ (n : Nat) (u : Int) (w : List Int), impl_MixOf.l21r (impl_MixOf.g k) k b x n u w = (impl_MixOf.l21r (impl_MixOf.g k) k b some n u w).bind x
  | 0, _, _ => rfl
  | n + 1, u, w => by
    have ih := impl_MixOf.l21r_nat k b x n
    rw [impl_MixOf.l21r_u, impl_MixOf.l21r_u]
    simp only [cond_bind, Option.bind_some, Option.bind_none, ih]
def impl_MixOf.l21d (k : Nat) (b : List Bool) (n : Nat) (u : Int) (w : List Int) : Option (List Int) := impl_MixOf.l21r (impl_MixOf.g k) k b some n u w
theorem impl_MixOf.l21e {R : Type} (k : Nat) (b : List Bool) (x : List Int → Option R) (n : Nat) (u : Int) (w : List Int) : impl_MixOf.l21r (impl_MixOf.g k) k b x n u w = (impl_MixOf.l21d k b n u w).bind x := impl_MixOf.l21r_nat k b x n u w
def impl_copied_int.d (k : Nat) (a : List Int) : Option (List Int) := impl_copied_int.c k a some
theorem impl_copied_int.natd {R : Type} (k : Nat) (a : List Int) (K : List Int → Option R) : impl_copied_int.c k a K = (impl_copied_int.d k a).bind K := impl_copied_int.nat k a K
theorem impl_MixOf.nat {R : Type} (k : Nat) (a b : Int) (K : List Int → Option R) : impl_MixOf.c k a b K = (impl_MixOf.c k a b some).bind K := by
  rw [impl_MixOf.u, impl_MixOf.u]
  simp only [impl_mixOk.val, impl_RandNext.val, impl_MixDegree.natd, impl_copied_int.natd, impl_MixOf.l15e, impl_MixOf.l21e, cond_bind, Option.bind_some, Option.bind_none, Option.bind_assoc]
theorem impl_MixOf.out {R : Type} (k : Nat) {b n : Int} (h : ¬ ((1 ≤ b ∧ b ≤ 6) ∧ (0 ≤ n ∧ n ≤ 999))) (K : List Int → Option R) : impl_MixOf.c k b n K = K [] := by
  rw [impl_MixOf.u, impl_mixOk.val, mix_out h]
  exact ct rfl
/-- Ascending, each below b. -/
def ascB : Int → List Int → Bool
  | _, [] => true
  | x, y :: l => decide (x < y) && ascB y l
def mixChk (b n : Nat) : Bool := match spec_MixOf.c (R := List Int) 4194304 (b : Int) (n : Int) some, impl_MixOf.c (R := List Int) 4194304 (b : Int) (n : Int) some, impl_MixDegree.c (R := Int) 4194304 (b : Int) (n : Int) some with
  | some l, some m, some d => decide (l = m) && decide (d = (l.length : Int)) && decide (1 ≤ l.length) && ascB (-1) l && l.all (fun x => decide (x < (b : Int))) && (decide (b ≤ n) || decide (l = [(n : Int)]))
  | _, _, _ => false
theorem mix_c1_0 : (List.range 100).all (fun n => mixChk 1 (0 + n)) = true := by decide +kernel
theorem mix_c1_1 : (List.range 100).all (fun n => mixChk 1 (100 + n)) = true := by decide +kernel
theorem mix_c1_2 : (List.range 100).all (fun n => mixChk 1 (200 + n)) = true := by decide +kernel
theorem mix_c1_3 : (List.range 100).all (fun n => mixChk 1 (300 + n)) = true := by decide +kernel
theorem mix_c1_4 : (List.range 100).all (fun n => mixChk 1 (400 + n)) = true := by decide +kernel
theorem mix_c1_5 : (List.range 100).all (fun n => mixChk 1 (500 + n)) = true := by decide +kernel
theorem mix_c1_6 : (List.range 100).all (fun n => mixChk 1 (600 + n)) = true := by decide +kernel
theorem mix_c1_7 : (List.range 100).all (fun n => mixChk 1 (700 + n)) = true := by decide +kernel
theorem mix_c1_8 : (List.range 100).all (fun n => mixChk 1 (800 + n)) = true := by decide +kernel
theorem mix_c1_9 : (List.range 100).all (fun n => mixChk 1 (900 + n)) = true := by decide +kernel
theorem mix_c2_0 : (List.range 100).all (fun n => mixChk 2 (0 + n)) = true := by decide +kernel
theorem mix_c2_1 : (List.range 100).all (fun n => mixChk 2 (100 + n)) = true := by decide +kernel
theorem mix_c2_2 : (List.range 100).all (fun n => mixChk 2 (200 + n)) = true := by decide +kernel
theorem mix_c2_3 : (List.range 100).all (fun n => mixChk 2 (300 + n)) = true := by decide +kernel
theorem mix_c2_4 : (List.range 100).all (fun n => mixChk 2 (400 + n)) = true := by decide +kernel
theorem mix_c2_5 : (List.range 100).all (fun n => mixChk 2 (500 + n)) = true := by decide +kernel
theorem mix_c2_6 : (List.range 100).all (fun n => mixChk 2 (600 + n)) = true := by decide +kernel
theorem mix_c2_7 : (List.range 100).all (fun n => mixChk 2 (700 + n)) = true := by decide +kernel
theorem mix_c2_8 : (List.range 100).all (fun n => mixChk 2 (800 + n)) = true := by decide +kernel
theorem mix_c2_9 : (List.range 100).all (fun n => mixChk 2 (900 + n)) = true := by decide +kernel
theorem mix_c3_0 : (List.range 100).all (fun n => mixChk 3 (0 + n)) = true := by decide +kernel
theorem mix_c3_1 : (List.range 100).all (fun n => mixChk 3 (100 + n)) = true := by decide +kernel
theorem mix_c3_2 : (List.range 100).all (fun n => mixChk 3 (200 + n)) = true := by decide +kernel
theorem mix_c3_3 : (List.range 100).all (fun n => mixChk 3 (300 + n)) = true := by decide +kernel
theorem mix_c3_4 : (List.range 100).all (fun n => mixChk 3 (400 + n)) = true := by decide +kernel
theorem mix_c3_5 : (List.range 100).all (fun n => mixChk 3 (500 + n)) = true := by decide +kernel
theorem mix_c3_6 : (List.range 100).all (fun n => mixChk 3 (600 + n)) = true := by decide +kernel
theorem mix_c3_7 : (List.range 100).all (fun n => mixChk 3 (700 + n)) = true := by decide +kernel
theorem mix_c3_8 : (List.range 100).all (fun n => mixChk 3 (800 + n)) = true := by decide +kernel
theorem mix_c3_9 : (List.range 100).all (fun n => mixChk 3 (900 + n)) = true := by decide +kernel
theorem mix_c4_0 : (List.range 100).all (fun n => mixChk 4 (0 + n)) = true := by decide +kernel
theorem mix_c4_1 : (List.range 100).all (fun n => mixChk 4 (100 + n)) = true := by decide +kernel
theorem mix_c4_2 : (List.range 100).all (fun n => mixChk 4 (200 + n)) = true := by decide +kernel
theorem mix_c4_3 : (List.range 100).all (fun n => mixChk 4 (300 + n)) = true := by decide +kernel
theorem mix_c4_4 : (List.range 100).all (fun n => mixChk 4 (400 + n)) = true := by decide +kernel
theorem mix_c4_5 : (List.range 100).all (fun n => mixChk 4 (500 + n)) = true := by decide +kernel
theorem mix_c4_6 : (List.range 100).all (fun n => mixChk 4 (600 + n)) = true := by decide +kernel
theorem mix_c4_7 : (List.range 100).all (fun n => mixChk 4 (700 + n)) = true := by decide +kernel
theorem mix_c4_8 : (List.range 100).all (fun n => mixChk 4 (800 + n)) = true := by decide +kernel
theorem mix_c4_9 : (List.range 100).all (fun n => mixChk 4 (900 + n)) = true := by decide +kernel
theorem mix_c5_0 : (List.range 100).all (fun n => mixChk 5 (0 + n)) = true := by decide +kernel
theorem mix_c5_1 : (List.range 100).all (fun n => mixChk 5 (100 + n)) = true := by decide +kernel
theorem mix_c5_2 : (List.range 100).all (fun n => mixChk 5 (200 + n)) = true := by decide +kernel
theorem mix_c5_3 : (List.range 100).all (fun n => mixChk 5 (300 + n)) = true := by decide +kernel
theorem mix_c5_4 : (List.range 100).all (fun n => mixChk 5 (400 + n)) = true := by decide +kernel
theorem mix_c5_5 : (List.range 100).all (fun n => mixChk 5 (500 + n)) = true := by decide +kernel
theorem mix_c5_6 : (List.range 100).all (fun n => mixChk 5 (600 + n)) = true := by decide +kernel
theorem mix_c5_7 : (List.range 100).all (fun n => mixChk 5 (700 + n)) = true := by decide +kernel
theorem mix_c5_8 : (List.range 100).all (fun n => mixChk 5 (800 + n)) = true := by decide +kernel
theorem mix_c5_9 : (List.range 100).all (fun n => mixChk 5 (900 + n)) = true := by decide +kernel
theorem mix_c6_0 : (List.range 100).all (fun n => mixChk 6 (0 + n)) = true := by decide +kernel
theorem mix_c6_1 : (List.range 100).all (fun n => mixChk 6 (100 + n)) = true := by decide +kernel
theorem mix_c6_2 : (List.range 100).all (fun n => mixChk 6 (200 + n)) = true := by decide +kernel
theorem mix_c6_3 : (List.range 100).all (fun n => mixChk 6 (300 + n)) = true := by decide +kernel
theorem mix_c6_4 : (List.range 100).all (fun n => mixChk 6 (400 + n)) = true := by decide +kernel
theorem mix_c6_5 : (List.range 100).all (fun n => mixChk 6 (500 + n)) = true := by decide +kernel
theorem mix_c6_6 : (List.range 100).all (fun n => mixChk 6 (600 + n)) = true := by decide +kernel
theorem mix_c6_7 : (List.range 100).all (fun n => mixChk 6 (700 + n)) = true := by decide +kernel
theorem mix_c6_8 : (List.range 100).all (fun n => mixChk 6 (800 + n)) = true := by decide +kernel
theorem mix_c6_9 : (List.range 100).all (fun n => mixChk 6 (900 + n)) = true := by decide +kernel
theorem mix_all (b n : Nat) (hb : 1 ≤ b ∧ b ≤ 6) (hn : n ≤ 999) : mixChk b n = true := by
  have key : ∀ (b c : Nat), (List.range 100).all (fun n => mixChk b (c + n)) = true → ∀ n, c ≤ n → n < c + 100 → mixChk b n = true := by
    intro b c h n h1 h2
    rw [List.all_eq_true] at h
    have := h (n - c) (List.mem_range.2 (by omega))
    rw [show c + (n - c) = n by omega] at this
    exact this
  have hc : n / 100 = 0 ∨ n / 100 = 1 ∨ n / 100 = 2 ∨ n / 100 = 3 ∨ n / 100 = 4 ∨ n / 100 = 5 ∨ n / 100 = 6 ∨ n / 100 = 7 ∨ n / 100 = 8 ∨ n / 100 = 9 := by omega
  have hb' : b = 1 ∨ b = 2 ∨ b = 3 ∨ b = 4 ∨ b = 5 ∨ b = 6 := by omega
  rcases hb' with rfl | rfl | rfl | rfl | rfl | rfl
  · rcases hc with h | h | h | h | h | h | h | h | h | h
    · exact key 1 0 mix_c1_0 n (by omega) (by omega)
    · exact key 1 100 mix_c1_1 n (by omega) (by omega)
    · exact key 1 200 mix_c1_2 n (by omega) (by omega)
    · exact key 1 300 mix_c1_3 n (by omega) (by omega)
    · exact key 1 400 mix_c1_4 n (by omega) (by omega)
    · exact key 1 500 mix_c1_5 n (by omega) (by omega)
    · exact key 1 600 mix_c1_6 n (by omega) (by omega)
    · exact key 1 700 mix_c1_7 n (by omega) (by omega)
    · exact key 1 800 mix_c1_8 n (by omega) (by omega)
    · exact key 1 900 mix_c1_9 n (by omega) (by omega)
  · rcases hc with h | h | h | h | h | h | h | h | h | h
    · exact key 2 0 mix_c2_0 n (by omega) (by omega)
    · exact key 2 100 mix_c2_1 n (by omega) (by omega)
    · exact key 2 200 mix_c2_2 n (by omega) (by omega)
    · exact key 2 300 mix_c2_3 n (by omega) (by omega)
    · exact key 2 400 mix_c2_4 n (by omega) (by omega)
    · exact key 2 500 mix_c2_5 n (by omega) (by omega)
    · exact key 2 600 mix_c2_6 n (by omega) (by omega)
    · exact key 2 700 mix_c2_7 n (by omega) (by omega)
    · exact key 2 800 mix_c2_8 n (by omega) (by omega)
    · exact key 2 900 mix_c2_9 n (by omega) (by omega)
  · rcases hc with h | h | h | h | h | h | h | h | h | h
    · exact key 3 0 mix_c3_0 n (by omega) (by omega)
    · exact key 3 100 mix_c3_1 n (by omega) (by omega)
    · exact key 3 200 mix_c3_2 n (by omega) (by omega)
    · exact key 3 300 mix_c3_3 n (by omega) (by omega)
    · exact key 3 400 mix_c3_4 n (by omega) (by omega)
    · exact key 3 500 mix_c3_5 n (by omega) (by omega)
    · exact key 3 600 mix_c3_6 n (by omega) (by omega)
    · exact key 3 700 mix_c3_7 n (by omega) (by omega)
    · exact key 3 800 mix_c3_8 n (by omega) (by omega)
    · exact key 3 900 mix_c3_9 n (by omega) (by omega)
  · rcases hc with h | h | h | h | h | h | h | h | h | h
    · exact key 4 0 mix_c4_0 n (by omega) (by omega)
    · exact key 4 100 mix_c4_1 n (by omega) (by omega)
    · exact key 4 200 mix_c4_2 n (by omega) (by omega)
    · exact key 4 300 mix_c4_3 n (by omega) (by omega)
    · exact key 4 400 mix_c4_4 n (by omega) (by omega)
    · exact key 4 500 mix_c4_5 n (by omega) (by omega)
    · exact key 4 600 mix_c4_6 n (by omega) (by omega)
    · exact key 4 700 mix_c4_7 n (by omega) (by omega)
    · exact key 4 800 mix_c4_8 n (by omega) (by omega)
    · exact key 4 900 mix_c4_9 n (by omega) (by omega)
  · rcases hc with h | h | h | h | h | h | h | h | h | h
    · exact key 5 0 mix_c5_0 n (by omega) (by omega)
    · exact key 5 100 mix_c5_1 n (by omega) (by omega)
    · exact key 5 200 mix_c5_2 n (by omega) (by omega)
    · exact key 5 300 mix_c5_3 n (by omega) (by omega)
    · exact key 5 400 mix_c5_4 n (by omega) (by omega)
    · exact key 5 500 mix_c5_5 n (by omega) (by omega)
    · exact key 5 600 mix_c5_6 n (by omega) (by omega)
    · exact key 5 700 mix_c5_7 n (by omega) (by omega)
    · exact key 5 800 mix_c5_8 n (by omega) (by omega)
    · exact key 5 900 mix_c5_9 n (by omega) (by omega)
  · rcases hc with h | h | h | h | h | h | h | h | h | h
    · exact key 6 0 mix_c6_0 n (by omega) (by omega)
    · exact key 6 100 mix_c6_1 n (by omega) (by omega)
    · exact key 6 200 mix_c6_2 n (by omega) (by omega)
    · exact key 6 300 mix_c6_3 n (by omega) (by omega)
    · exact key 6 400 mix_c6_4 n (by omega) (by omega)
    · exact key 6 500 mix_c6_5 n (by omega) (by omega)
    · exact key 6 600 mix_c6_6 n (by omega) (by omega)
    · exact key 6 700 mix_c6_7 n (by omega) (by omega)
    · exact key 6 800 mix_c6_8 n (by omega) (by omega)
    · exact key 6 900 mix_c6_9 n (by omega) (by omega)
/-- What a mixed block is of. -/
structure MixIs (b n : Int) (l : List Int) : Prop where
  spec : ∀ {R : Type} (K : List Int → Option R), spec_MixOf.c 4194304 b n K = K l
  impl : ∀ {R : Type} (K : List Int → Option R), impl_MixOf.c 4194304 b n K = K l
  deg : ∀ {R : Type} (K : Int → Option R), impl_MixDegree.c 4194304 b n K = K (l.length : Int)
  asc : ascB (-1) l = true
  lt : ∀ x ∈ l, x < b
  one : (1 ≤ b ∧ b ≤ 6) → 0 ≤ n → n < b → l = [n]
  pos : (1 ≤ b ∧ b ≤ 6) → (0 ≤ n ∧ n ≤ 999) → 1 ≤ l.length
  none : ¬ ((1 ≤ b ∧ b ≤ 6) ∧ (0 ≤ n ∧ n ≤ 999)) → l = []
theorem mixOf (b n : Int) : ∃ l, MixIs b n l := by
  by_cases h : (1 ≤ b ∧ b ≤ 6) ∧ (0 ≤ n ∧ n ≤ 999)
  · obtain ⟨⟨h1, h2⟩, h3, h4⟩ := h
    obtain ⟨b', rfl⟩ := Int.eq_ofNat_of_zero_le (show 0 ≤ b by omega)
    obtain ⟨n', rfl⟩ := Int.eq_ofNat_of_zero_le h3
    have c := mix_all b' n' (by omega) (by omega)
    unfold mixChk at c
    split at c
    · rename_i l m d e1 e2 e3
      simp only [Bool.and_eq_true, Bool.or_eq_true, decide_eq_true_eq, List.all_eq_true] at c
      obtain ⟨⟨⟨⟨⟨rfl, rfl⟩, c3⟩, c4⟩, c5⟩, c6⟩ := c
      refine ⟨l, fun K => ?_, fun K => ?_, fun K => ?_, c4, c5, fun _ _ hn => ?_, fun _ _ => c3, fun hc => absurd ⟨⟨h1, h2⟩, h3, h4⟩ hc⟩
      · rw [spec_MixOf.nat, e1]; rfl
      · rw [impl_MixOf.nat, e2]; rfl
      · rw [impl_MixDegree.nat, e3]; rfl
      · rcases c6 with c6 | c6
        · omega
        · exact c6
    · cases c
  · exact ⟨[], fun K => spec_MixOf.out _ h K, fun K => impl_MixOf.out _ h K, fun K => impl_MixDegree.out _ h K, rfl, fun x hx => (by cases hx), fun h1 h2 h3 => absurd ⟨h1, h2, by omega⟩ h, fun h1 h2 => absurd ⟨h1, h2⟩ h, fun _ => rfl⟩
theorem ascB_ge : ∀ {l : List Int} {x : Int}, ascB x l = true → ∀ y ∈ l, x < y
  | [], x, h, y, hy => by cases hy
  | z :: l, x, h, y, hy => by
    simp only [ascB, Bool.and_eq_true, decide_eq_true_eq] at h
    rcases List.mem_cons.1 hy with rfl | hy
    · exact h.1
    · have := ascB_ge h.2 y hy; omega
theorem ascB_get : ∀ {l : List Int} {x : Int}, ascB x l = true → ∀ (i : Nat) (h : i + 1 < l.length), l[i]'(by omega) < l[i + 1]
  | [], x, h, i, hi => by simp at hi
  | z :: l, x, h, i, hi => by
    simp only [ascB, Bool.and_eq_true, decide_eq_true_eq] at h
    cases i with
    | zero => exact ascB_ge h.2 _ (by simp)
    | succ i => exact ascB_get h.2 i (by simpa using hi)
theorem MixIs.len {b n : Int} {l : List Int} (h : MixIs b n l) : l.length ≤ 6 := by
  by_cases hc : (1 ≤ b ∧ b ≤ 6) ∧ (0 ≤ n ∧ n ≤ 999)
  · have key : ∀ (l : List Int) (x : Int), ascB x l = true → (∀ y ∈ l, y < b) → (l.length : Int) ≤ max 0 (b - x - 1) := by
      intro l
      induction l with
      | nil => intro x _ _; simp; omega
      | cons z l ih =>
        intro x ha hl
        simp only [ascB, Bool.and_eq_true, decide_eq_true_eq] at ha
        have := ih z ha.2 (fun y hy => hl y (by simp [hy]))
        have := hl z (by simp)
        simp only [List.length_cons]
        omega
    have := key l (-1) h.asc h.lt
    omega
  · rw [h.none hc]; simp
noncomputable def ofL (b n : Int) : List Int := (mixOf b n).choose
theorem ofL_is (b n : Int) : MixIs b n (ofL b n) := (mixOf b n).choose_spec
theorem ofL_in (b n : Int) : ∀ k ∈ ofL b n, 0 ≤ k ∧ k < b := fun k hk => ⟨by have := ascB_ge (ofL_is b n).asc k hk; omega, (ofL_is b n).lt k hk⟩
/-- The data of a mixed block of a text. -/
noncomputable def mixT (t : ByteArray) (n : Int) : ByteArray := mixD (blks t) (ofL (blks t).length n)
theorem asc_nodup' : ∀ {l : List Int} {x : Int}, ascB x l = true → l.Nodup
  | [], _, _ => List.nodup_nil
  | y :: l, x, h => by
    simp only [ascB, Bool.and_eq_true, decide_eq_true_eq] at h
    rw [List.nodup_cons]
    refine ⟨fun hm => ?_, asc_nodup' h.2⟩
    have := ascB_ge h.2 y hm
    omega
theorem ofL_ok (b : Nat) : OfOk b (ofL (b : Int)) := fun n => ⟨ofL_in _ n, asc_nodup' (ofL_is _ n).asc, (ofL_is _ n).len⟩
noncomputable def peelF (b : Int) (l : List (Int × ByteArray)) : List ByteArray := cond (inB b 1 6) (peelN (ofL b) l 8 (kn0 b.toNat)) []
theorem peelF_in {b : Nat} (hb : 1 ≤ b ∧ b ≤ 6) (l : List (Int × ByteArray)) : peelF (b : Int) l = peelN (ofL b) l 8 (kn0 b) := by
  unfold peelF
  rw [inB_yes (by omega) (by omega)]
  rfl
/-- What is known of peeling. -/
theorem peelF_ok {b : Nat} (hb : 1 ≤ b ∧ b ≤ 6) (l : List (Int × ByteArray)) : KnOk b (peelF (b : Int) l) ∧ ClosedP (ofL (b : Int)) l (peelF (b : Int) l) := by
  rw [peelF_in hb]
  exact peel_ok (ofL_ok b) l 8 (kn0 b) (by have := kn0_cnt b; omega) (kn0_ok b)
theorem peelF_sub {b : Nat} (hb : 1 ≤ b ∧ b ≤ 6) {l l' : List (Int × ByteArray)} {c : List ByteArray} (hc : ClosedP (ofL (b : Int)) l c) (hm : ∀ m ∈ l', m ∈ l) : Sub (peelF (b : Int) l') c := by
  rw [peelF_in hb]
  exact peel_sub (ofL_ok b) hc hm 8 (kn0 b) (kn0_ok b) (kn0_sub b c)
/-- Mixed blocks of a text. -/
def TrueL (t : ByteArray) (l : List (Int × ByteArray)) : Prop := ∀ m ∈ l, inR m = true → m.2 = mixD (blks t) (ofL ((blks t).length : Int) m.1)
theorem blks_six {t : ByteArray} (h : 1 ≤ t.size ∧ t.size ≤ 24) : 1 ≤ (blks t).length ∧ (blks t).length ≤ 6 := by
  rw [blks_in h, blksTo_length]
  unfold blkN
  omega
theorem peelF_right {t : ByteArray} (h : 1 ≤ t.size ∧ t.size ≤ 24) {l : List (Int × ByteArray)} (hl : TrueL t l) : Rght (blks t) (peelF ((blks t).length : Int) l) := by
  rw [peelF_in (blks_six h)]
  exact peel_cons rfl (blks_four t) (ofL_ok _) hl 8 _ (kn0_ok _) (kn0_cons _)
theorem peelF_len (a : Int) (l : List (Int × ByteArray)) : (peelF a l).length ≤ 6 := by
  by_cases h : 1 ≤ a ∧ a ≤ 6
  · obtain ⟨b, rfl⟩ := Int.eq_ofNat_of_zero_le (show 0 ≤ a by omega)
    have := (peelF_ok (b := b) (by omega) l).1.1
    omega
  · unfold peelF
    rw [inB_no h]
    simp
noncomputable def mtF (a : Int) (l : List (Int × ByteArray)) : ByteArray × Bool := cond (inB a 1 24) (mixX a.toNat (peelF ((blkN a.toNat : Nat) : Int) l)) (ByteArray.mk #[], false)
theorem mtF_in {s : Nat} (h : 1 ≤ s ∧ s ≤ 24) (l : List (Int × ByteArray)) : mtF (s : Int) l = mixX s (peelF ((blkN s : Nat) : Int) l) := by
  unfold mtF
  rw [inB_yes (by omega) (by omega)]
  rfl
theorem mtF_out {a : Int} (h : ¬ (1 ≤ a ∧ a ≤ 24)) (l : List (Int × ByteArray)) : mtF a l = (ByteArray.mk #[], false) := by
  unfold mtF
  rw [inB_no h]
  rfl
theorem mtF_none {a : Int} {l : List (Int × ByteArray)} (h : (mtF a l).2 = false) : (mtF a l).1 = ByteArray.mk #[] := by
  by_cases ha : 1 ≤ a ∧ a ≤ 24
  · obtain ⟨s, rfl⟩ := Int.eq_ofNat_of_zero_le (show 0 ≤ a by omega)
    rw [mtF_in (by omega)] at h ⊢
    unfold mixX at h ⊢
    generalize hasU _ = x at h ⊢
    generalize zeroFrom _ _ = y at h ⊢
    cases x
    · cases y
      · rfl
      · cases h
    · rfl
  · rw [mtF_out ha]
theorem hasU_four {b : Nat} {kn : List ByteArray} (hk : KnOk b kn) (h : hasU kn = false) : ∀ x ∈ kn, x.size = 4 := fun x hx => (hk.2 x hx).resolve_left fun e => by
  unfold hasU at h
  rw [List.any_eq_false] at h
  exact h x hx (by simpa using e)
theorem mtF_size {a : Int} {l : List (Int × ByteArray)} (h : (mtF a l).2 = true) : ((mtF a l).1.size : Int) = a := by
  by_cases ha : 1 ≤ a ∧ a ≤ 24
  · obtain ⟨s, rfl⟩ := Int.eq_ofNat_of_zero_le (show 0 ≤ a by omega)
    have hb : 1 ≤ blkN s ∧ blkN s ≤ 6 := by unfold blkN; omega
    obtain ⟨hk, _⟩ := peelF_ok hb l
    rw [mtF_in (by omega)] at h ⊢
    generalize peelF ((blkN s : Nat) : Int) l = kn at h hk ⊢
    have h4 := hasU_four hk
    unfold mixX at h ⊢
    cases hu : hasU kn with
    | true => rw [hu] at h; cases h
    | false =>
      have hsz := joinA_size (ByteArray.mk #[]) (h4 hu)
      rw [hk.1] at hsz
      have hz0 : (ByteArray.mk #[]).size = 0 := rfl
      rw [hu, cond_false] at h
      rw [cond_false]
      cases hz : zeroFrom (joinA (ByteArray.mk #[]) kn) s with
      | false => rw [hz] at h; cases h
      | true =>
        rw [cond_true, ByteArray.size_extract, hsz, hz0]
        have : s ≤ 4 * blkN s := by unfold blkN; omega
        omega
  · rw [mtF_out ha] at h
    cases h
theorem blks_len {t : ByteArray} (h : 1 ≤ t.size ∧ t.size ≤ 24) : (blks t).length = blkN t.size := by rw [blks_in h, blksTo_length]
theorem mtF_known {t : ByteArray} (h : 1 ≤ t.size ∧ t.size ≤ 24) {l : List (Int × ByteArray)} (hl : TrueL t l) (hk : ∀ i : Nat, i < (blks t).length → isUn (peelF ((blks t).length : Int) l) (i : Int) = false) : mtF (t.size : Int) l = (t, true) := by
  rw [mtF_in h, ← blks_len h, cons_all (peelF_right h hl) hk, mixX_blks h]
theorem mtF_lack {t : ByteArray} (h : 1 ≤ t.size ∧ t.size ≤ 24) {l : List (Int × ByteArray)} {i : Nat} (hi : i < (blks t).length) (hk : isUn (peelF ((blks t).length : Int) l) (i : Int) = true) : mtF (t.size : Int) l = (ByteArray.mk #[], false) := by
  rw [mtF_in h, ← blks_len h]
  unfold mixX
  rw [hasU_yes (by rw [(peelF_ok (blks_six h) l).1.1]; exact hi) hk]
  rfl
theorem mtF_true {t : ByteArray} (h : 1 ≤ t.size ∧ t.size ≤ 24) {l : List (Int × ByteArray)} (hl : TrueL t l) (hs : (mtF (t.size : Int) l).2 = true) : (mtF (t.size : Int) l).1 = t := by
  cases hu : hasU (peelF ((blks t).length : Int) l) with
  | true =>
    rw [mtF_in h, ← blks_len h] at hs
    unfold mixX at hs
    rw [hu] at hs
    cases hs
  | false =>
    rw [mtF_known h hl fun i hi => hasU_not hu i (by rw [(peelF_ok (blks_six h) l).1.1]; exact hi)]
/-- The mixed blocks of a list whose numbers are numbers: with the text's own data. -/
noncomputable def trueF (t : ByteArray) : List (Int × ByteArray) → List (Int × ByteArray)
  | [] => []
  | m :: l => cond (inB m.1 0 999) ((m.1, mixT t m.1) :: trueF t l) (trueF t l)
theorem trueF_len (t : ByteArray) : ∀ l, (trueF t l).length ≤ l.length
  | [] => Nat.le_refl _
  | m :: l => by
    have := trueF_len t l
    unfold trueF
    cases inB m.1 0 999
    · show (trueF t l).length ≤ _; simp only [List.length_cons]; omega
    · show ((m.1, mixT t m.1) :: trueF t l).length ≤ _; simp only [List.length_cons]; omega
theorem trueF_true (t : ByteArray) : ∀ l, TrueL t (trueF t l)
  | [] => fun m hm => by cases hm
  | m :: l => by
    have ih := trueF_true t l
    unfold trueF
    cases inB m.1 0 999
    · exact ih
    · intro z hz hr
      rcases List.mem_cons.1 hz with rfl | hz
      · rfl
      · exact ih z hz hr
theorem TrueL.sub {t : ByteArray} {l m : List (Int × ByteArray)} (h : TrueL t l) (hm : ∀ x ∈ m, x ∈ l) : TrueL t m := fun x hx => h x (hm x hx)
/-- The single blocks of a text, by their numbers. -/
theorem one_four {t : ByteArray} {i : Nat} (hi : i < (blks t).length) : mixT t (i : Int) = (blks t)[i] := by
  have h6 := blks_length t
  have e := (ofL_is ((blks t).length : Int) (i : Int)).one (by omega) (by omega) (by omega)
  unfold mixT
  rw [e]
  show (blks t).getD (i : Int).toNat ByteArray.empty = _
  rw [Int.toNat_natCast, getD_at hi]
theorem one_in {t : ByteArray} {i : Nat} (hi : i < (blks t).length) : inR ((i : Int), mixT t (i : Int)) = true := by
  have h6 := blks_length t
  rw [inR_iff]
  refine ⟨⟨by show (0 : Int) ≤ (i : Int); omega, by show (i : Int) ≤ 999; omega⟩, ?_⟩
  show (mixT t (i : Int)).size = 4
  rw [one_four hi]
  exact blks_four t _ (List.getElem_mem hi)
theorem one_known {t : ByteArray} (h : 1 ≤ t.size ∧ t.size ≤ 24) {l : List (Int × ByteArray)} {i : Nat} (hi : i < (blks t).length) (hm : ((i : Int), mixT t (i : Int)) ∈ l) : isUn (peelF ((blks t).length : Int) l) (i : Int) = false := by
  have h6 := blks_length t
  have hc := (peelF_ok (blks_six h) l).2 _ hm (one_in hi) (i : Int)
  have e : ofL ((blks t).length : Int) (i : Int) = [(i : Int)] := (ofL_is ((blks t).length : Int) (i : Int)).one (by omega) (by omega) (by omega)
  rw [e] at hc
  cases hu : isUn (peelF ((blks t).length : Int) l) (i : Int) with
  | false => rfl
  | true => exact absurd (by unfold unk; rw [List.filter_cons_of_pos hu]; rfl) hc
theorem filter_one {q : Int} : ∀ {l : List Int}, l.Nodup → q ∈ l → l.filter (fun k => k == q) = [q]
  | [], _, h => by cases h
  | k :: l, hn, h => by
    rw [List.nodup_cons] at hn
    by_cases hk : k = q
    · subst hk
      rw [List.filter_cons_of_pos (by simp), List.filter_eq_nil_iff.2 fun a ha => ?_]
      intro e
      have : a = k := by simpa using e
      subst this
      exact hn.1 ha
    · rw [List.filter_cons_of_neg (by simpa using hk)]
      rcases List.mem_cons.1 h with e | e
      · exact absurd e.symm hk
      · exact filter_one hn.2 e
theorem laws_eqStringS.val {R : Type} (a b : List (ByteArray)) (h : a.length ≤ 2097152) (K : Bool → Option R) : laws_eqStringS.c 4194304 a b K = K (decide (a = b)) := by
  rw [laws_eqStringS.u]
  by_cases hl : a.length = b.length
  · refine (cf (by simp [hl])).trans ?_
    have key := eq_loop a b ByteArray.empty (K true) (K false) (fun n i => laws_eqStringS.l4r (laws_eqStringS.g 4194304) 4194304 a b (K true) (fun v => K v) n i) hl (fun n i hi => by
      rw [laws_eqStringS.l4r_u]
      refine (ct (dt (by omega))).trans ((ct (gd hi)).trans ((ct (gd (by omega))).trans ?_))
      cases hd : decide (a.getD i ByteArray.empty = b.getD i ByteArray.empty) <;> simp only [Int.toNat_natCast, hd, Bool.not_true, Bool.not_false, cond_true, cond_false, w64_p1 i (show i < 4611686018427387904 by omega)]) (fun n => by
      rw [laws_eqStringS.l4r_u]
      exact cf (df (by omega))) 4194304 (by omega)
    exact key.trans (by cases decide (a = b) <;> rfl)
  · refine (ct (by simp; omega)).trans ?_
    rw [df (fun e => hl (by rw [e]))]
theorem laws_markText.l3r_val {R : Type} (x0 : ByteArray → Option R) : ∀ (d n v : Nat) (acc : List UInt8), v < 10 ^ d → d < n → d ≤ 18 → acc.length + d ≤ 1000 → laws_markText.l3r (laws_markText.g 4194304) 4194304 x0 n (v : Int) (ba acc) = x0 (ba ((if v = 0 then [] else decL v) ++ acc)) := by
  intro d
  induction d with
  | zero =>
    intro n v acc h1 h2 _ h3
    obtain ⟨n, rfl⟩ := Nat.exists_eq_succ_of_ne_zero (n := n) (by omega)
    have : v = 0 := by omega
    subst this
    rw [laws_markText.l3r_u]
    exact cf rfl
  | succ d ih =>
    intro n v acc h1 h2 h4 h3
    obtain ⟨n, rfl⟩ := Nat.exists_eq_succ_of_ne_zero (n := n) (by omega)
    rw [laws_markText.l3r_u]
    by_cases hv : v = 0
    · subst hv; exact cf rfl
    · have hp : 10 ^ (d + 1) ≤ 10 ^ 18 := Nat.pow_le_pow_right (by omega) (by omega)
      have hb : v < 1000000000000000000 := by omega
      refine (ct (dt (by omega))).trans ((ct rfl).trans ?_)
      have e1 : w64 ((48 : Int) + Int.tmod (v : Int) 10) = ((48 + v % 10 : Nat) : Int) := by
        have := tmodN v 10
        rw [show ((10 : Nat) : Int) = 10 from rfl] at this
        rw [this]
        exact w64_id (by omega) (by omega)
      have e2 : w64 (Int.tdiv (v : Int) 10) = ((v / 10 : Nat) : Int) := by
        have := tdivN v 10
        rw [show ((10 : Nat) : Int) = 10 from rfl] at this
        rw [this]
        exact w64_id (by omega) (by omega)
      simp only [e1, e2, ofBytes_one (48 + v % 10) (by omega), ba_append]
      refine (ct (dt ?_)).trans ((ct rfl).trans ?_)
      · rw [ba_size, ba_size]
        simp only [List.length_singleton]
        omega
      · have := ih n (v / 10) ([UInt8.ofNat (48 + v % 10)] ++ acc) (by rw [Nat.pow_succ] at h1; omega) (by omega) (by omega) (by simp; omega)
        rw [this]
        congr 2
        by_cases h10 : v < 10
        · have : v / 10 = 0 := by omega
          rw [this, if_pos rfl, if_neg hv, decL_lt h10]
          simp [dig, Nat.mod_eq_of_lt h10]
        · rw [if_neg (by omega), if_neg hv, decL_ge h10]
          simp [dig]
theorem laws_markText.val {R : Type} (m : Nat) (h : m ≤ 4398046511104) (K : ByteArray → Option R) : laws_markText.c 4194304 (m : Int) K = K (mkT m) := by
  rw [laws_markText.u]
  by_cases hm : m = 0
  · subst hm
    refine (ct rfl).trans ?_
    unfold mkT
    rw [decL_lt (by omega)]
    rfl
  · refine (cf (df (by omega))).trans ?_
    have := laws_markText.l3r_val (R := R) (fun v3 => cond (decide ((ByteArray.mk #[109]).size + v3.size ≤ 9223372036854775807)) (K ((ByteArray.mk #[109]) ++ v3)) none) 14 4194304 m [] (by omega) (by omega) (by omega) (by simp)
    refine this.trans ?_
    rw [if_neg hm, List.append_nil]
    have hl := decL_length (n := m) (d := 13) (by omega)
    have hs := ba_size (decL m)
    refine (ct (dt ?_)).trans ?_
    · have : (ByteArray.mk #[109]).size = 1 := rfl
      omega
    · congr 1
def laws_markStringS.mk (p : Nat) : ByteArray := mkT p
theorem laws_markStringS.val {R : Type} (a : List (ByteArray)) (m : Nat) (h : a.length ≤ 2097152) (hm : m ≤ 1099511627776) (K : Int → List (ByteArray) → Option R) : laws_markStringS.c 4194304 a (m : Int) K = K ((m + 1 * a.length : Nat) : Int) (mks laws_markStringS.mk 1 m a.length) := by
  rw [laws_markStringS.u]
  exact mark_loop laws_markStringS.mk 1 a.length 2199023255552 (fun v w => K v w) (fun n v i w => laws_markStringS.l4r (laws_markStringS.g 4194304) 4194304 (fun v w => K v w) n v i w) (fun n m i w hw hi hb => by
      rw [laws_markStringS.l4r_u]
      refine (ct (dt (by omega))).trans ?_
      rw [laws_markText.val m (by omega)]
      refine (ct (gd (by omega))).trans ?_
      rw [w64_p1 i (by omega), w64_p1 m (by omega), Int.toNat_natCast]
      try rfl) (fun n m w hw => by
      rw [laws_markStringS.l4r_u]
      exact cf (df (by omega))) 4194304 m a (by omega) rfl (by omega)
theorem laws_heldStringS.val {R : Type} (N m : Nat) (h : N ≤ 2097152) (hm : m ≤ 1099511627776) (K : Int → Option R) : laws_heldStringS.c 4194304 (mks laws_markStringS.mk 1 m N) (m : Int) K = K ((m + 1 * N : Nat) : Int) := by
  rw [laws_heldStringS.u]
  have hl := mks_length laws_markStringS.mk 1 m N
  exact held_loop laws_markStringS.mk ByteArray.empty 1 N 2199023255552 m (fun v => K v) (fun n v i => laws_heldStringS.l4r (laws_heldStringS.g 4194304) 4194304 (mks laws_markStringS.mk 1 m N) (fun v => K v) (fun v => K v) n v i) (fun n p i hi hb hd => by
      rw [laws_heldStringS.l4r_u]
      refine (ct (dt (by omega))).trans ((ct (gd (by omega))).trans ?_)
      rw [laws_markText.val p (by omega), w64_p1 i (by omega), w64_p1 p (by omega), Int.toNat_natCast, hd]
      exact cf (by simp [laws_markStringS.mk])
      try rfl) (fun n p => by
      rw [laws_heldStringS.l4r_u]
      exact cf (df (by omega))) 4194304 (by omega) (by omega)
theorem laws_szMixedS.l4r_tot (l : List (Int × ByteArray)) (hl : l.length ≤ 1048576) (hs : ∀ m ∈ l, (m.2.size : Int) ≤ 9223372036854775807) : ∀ (d i : Nat) (v : Int), i + d = l.length → 0 ≤ v → v ≤ 1048576 →
    ∃ r : Int, ∀ {R : Type} (K : Int → Option R) (n : Nat), d < n → laws_szMixedS.l4r (laws_szMixedS.g 4194304) 4194304 l K K n v (i : Int) = K r := by
  intro d
  induction d with
  | zero =>
    intro i v h1 h2 h3
    refine ⟨v, fun K n hn => ?_⟩
    obtain ⟨n, rfl⟩ := Nat.exists_eq_succ_of_ne_zero (n := n) (by omega)
    rw [laws_szMixedS.l4r_u]
    exact cf (df (by omega))
  | succ d ih =>
    intro i v h1 h2 h3
    have hi : i < l.length := by omega
    have hz := hs l[i] (List.getElem_mem hi)
    have hw : w64 (v - (l[i].2.size : Int)) = v - (l[i].2.size : Int) := w64_id (by omega) (by omega)
    by_cases hneg : v - (l[i].2.size : Int) < 0
    · refine ⟨-1, fun K n hn => ?_⟩
      obtain ⟨n, rfl⟩ := Nat.exists_eq_succ_of_ne_zero (n := n) (by omega)
      rw [laws_szMixedS.l4r_u, Int.toNat_natCast, getD_at hi]
      refine (ct (dt (by omega))).trans ((ct (gd hi)).trans ?_)
      rw [laws_szMixed.u]
      refine (ct (by rw [hw]; exact dt hneg)).trans ?_
      exact ct rfl
    · obtain ⟨r, hr⟩ := ih (i + 1) (v - (l[i].2.size : Int)) (by omega) (by omega) (by omega)
      refine ⟨r, fun K n hn => ?_⟩
      obtain ⟨n, rfl⟩ := Nat.exists_eq_succ_of_ne_zero (n := n) (by omega)
      rw [laws_szMixedS.l4r_u, Int.toNat_natCast, getD_at hi, w64_p1 i (by omega)]
      refine (ct (dt (by omega))).trans ((ct (gd hi)).trans ?_)
      rw [laws_szMixed.u]
      refine (cf (by rw [hw]; exact df hneg)).trans ?_
      rw [hw]
      refine (cf (df hneg)).trans ?_
      exact hr K n (by omega)
theorem laws_szMixedS.tot (l : List (Int × ByteArray)) (hl : (l.length : Int) ≤ 9223372036854775807) (hs : ∀ m ∈ l, (m.2.size : Int) ≤ 9223372036854775807) : ∃ r : Int, (0 ≤ r → l.length ≤ 1048576) ∧ ∀ {R : Type} (K : Int → Option R), laws_szMixedS.c 4194304 l 1048576 K = K r := by
  have hw : w64 (1048576 - (l.length : Int)) = 1048576 - (l.length : Int) := w64_id (by omega) (by omega)
  by_cases h : l.length ≤ 1048576
  · obtain ⟨r, hr⟩ := laws_szMixedS.l4r_tot l h hs l.length 0 (1048576 - (l.length : Int)) (by omega) (by omega) (by omega)
    refine ⟨r, fun _ => h, fun K => ?_⟩
    rw [laws_szMixedS.u]
    refine (cf (by rw [hw]; exact df (by omega))).trans ?_
    rw [hw]
    exact hr K 4194304 (by omega)
  · refine ⟨-1, fun h => by omega, fun K => ?_⟩
    rw [laws_szMixedS.u]
    exact ct (by rw [hw]; exact dt (by omega))
theorem laws_toMixedS.l4r_val {R : Type} (l : List (Int × ByteArray)) (hl : l.length ≤ 2097152) (x : List (Int × ByteArray) → Option R) : ∀ (d i n : Nat) (w : List (Int × ByteArray)), i + d = l.length → d < n → w.length = l.length → w.take i = l.take i →
    laws_toMixedS.l4r (laws_toMixedS.g 4194304) 4194304 l x n (i : Int) w = x l := by
  intro d
  induction d with
  | zero =>
    intro i n w h1 h2 h3 h4
    obtain ⟨n, rfl⟩ := Nat.exists_eq_succ_of_ne_zero (n := n) (by omega)
    rw [laws_toMixedS.l4r_u]
    refine (cf (df (by omega))).trans ?_
    rw [List.take_of_length_le (by omega), List.take_of_length_le (by omega)] at h4
    rw [h4]
  | succ d ih =>
    intro i n w h1 h2 h3 h4
    obtain ⟨n, rfl⟩ := Nat.exists_eq_succ_of_ne_zero (n := n) (by omega)
    have hi : i < l.length := by omega
    rw [laws_toMixedS.l4r_u, Int.toNat_natCast, getD_at hi, w64_p1 i (by omega)]
    refine (ct (dt (by omega))).trans ((ct (gd hi)).trans ?_)
    rw [laws_toMixed.u]
    refine (ct (gd (by omega))).trans ?_
    refine ih (i + 1) n _ (by omega) (by omega) (by rw [List.length_set]; exact h3) ?_
    apply List.ext_getElem?
    intro j
    rw [List.getElem?_take, List.getElem?_take]
    by_cases hj : j < i + 1
    · rw [if_pos hj, if_pos hj, List.getElem?_set]
      by_cases he : i = j
      · subst he
        rw [if_pos rfl, if_pos (by omega), List.getElem?_eq_getElem hi]
      · rw [if_neg he]
        have := congrArg (fun z => z[j]?) h4
        simp only [List.getElem?_take] at this
        rw [if_pos (by omega), if_pos (by omega)] at this
        exact this
    · rw [if_neg hj, if_neg hj]
theorem laws_toMixedS.val {R : Type} (l : List (Int × ByteArray)) (hl : l.length ≤ 2097152) (K : List (Int × ByteArray) → Option R) : laws_toMixedS.c 4194304 l K = K l := by
  rw [laws_toMixedS.u]
  refine (ct (by simp [lim_le (show l.length ≤ 1099511627776 by omega)])).trans ?_
  rw [Int.toNat_natCast]
  exact laws_toMixedS.l4r_val l hl (fun w => K w) l.length 0 4194304 _ (by omega) (by omega) (by rw [List.length_replicate]) (by simp)
theorem laws_eqMixed.val {R : Type} (k : Nat) (a0 : Int) (a1 : ByteArray) (b0 : Int) (b1 : ByteArray) (K : Bool → Option R) : laws_eqMixed.c k a0 a1 b0 b1 K = K (decide ((a0, a1) = (b0, b1))) := by
  rw [laws_eqMixed.u, nc0]
  simp only [nc]
  exact congrArg K (decide_eq_decide.2 (by simp))
theorem laws_eqMixedS.val {R : Type} (a b : List (Int × ByteArray)) (h : a.length ≤ 2097152) (K : Bool → Option R) : laws_eqMixedS.c 4194304 a b K = K (decide (a = b)) := by
  rw [laws_eqMixedS.u]
  by_cases hl : a.length = b.length
  · refine (cf (by simp [hl])).trans ?_
    have key := eq_loop a b ((0 : Int), ByteArray.empty) (K true) (K false) (fun n i => laws_eqMixedS.l4r (laws_eqMixedS.g 4194304) 4194304 a b (K true) (fun v => K v) n i) hl (fun n i hi => by
      rw [laws_eqMixedS.l4r_u]
      refine (ct (dt (by omega))).trans ((ct (gd hi)).trans ((ct (gd (by omega))).trans ?_))
      rw [laws_eqMixed.val]
      simp only [Int.toNat_natCast, w64_p1 i (show i < 4611686018427387904 by omega)]
      cases hd : decide (a.getD i ((0 : Int), ByteArray.empty) = b.getD i ((0 : Int), ByteArray.empty))
      · exact ct rfl
      · exact cf rfl) (fun n => by
      rw [laws_eqMixedS.l4r_u]
      exact cf (df (by omega))) 4194304 (by omega)
    exact key.trans (by cases decide (a = b) <;> rfl)
  · refine (ct (by simp; omega)).trans ?_
    rw [df (fun e => hl (by rw [e]))]
theorem spec_l2Mixed.val {R : Type} (k : Nat) (b : Int) (hb : 1 ≤ b ∧ b ≤ 6) (n : Int) (x : ByteArray) (K : Bool → Option R) : spec_l2Mixed.c k b n x K = K (inR (n, x)) := by
  rw [spec_l2Mixed.u, spec_l1Ok.val, inB_yes hb.1 hb.2, Bool.true_and]
  unfold inR
  cases inB n 0 999 <;> rfl
theorem spec_l2Xor.val {R : Type} (a b : ByteArray) (ha : a.size = 4) (hb : b.size = 4) (K : ByteArray → Option R) : spec_l2Xor.c 4194304 a b K = K (xr a b) := by
  have step : ∀ (x : List Int → Option R) (n i : Nat) (acc : List Int), i < 4 → acc.length ≤ 100 → spec_l2Xor.l4r (spec_l2Xor.g 4194304) 4194304 a b x (n + 1) (i : Int) acc = spec_l2Xor.l4r (spec_l2Xor.g 4194304) 4194304 a b x n ((i + 1 : Nat) : Int) (acc ++ [((((tx a).getD i 0 ^^^ (tx b).getD i 0 : UInt8).toNat : Nat) : Int)]) := by
    intro x n i acc hi hl
    rw [spec_l2Xor.l4r_u, w64_p1 i (by omega), Int.toNat_natCast, byteAt_tx, byteAt_tx, w8_xor]
    refine (ct (dt (by omega))).trans ((ct (gd (by omega))).trans ((ct (gd (by omega))).trans ?_))
    exact ct (lim_le (by simp; omega))
  rw [spec_l2Xor.u]
  refine (step _ 4194303 0 [] (by omega) (by simp)).trans ?_
  refine (step _ 4194302 1 _ (by omega) (by simp)).trans ?_
  refine (step _ 4194301 2 _ (by omega) (by simp)).trans ?_
  refine (step _ 4194300 3 _ (by omega) (by simp)).trans ?_
  refine (spec_l2Xor.l4r_u 4194304 a b _ 4194299 _ _).trans ?_
  refine (cf (df (by omega))).trans ?_
  obtain ⟨a0, a1, a2, a3, rfl⟩ := four ha
  obtain ⟨b0, b1, b2, b3, rfl⟩ := four hb
  congr 1
  apply tx_inj
  rw [ofBytes_tx, tx_xr]
  simp [tx_ba]
theorem spec_l2Left.l4r_val {R : Type} (b : Nat) (kn : List ByteArray) (hk : KnOk b kn) (l : List Int) (hl : ∀ k ∈ l, 0 ≤ k ∧ k < (b : Int)) (hn : l.length ≤ 100) (x0 : ByteArray → List Int → Option R) : ∀ (d i n : Nat) (x : ByteArray) (acc : List Int), i + d = l.length → d < n → x.size = 4 → acc.length + d ≤ 200 →
    spec_l2Left.l4r (spec_l2Left.g 4194304) 4194304 kn l x0 n x (i : Int) acc = x0 (resL kn x (l.drop i)) (acc ++ unk kn (l.drop i)) := by
  intro d
  induction d with
  | zero =>
    intro i n x acc h1 h2 hx ha
    obtain ⟨n, rfl⟩ := Nat.exists_eq_succ_of_ne_zero (n := n) (by omega)
    rw [spec_l2Left.l4r_u]
    refine (cf (df (by omega))).trans ?_
    rw [List.drop_eq_nil_of_le (by omega)]
    simp [resL, unk, xrAll]
  | succ d ih =>
    intro i n x acc h1 h2 hx ha
    obtain ⟨n, rfl⟩ := Nat.exists_eq_succ_of_ne_zero (n := n) (by omega)
    have hi : i < l.length := by omega
    obtain ⟨k0, k1⟩ := hl l[i] (List.getElem_mem hi)
    have g : (decide (0 ≤ l[i]) && decide (l[i] < (kn.length : Int))) = true := by rw [hk.1]; simp; omega
    rw [spec_l2Left.l4r_u, Int.toNat_natCast, getD_at hi, w64_p1 i (by omega)]
    refine (ct (dt (by omega))).trans ((ct (gd hi)).trans ((ct g).trans ?_))
    cases hu : isUn kn l[i] with
    | true =>
      refine (ct hu).trans ((ct (gd hi)).trans ((ct (lim_le (by simp; omega))).trans ?_))
      rw [ih (i + 1) n x _ (by omega) (by omega) hx (by simp; omega), List.drop_eq_getElem_cons hi]
      unfold unk resL
      rw [List.filter_cons_of_pos (p := isUn kn) hu, List.filter_cons_of_neg (p := fun k => !isUn kn k) (by simp [hu]), List.append_assoc]
      rfl
    | false =>
      refine (cf hu).trans ((ct (gd hi)).trans ((ct g).trans ?_))
      have h4 := hk.get k0 k1 hu
      refine (spec_l2Xor.val _ _ hx h4 _).trans ?_
      rw [ih (i + 1) n _ acc (by omega) (by omega) (xr_four hx h4) (by omega), List.drop_eq_getElem_cons hi]
      unfold unk resL
      rw [List.filter_cons_of_neg (p := isUn kn) (by simp [hu]), List.filter_cons_of_pos (p := fun k => !isUn kn k) (by simp [hu])]
      rfl
theorem spec_l2Left.val {R : Type} (b : Nat) (kn : List ByteArray) (hk : KnOk b kn) (n : Int) (x : ByteArray) (hx : x.size = 4) (K : List Int → ByteArray → Option R) : spec_l2Left.c 4194304 (b : Int) n x kn K = K (unk kn (ofL b n)) (resL kn x (ofL b n)) := by
  have hl := (ofL_ok b n).2.2
  rw [spec_l2Left.u, (ofL_is (b : Int) n).spec]
  refine (spec_l2Left.l4r_val b kn hk (ofL b n) (ofL_in _ n) (by omega) (fun v w => K w v) (ofL b n).length 0 4194304 x [] (by omega) (by omega) hx (by simp; omega)).trans ?_
  rw [List.drop_zero, List.nil_append]
theorem spec_MixPeel.l5r_val {R : Type} (b : Nat) (hb : 1 ≤ b ∧ b ≤ 6) (l : List (Int × ByteArray)) (hl : l.length ≤ 2097152) (x2 : Bool → List ByteArray → Option R) : ∀ (d i n : Nat) (s : Bool × List ByteArray), i + d = l.length → d < n → KnOk b s.2 →
    spec_MixPeel.l5r (spec_MixPeel.g 4194304) 4194304 (b : Int) l x2 n s.1 (i : Int) s.2 = x2 (passP (ofL b) (l.drop i) s).1 (passP (ofL b) (l.drop i) s).2 := by
  intro d
  induction d with
  | zero =>
    intro i n s h1 h2 hk
    obtain ⟨n, rfl⟩ := Nat.exists_eq_succ_of_ne_zero (n := n) (by omega)
    rw [spec_MixPeel.l5r_u]
    refine (cf (df (by omega))).trans ?_
    rw [List.drop_eq_nil_of_le (by omega)]
    rfl
  | succ d ih =>
    intro i n s h1 h2 hk
    obtain ⟨n, rfl⟩ := Nat.exists_eq_succ_of_ne_zero (n := n) (by omega)
    have hi : i < l.length := by omega
    have hp : passP (ofL b) (l.drop i) s = passP (ofL b) (l.drop (i + 1)) (stepP (ofL b) s l[i]) := by rw [List.drop_eq_getElem_cons hi]; rfl
    have hst := (step_ok (ofL_ok b) hk l[i]).1
    have hrec := ih (i + 1) n (stepP (ofL b) s l[i]) (by omega) (by omega) hst
    rw [hp, ← hrec, spec_MixPeel.l5r_u, Int.toNat_natCast, getD_at hi, w64_p1 i (by omega)]
    refine (ct (dt (by omega))).trans ((ct (gd hi)).trans ?_)
    refine (spec_l2Mixed.val _ _ (by omega) _ _ _).trans ?_
    cases hr : inR l[i] with
    | false =>
      have e : stepP (ofL b) s l[i] = s := by unfold stepP; rw [hr]; rfl
      rw [e]
      exact ct rfl
    | true =>
      refine (cf rfl).trans ((ct (gd hi)).trans ?_)
      refine (spec_l2Left.val b s.2 hk _ _ (inR_iff.1 hr).2 _).trans ?_
      have e : stepP (ofL b) s l[i] = fire (ofL b) s l[i] (unk s.2 (ofL b l[i].1)) := by unfold stepP; rw [hr]; rfl
      rw [e]
      match hu : unk s.2 (ofL b l[i].1) with
      | [] => exact cf rfl
      | u :: v :: q => exact cf (df (by simp; omega))
      | [u] =>
        obtain ⟨g1, g2⟩ := unk_mem (show u ∈ unk s.2 (ofL b l[i].1) by rw [hu]; simp)
        obtain ⟨u0, u1⟩ := ofL_in _ _ u g1
        refine (ct rfl).trans ((ct rfl).trans ((ct ?_).trans ?_))
        · rw [List.getD_cons_zero, hk.1]; simp; omega
        · rw [List.getD_cons_zero]
          rfl
theorem spec_MixPeel.l10r_val {R : Type} (b : Nat) (hb : 1 ≤ b ∧ b ≤ 6) (l : List (Int × ByteArray)) (hl : l.length ≤ 2097152) (x0 : List ByteArray → Option R) : ∀ (f n : Nat) (kn : List ByteArray), cntU kn < f → f + 1 < n → KnOk b kn →
    spec_MixPeel.l10r (spec_MixPeel.g 4194304) 4194304 (b : Int) l x0 n true kn = x0 (peelN (ofL b) l f kn) := by
  intro f
  induction f with
  | zero => intro n kn h; omega
  | succ f ih =>
    intro n kn h h2 hk
    obtain ⟨n, rfl⟩ := Nat.exists_eq_succ_of_ne_zero (n := n) (by omega)
    obtain ⟨h3, h4⟩ := pass_ok (ofL_ok b) l (false, kn) hk
    rw [spec_MixPeel.l10r_u]
    refine (ct rfl).trans ?_
    refine (spec_MixPeel.l5r_val b hb l hl _ l.length 0 4194304 (false, kn) (by omega) (by omega) hk).trans ?_
    rw [List.drop_zero]
    unfold peelN
    cases hp : (passP (ofL b) l (false, kn)).1 with
    | false =>
      obtain ⟨n, rfl⟩ := Nat.exists_eq_succ_of_ne_zero (n := n) (by omega)
      rw [spec_MixPeel.l10r_u]
      exact (cf rfl).trans (by rw [cond_false])
    | true =>
      rw [cond_true]
      refine ih n _ ?_ (by omega) h3
      rcases h4 with h4 | ⟨_, h4⟩
      · rw [h4] at hp; cases hp
      · have : cntU (passP (ofL b) l (false, kn)).2 < cntU kn := h4
        omega
theorem spec_MixPeel.val {R : Type} (a : Int) (l : List (Int × ByteArray)) (hl : l.length ≤ 2097152) (K : List ByteArray → Option R) : spec_MixPeel.c 4194304 a l K = K (peelF a l) := by
  rw [spec_MixPeel.u, spec_l6In.val]
  by_cases h : 1 ≤ a ∧ a ≤ 6
  · obtain ⟨b, rfl⟩ := Int.eq_ofNat_of_zero_le (show 0 ≤ a by omega)
    rw [peelF_in (by omega), inB_yes h.1 h.2, Int.toNat_natCast]
    refine (cf rfl).trans ((ct (by rw [lim_le (by omega)]; simp)).trans ?_)
    exact spec_MixPeel.l10r_val b (by omega) l hl (fun w => K w) 8 4194304 (kn0 b) (by have := kn0_cnt b; omega) (by omega) (kn0_ok b)
  · unfold peelF
    rw [inB_no h]
    exact ct rfl
theorem impl_xored.l4r_val {R : Type} (b : List UInt8) (x : List Int → Option R) : ∀ (d i n : Nat) (p : List UInt8) (q : List UInt8), p.length = i → q.length = d → i + d ≤ 1000000 → i + d ≤ b.length → d < n →
    impl_xored.l4r (impl_xored.g 4194304) 4194304 (ba b) ((i + d : Nat) : Int) x n (i : Int) ((p ++ q).map fun c => ((c.toNat : Nat) : Int)) = x ((p ++ List.zipWith (fun u v => u ^^^ v) q (b.drop i)).map fun c => ((c.toNat : Nat) : Int)) := by
  intro d
  induction d with
  | zero =>
    intro i n p q hp hq hi hb hn
    obtain ⟨n, rfl⟩ := Nat.exists_eq_succ_of_ne_zero (n := n) (by omega)
    have := List.eq_nil_of_length_eq_zero hq
    subst this
    rw [impl_xored.l4r_u]
    refine (cf (df (by omega))).trans ?_
    simp
  | succ d ih =>
    intro i n p q hp hq hi hb hn
    obtain ⟨n, rfl⟩ := Nat.exists_eq_succ_of_ne_zero (n := n) (by omega)
    cases q with
    | nil => simp at hq
    | cons c q =>
      have hbi : i < b.length := by omega
      have hd : b.drop i = b[i] :: b.drop (i + 1) := List.drop_eq_getElem_cons hbi
      have hw : ((p ++ c :: q).map fun c => ((c.toNat : Nat) : Int)).length = i + (d + 1) := by simp at hq ⊢; omega
      have hg : ((p ++ c :: q).map fun c => ((c.toNat : Nat) : Int)).getD i 0 = ((c.toNat : Nat) : Int) := by
        rw [List.getD_eq_getElem?_getD, List.getElem?_map, List.getElem?_append_right (by omega), hp]
        simp
      have hbb : byteAt (ba b) i = ((b[i].toNat : Nat) : Int) := by rw [byteAt_tx, tx_ba, getD_at hbi]
      have hs : (ba b).size = b.length := ba_size b
      rw [impl_xored.l4r_u, w64_p1 i (by omega), Int.toNat_natCast, hg, hbb, w8_xor]
      refine (ct (dt (by omega))).trans ((ct (gd (by omega))).trans ((ct (gd (by omega))).trans ((ct (gd (by omega))).trans ?_)))
      have hset : ((p ++ c :: q).map fun c => ((c.toNat : Nat) : Int)).set i ((((c ^^^ b[i]).toNat : Nat)) : Int) = (((p ++ [c ^^^ b[i]]) ++ q).map fun c => ((c.toNat : Nat) : Int)) := by
        rw [List.map_append, List.set_append_right _ _ (by simp; omega)]
        simp [hp]
      rw [hset, show i + (d + 1) = i + 1 + d by omega]
      refine (ih (i + 1) n (p ++ [c ^^^ b[i]]) q (by simp; omega) (by simpa using hq) (by omega) (by omega) (by omega)).trans ?_
      rw [hd, List.zipWith_cons_cons]
      simp only [List.append_assoc, List.singleton_append]
theorem impl_xored.val {R : Type} (a b : ByteArray) (h : a.size ≤ b.size) (h1 : a.size ≤ 1000000) (K : ByteArray → Option R) : impl_xored.c 4194304 a b K = K (xr a b) := by
  rw [impl_xored.u]
  have := impl_xored.l4r_val (tx b) (fun w => K (ofBytes w)) (tx a).length 0 4194304 [] (tx a) rfl rfl (by rw [tx_length]; omega) (by rw [tx_length, tx_length]; omega) (by rw [tx_length]; omega)
  rw [List.nil_append, Nat.zero_add, ba_tx] at this
  rw [bytesOf_length, ← tx_length]
  refine this.trans ?_
  congr 1
  apply tx_inj
  rw [ofBytes_tx, tx_xr, List.drop_zero, List.nil_append, List.map_map]
  conv => rhs; rw [← List.map_id (List.zipWith _ _ _)]
  apply List.map_congr_left
  intro c _
  simp
theorem impl_MixPeel.l9r_val {R : Type} (p0 : Int) (p1 : Bool) (p2 p3 : Int) (ls : List (Int × ByteArray)) (b : Nat) (kn : List ByteArray) (hk : KnOk b kn) (l : List Int) (hl : ∀ k ∈ l, 0 ≤ k ∧ k < (b : Int)) (hn : l.length ≤ 100) (x4 : ByteArray → Int → Int → Option R) : ∀ (d i n : Nat) (x : ByteArray) (u : Int) (q : Nat), i + d = l.length → d < n → x.size = 4 → q + d ≤ 200 →
    impl_MixPeel.l9r (impl_MixPeel.g 4194304) 4194304 p0 p1 p2 p3 (l.length : Int) ls kn l x4 n x u (q : Int) (i : Int) = x4 (resL kn x (l.drop i)) (lastI u (unk kn (l.drop i))) ((q + (unk kn (l.drop i)).length : Nat) : Int) := by
  intro d
  induction d with
  | zero =>
    intro i n x u q h1 h2 hx ha
    obtain ⟨n, rfl⟩ := Nat.exists_eq_succ_of_ne_zero (n := n) (by omega)
    rw [impl_MixPeel.l9r_u]
    refine (cf (df (by omega))).trans ?_
    rw [List.drop_eq_nil_of_le (by omega)]
    simp [resL, unk, xrAll, lastI]
  | succ d ih =>
    intro i n x u q h1 h2 hx ha
    obtain ⟨n, rfl⟩ := Nat.exists_eq_succ_of_ne_zero (n := n) (by omega)
    have hi : i < l.length := by omega
    obtain ⟨k0, k1⟩ := hl l[i] (List.getElem_mem hi)
    have g : (decide (0 ≤ l[i]) && decide (l[i] < (kn.length : Int))) = true := by rw [hk.1]; simp; omega
    rw [impl_MixPeel.l9r_u, Int.toNat_natCast, getD_at hi, w64_p1 i (by omega), w64_p1 q (by omega)]
    refine (ct (dt (by omega))).trans ((ct (gd hi)).trans ((ct g).trans ?_))
    cases hu : isUn kn l[i] with
    | true =>
      refine (ct hu).trans ?_
      rw [ih (i + 1) n x l[i] (q + 1) (by omega) (by omega) hx (by omega), List.drop_eq_getElem_cons hi]
      unfold unk resL
      rw [List.filter_cons_of_pos (p := isUn kn) hu, List.filter_cons_of_neg (p := fun k => !isUn kn k) (by simp [hu]), List.length_cons, show q + 1 + (List.filter (isUn kn) (List.drop (i + 1) l)).length = q + ((List.filter (isUn kn) (List.drop (i + 1) l)).length + 1) by omega]
      rfl
    | false =>
      refine (cf hu).trans ((ct g).trans ?_)
      have h4 := hk.get k0 k1 hu
      refine (impl_xored.val _ _ (by omega) (by omega) _).trans ?_
      rw [ih (i + 1) n _ u q (by omega) (by omega) (xr_four hx h4) (by omega), List.drop_eq_getElem_cons hi]
      unfold unk resL
      rw [List.filter_cons_of_neg (p := isUn kn) (by simp [hu]), List.filter_cons_of_pos (p := fun k => !isUn kn k) (by simp [hu])]
      rfl
theorem impl_MixPeel.l19r_val {R : Type} (b : Nat) (hb : 1 ≤ b ∧ b ≤ 6) (l : List (Int × ByteArray)) (hl : l.length ≤ 2097152) (x2 : Bool → List ByteArray → Option R) : ∀ (d i n : Nat) (s : Bool × List ByteArray), i + d = l.length → d < n → KnOk b s.2 →
    impl_MixPeel.l19r (impl_MixPeel.g 4194304) 4194304 (b : Int) (l.length : Int) l x2 n s.1 (i : Int) s.2 = x2 (passP (ofL b) (l.drop i) s).1 (passP (ofL b) (l.drop i) s).2 := by
  intro d
  induction d with
  | zero =>
    intro i n s h1 h2 hk
    obtain ⟨n, rfl⟩ := Nat.exists_eq_succ_of_ne_zero (n := n) (by omega)
    rw [impl_MixPeel.l19r_u]
    refine (cf (df (by omega))).trans ?_
    rw [List.drop_eq_nil_of_le (by omega)]
    rfl
  | succ d ih =>
    intro i n s h1 h2 hk
    obtain ⟨n, rfl⟩ := Nat.exists_eq_succ_of_ne_zero (n := n) (by omega)
    have hi : i < l.length := by omega
    have hp : passP (ofL b) (l.drop i) s = passP (ofL b) (l.drop (i + 1)) (stepP (ofL b) s l[i]) := by rw [List.drop_eq_getElem_cons hi]; rfl
    have hst := (step_ok (ofL_ok b) hk l[i]).1
    have hrec := ih (i + 1) n (stepP (ofL b) s l[i]) (by omega) (by omega) hst
    rw [hp, ← hrec, impl_MixPeel.l19r_u, Int.toNat_natCast, getD_at hi]
    refine (ct (dt (by omega))).trans ((ct (gd hi)).trans ?_)
    refine (impl_in.val _ _ _ _ _).trans ?_
    have hin : inR l[i] = (inB l[i].1 0 999 && decide ((l[i].2.size : Int) = 4)) := rfl
    cases hr1 : inB l[i].1 0 999 with
    | false =>
      have e : stepP (ofL b) s l[i] = s := by unfold stepP; rw [hin, hr1]; rfl
      rw [e]
      refine (ct rfl).trans ?_
      rw [impl_MixPeel.s16_u, w64_p1 i (by omega)]
    | true =>
      refine (cf rfl).trans ?_
      cases hr2 : decide ((l[i].2.size : Int) = 4) with
      | false =>
        have e : stepP (ofL b) s l[i] = s := by unfold stepP; rw [hin, hr1, hr2]; rfl
        rw [e]
        refine (ct (by rw [hr2]; rfl)).trans ?_
        rw [impl_MixPeel.s16_u, w64_p1 i (by omega)]
      | true =>
        have hr : inR l[i] = true := by rw [hin, hr1, hr2]; rfl
        refine (cf (by rw [hr2]; rfl)).trans ?_
        simp only []
        rw [(ofL_is (b : Int) l[i].1).impl]
        have hlen := (ofL_ok b l[i].1).2.2
        refine (impl_MixPeel.l9r_val _ _ _ _ l b s.2 hk (ofL b l[i].1) (ofL_in _ _) (by omega) _ (ofL b l[i].1).length 0 4194304 l[i].2 (-1) 0 (by omega) (by omega) (inR_iff.1 hr).2 (by omega)).trans ?_
        rw [List.drop_zero, Nat.zero_add]
        have e : stepP (ofL b) s l[i] = fire (ofL b) s l[i] (unk s.2 (ofL b l[i].1)) := by unfold stepP; rw [hr]; rfl
        rw [e]
        match hu : unk s.2 (ofL b l[i].1) with
        | [] =>
          refine (cf rfl).trans ?_
          rw [impl_MixPeel.s16_u, w64_p1 i (by omega)]
          rfl
        | u :: v :: q =>
          refine (cf (df (by simp; omega))).trans ?_
          rw [impl_MixPeel.s16_u, w64_p1 i (by omega)]
          rfl
        | [u] =>
          obtain ⟨g1, g2⟩ := unk_mem (show u ∈ unk s.2 (ofL b l[i].1) by rw [hu]; simp)
          obtain ⟨u0, u1⟩ := ofL_in _ _ u g1
          refine (ct rfl).trans ((ct ?_).trans ?_)
          · show (decide (0 ≤ u) && decide (u < (s.2.length : Int))) = true
            rw [hk.1]; simp; omega
          · rw [impl_MixPeel.s16_u, w64_p1 i (by omega)]
            rfl
theorem impl_MixPeel.l24r_val {R : Type} (b : Nat) (hb : 1 ≤ b ∧ b ≤ 6) (l : List (Int × ByteArray)) (hl : l.length ≤ 2097152) (x0 : List ByteArray → Option R) : ∀ (f n : Nat) (kn : List ByteArray), cntU kn < f → f + 1 < n → KnOk b kn →
    impl_MixPeel.l24r (impl_MixPeel.g 4194304) 4194304 (b : Int) l x0 n true kn = x0 (peelN (ofL b) l f kn) := by
  intro f
  induction f with
  | zero => intro n kn h; omega
  | succ f ih =>
    intro n kn h h2 hk
    obtain ⟨n, rfl⟩ := Nat.exists_eq_succ_of_ne_zero (n := n) (by omega)
    obtain ⟨h3, h4⟩ := pass_ok (ofL_ok b) l (false, kn) hk
    rw [impl_MixPeel.l24r_u]
    refine (ct rfl).trans ?_
    refine (impl_MixPeel.l19r_val b hb l hl _ l.length 0 4194304 (false, kn) (by omega) (by omega) hk).trans ?_
    rw [List.drop_zero]
    unfold peelN
    cases hp : (passP (ofL b) l (false, kn)).1 with
    | false =>
      obtain ⟨n, rfl⟩ := Nat.exists_eq_succ_of_ne_zero (n := n) (by omega)
      rw [impl_MixPeel.l24r_u]
      exact (cf rfl).trans (by rw [cond_false])
    | true =>
      rw [cond_true]
      refine ih n _ ?_ (by omega) h3
      rcases h4 with h4 | ⟨_, h4⟩
      · rw [h4] at hp; cases hp
      · have : cntU (passP (ofL b) l (false, kn)).2 < cntU kn := h4
        omega
theorem impl_MixPeel.val {R : Type} (a : Int) (l : List (Int × ByteArray)) (hl : l.length ≤ 2097152) (K : List ByteArray → Option R) : impl_MixPeel.c 4194304 a l K = K (peelF a l) := by
  rw [impl_MixPeel.u, impl_in.val]
  by_cases h : 1 ≤ a ∧ a ≤ 6
  · obtain ⟨b, rfl⟩ := Int.eq_ofNat_of_zero_le (show 0 ≤ a by omega)
    rw [peelF_in (by omega), inB_yes h.1 h.2, Int.toNat_natCast]
    refine (cf rfl).trans ((ct (by rw [lim_le (by omega)]; simp)).trans ?_)
    exact impl_MixPeel.l24r_val b (by omega) l hl (fun w => K w) 8 4194304 (kn0 b) (by have := kn0_cnt b; omega) (by omega) (kn0_ok b)
  · unfold peelF
    rw [inB_no h]
    exact ct rfl
def laws_markMixedS.mk (p : Nat) : Int × ByteArray := ((p : Int), mkT (p + 1))
theorem laws_markMixedS.val {R : Type} (a : List (Int × ByteArray)) (m : Nat) (h : a.length ≤ 2097152) (hm : m ≤ 1099511627776) (K : Int → List (Int × ByteArray) → Option R) : laws_markMixedS.c 4194304 a (m : Int) K = K ((m + 2 * a.length : Nat) : Int) (mks laws_markMixedS.mk 2 m a.length) := by
  rw [laws_markMixedS.u]
  exact mark_loop laws_markMixedS.mk 2 a.length 2199023255552 (fun v w => K v w) (fun n v i w => laws_markMixedS.l4r (laws_markMixedS.g 4194304) 4194304 (fun v w => K v w) n v i w) (fun n m i w hw hi hb => by
      rw [laws_markMixedS.l4r_u]
      refine (ct (dt (by omega))).trans ?_
      simp only [Int.toNat_natCast, w64_p1 i (show i < 4611686018427387904 by omega), w64_p1 m (show m < 4611686018427387904 by omega), w64_p1 (m + 1) (show m + 1 < 4611686018427387904 by omega)]
      refine (ct (gd (by first | omega | (simp only [List.length_set]; omega)))).trans ?_
      refine (laws_markText.val (m + 1) (by omega) _).trans ?_
      refine (ct (gd (by first | omega | (simp only [List.length_set]; omega)))).trans ?_
      congr 1
      apply List.ext_getElem?
      intro j
      simp only [List.getElem?_set, List.length_set]
      split
      · rename_i e
        subst e
        have hi' : i < w.length := by omega
        simp [List.getD_eq_getElem?_getD, hi', List.getElem?_set, laws_markMixedS.mk]
        try omega
      · rfl
      try rfl) (fun n m w hw => by
      rw [laws_markMixedS.l4r_u]
      exact cf (df (by omega))) 4194304 m a (by omega) rfl (by omega)
theorem laws_FnExactMixPeel.law {R : Type} (a : Int) (l : List (Int × ByteArray)) (_ha : -9223372036854775808 ≤ a ∧ a ≤ 9223372036854775807) (hl : (l.length : Int) ≤ 9223372036854775807) (hs' : ∀ m ∈ l, (-9223372036854775808 ≤ m.1 ∧ m.1 ≤ 9223372036854775807) ∧ (m.2.size : Int) ≤ 9223372036854775807) (K : Bool → Option R) : laws_FnExactMixPeel.c 4194304 a l K = K true := by
  have hs : ∀ m ∈ l, (m.2.size : Int) ≤ 9223372036854775807 := fun m hm => (hs' m hm).2
  obtain ⟨r, h1, h2⟩ := laws_szMixedS.tot l hl hs
  rw [laws_FnExactMixPeel.u, h2]
  by_cases h0 : r < 0
  · exact ct (dt h0)
  · have h1 := h1 (by omega)
    have h6 := peelF_len a l
    refine (cf (df h0)).trans ?_
    rw [laws_toMixedS.val l (by omega), spec_MixPeel.val _ _ (by omega), laws_toMixedS.val l (by omega), impl_MixPeel.val _ _ (by omega), laws_eqStringS.val _ _ (by omega)]
    refine (cf (by simp)).trans ?_
    rw [laws_toMixedS.val l (by omega), laws_eqMixedS.val _ _ (by omega)]
    refine (cf (by simp)).trans ?_
    refine (laws_markMixedS.val l 1 (by omega) (by omega) _).trans ?_
    refine (cf (df (by omega))).trans ?_
    rw [laws_eqStringS.val _ _ (by omega)]
    refine (cf (by simp)).trans ?_
    refine (laws_markStringS.val (peelF a l) 1 (by omega) (by omega) _).trans ?_
    refine (laws_heldStringS.val (peelF a l).length 1 (by omega) (by omega) _).trans ?_
    refine (cf (df (by omega))).trans ((cf (by simp)).trans ?_)
    rw [laws_toMixedS.val l (by omega), impl_MixPeel.val _ _ (by omega), laws_eqStringS.val _ _ (by omega)]
    refine (cf (by simp)).trans ?_
    refine (laws_heldStringS.val (peelF a l).length 1 (by omega) (by omega) _).trans ?_
    exact (cf (df (by omega))).trans (cf (by simp))
end Go.Ev.F
