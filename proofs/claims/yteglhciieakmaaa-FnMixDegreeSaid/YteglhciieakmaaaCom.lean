/- Plain words for the proofs of this seat: numbers, bytes, lists, rounds. No condition. -/
import Derived.Test.YteglhciieakmaaaWMore
import Derived.Laws.BitsLemmas
namespace Go.Proofs.Yteglhciieakmaaa.Com
open Go.RowKit Go.Proofs.YteglhciieakmaaaW.PrintWords Go.Proofs.YteglhciieakmaaaW.PrintLast
set_option linter.unusedVariables false
set_option linter.unusedSimpArgs false
theorem wrap64_id {x : Int} (h0 : -9223372036854775808 ≤ x) (h1 : x ≤ 9223372036854775807) : wrap64 x = x := by
  unfold wrap64; omega
/-- a ≤ x ≤ b, as a Bool. -/
def inB (x a b : Int) : Bool := decide (a ≤ x) && decide (x ≤ b)
theorem inB_iff {x a b : Int} : inB x a b = true ↔ a ≤ x ∧ x ≤ b := by simp [inB]
theorem inB_yes {x a b : Int} (h0 : a ≤ x) (h1 : x ≤ b) : inB x a b = true := inB_iff.2 ⟨h0, h1⟩
theorem inB_no {x a b : Int} (h : ¬ (a ≤ x ∧ x ≤ b)) : inB x a b = false := by
  cases e : inB x a b with
  | false => rfl
  | true => exact absurd (inB_iff.1 e) h
/-- The next pseudorandom number. -/
def rnd (x : Int) : Int := if 0 ≤ x ∧ x ≤ 65535 then (x * 25173 + 13849) % 65536 else 0
theorem rnd_range (x : Int) : 0 ≤ rnd x ∧ rnd x ≤ 65535 := by
  unfold rnd; split <;> omega
theorem rnd_inj {x y : Int} (hx : 0 ≤ x ∧ x ≤ 65535) (hy : 0 ≤ y ∧ y ≤ 65535) : rnd x = rnd y ↔ x = y := by
  unfold rnd
  rw [if_pos hx, if_pos hy]
  omega
/-- The neighbor of a node on the way to another one. -/
def nxt (a b : Int) : Int := if (0 ≤ a ∧ a ≤ 3) ∧ (0 ≤ b ∧ b ≤ 3) ∧ a ≠ b then (if a < b then a + 1 else a - 1) else -1
theorem nxt_back {a b : Int} (h : 0 ≤ nxt a b) : nxt (nxt a b) a = a ∧ nxt b a ≠ -1 := by
  by_cases hc : (0 ≤ a ∧ a ≤ 3) ∧ (0 ≤ b ∧ b ≤ 3) ∧ a ≠ b
  · obtain ⟨⟨a0, a1⟩, ⟨b0, b1⟩, hne⟩ := hc
    have ha : a = 0 ∨ a = 1 ∨ a = 2 ∨ a = 3 := by omega
    have hb : b = 0 ∨ b = 1 ∨ b = 2 ∨ b = 3 := by omega
    rcases ha with rfl | rfl | rfl | rfl <;> rcases hb with rfl | rfl | rfl | rfl <;> first | exact absurd rfl hne | decide
  · exfalso
    unfold nxt at h
    rw [if_neg hc] at h
    omega
theorem nxt_none {a b : Int} (h : ¬ ((0 ≤ a ∧ a ≤ 3) ∧ (0 ≤ b ∧ b ≤ 3) ∧ a ≠ b)) : nxt a b = -1 := by
  unfold nxt; rw [if_neg h]
/-! ### bytes of a text -/
theorem bt_drop {t : ByteArray} {i : Nat} (h : i < t.size) : ∃ c : UInt8, t.data.toList.drop i = c :: t.data.toList.drop (i + 1) ∧ bt t (i : Int) = (c.toNat : Int) := by
  have hl : i < t.data.toList.length := by rw [Array.length_toList]; exact h
  refine ⟨t.data.toList[i], List.drop_eq_getElem_cons hl, ?_⟩
  unfold bt
  have h' : (i : Int).toNat < t.size := by simpa using h
  rw [dif_pos h']
  simp only [Int.toNat_natCast]
  rfl
theorem drop_end {t : ByteArray} {i : Nat} (h : t.size ≤ i) : t.data.toList.drop i = [] := List.drop_eq_nil_of_le (by rw [Array.length_toList]; exact h)
/-- The bytes that a message's text may hold. -/
def chOk (c : UInt8) : Bool := decide (32 ≤ c.toNat) && decide (c.toNat ≤ 126)
/-- A message's text. -/
def txOk (t : ByteArray) : Bool := inB (t.size : Int) 1 24 && t.data.toList.all chOk
/-- A message. -/
def ntOk (fr nu dst un : Int) (t : ByteArray) : Bool := inB fr 0 3 && inB dst 0 3 && inB nu 1 99 && inB un 1 999 && txOk t
/-- Numbers of one byte. -/
def Byt (l : List Int) : Prop := ∀ x ∈ l, 0 ≤ x ∧ x ≤ 255
theorem byt_of_wf {l : List Int} (h : ∀ x ∈ l, (Lit.int .u8 x).wf = true) : Byt l := by
  intro x hx
  have := h x hx
  simp [Lit.wf, IntKind.min, IntKind.max, IntKind.signed, IntKind.bits] at this
  omega
theorem byt_take {l : List Int} (h : Byt l) (n : Nat) : Byt (l.take n) := fun x hx => h x (List.mem_of_mem_take hx)
theorem rd_byt {l : List Int} (h : Byt l) (i : Int) : 0 ≤ rd l i ∧ rd l i ≤ 255 := by
  unfold rd
  rw [List.getD_eq_getElem?_getD]
  cases e : l[i.toNat]? with
  | none => simp
  | some v => exact h v (List.mem_of_getElem? e)
theorem i64_of_wf {x : Int} (h : (Lit.int .i64 x).wf = true) : -9223372036854775808 ≤ x ∧ x ≤ 9223372036854775807 := by
  simp [Lit.wf, IntKind.min, IntKind.max, IntKind.signed, IntKind.bits] at h
  omega
theorem wrap64_range (x : Int) : -9223372036854775808 ≤ wrap64 x ∧ wrap64 x ≤ 9223372036854775807 := by
  unfold wrap64; omega
theorem xor_nonneg (x y : Int) (hx : 0 ≤ x) (hx1 : x < 4611686018427387904) (hy : 0 ≤ y) (hy1 : y < 4611686018427387904) : 0 ≤ Go.bits .xor .i64 x y ∧ Go.bits .xor .i64 x y < 4611686018427387904 := by
  obtain ⟨a, rfl⟩ := Int.eq_ofNat_of_zero_le hx
  obtain ⟨b, rfl⟩ := Int.eq_ofNat_of_zero_le hy
  have ha : a < 2 ^ 62 := by omega
  have hb : b < 2 ^ 62 := by omega
  have ha' : a % 2 ^ IntKind.i64.bits = a := Nat.mod_eq_of_lt (by show a < 2 ^ 64; omega)
  have hb' : b % 2 ^ IntKind.i64.bits = b := Nat.mod_eq_of_lt (by show b < 2 ^ 64; omega)
  have hc : a ^^^ b < 2 ^ 62 := Nat.xor_lt_two_pow ha hb
  have he : Go.bits .xor .i64 (a : Int) (b : Int) = ((a ^^^ b : Nat) : Int) := by
    simp only [Go.bits, BitVec.ofInt_natCast, BitVec.toNat_xor, BitVec.toNat_ofNat, ha', hb']
    rw [IntKind.wrap_i64]
    omega
  rw [he]
  omega
theorem ev_const {α : Type} {o : Option α} {r : α} (h : o = some r) : Ev (fun _ => o) r := ⟨0, fun _ _ => h⟩
theorem ev_bind0 {α β : Type} {o : Option α} {f : Nat → α → Option β} {a : α} {r : β} (h : o = some a) (k : Ev (fun n => f n a) r) : Ev (fun n => o.bind (f n)) r := by
  subst h; exact k
theorem ev_if {α : Type} {c : Prop} [Decidable c] {f g : Nat → Option α} {r : α} (h : c) (k : Ev f r) : Ev (fun n => if c then f n else g n) r := by
  simpa only [if_pos h] using k
theorem ev_else {α : Type} {c : Prop} [Decidable c] {f g : Nat → Option α} {r : α} (h : ¬ c) (k : Ev g r) : Ev (fun n => if c then f n else g n) r := by
  simpa only [if_neg h] using k
end Go.Proofs.Yteglhciieakmaaa.Com
