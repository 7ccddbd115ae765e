/- More words for mixed blocks: plain facts, with no Go in sight. No condition beyond those that stand in each. -/
import Derived.Test.YtpdemmdladcamaaPur
namespace Go.Ev
set_option linter.unusedVariables false
set_option linter.unusedSimpArgs false
theorem getD_xr {a b : ByteArray} (ha : a.size = 4) (hb : b.size = 4) (i : Nat) : (tx (xr a b)).getD i 0 = (tx a).getD i 0 ^^^ (tx b).getD i 0 := by
  obtain ⟨a0, a1, a2, a3, rfl⟩ := four ha
  obtain ⟨b0, b1, b2, b3, rfl⟩ := four hb
  simp only [tx_xr, tx_ba, List.zipWith_cons_cons, List.zipWith_nil_left]
  match i with
  | 0 => rfl
  | 1 => rfl
  | 2 => rfl
  | 3 => rfl
  | i + 4 => simp
/-- One byte of all of these. -/
def bx (bs : List ByteArray) (i : Nat) : List Int → UInt8
  | [] => 0
  | k :: l => (tx (bs.getD k.toNat ByteArray.empty)).getD i 0 ^^^ bx bs i l
theorem xrAll_byte {bs : List ByteArray} (h : ∀ b ∈ bs, b.size = 4) (i : Nat) : ∀ (l : List Int) (y : ByteArray), y.size = 4 → (∀ k ∈ l, 0 ≤ k ∧ k < (bs.length : Int)) → (tx (xrAll bs y l)).getD i 0 = (tx y).getD i 0 ^^^ bx bs i l
  | [], y, _, _ => by simp [xrAll, bx]
  | k :: l, y, hy, hl => by
    have hk := getD_four h (hl k (by simp)).1 (hl k (by simp)).2
    show (tx (xrAll bs (xr y (bs.getD k.toNat ByteArray.empty)) l)).getD i 0 = _
    rw [xrAll_byte h i l _ (xr_four hy hk) (fun z hz => hl z (by simp [hz])), getD_xr hy hk, UInt8.xor_assoc]
    rfl
theorem xrAll_congr {bs cs : List ByteArray} : ∀ (l : List Int) (y : ByteArray), (∀ k ∈ l, bs.getD k.toNat ByteArray.empty = cs.getD k.toNat ByteArray.empty) → xrAll bs y l = xrAll cs y l
  | [], y, _ => rfl
  | k :: l, y, h => by
    show xrAll bs (xr y (bs.getD k.toNat ByteArray.empty)) l = xrAll cs (xr y (cs.getD k.toNat ByteArray.empty)) l
    rw [h k (by simp)]
    exact xrAll_congr l _ fun z hz => h z (by simp [hz])
theorem mixD_congr {bs cs : List ByteArray} {l : List Int} (h : ∀ k ∈ l, bs.getD k.toNat ByteArray.empty = cs.getD k.toNat ByteArray.empty) : mixD bs l = mixD cs l := by
  cases l with
  | nil => rfl
  | cons k l =>
    show xrAll bs (bs.getD k.toNat ByteArray.empty) l = xrAll cs (cs.getD k.toNat ByteArray.empty) l
    rw [h k (by simp)]
    exact xrAll_congr l _ fun z hz => h z (by simp [hz])
theorem bx_same {bs cs : List ByteArray} (i : Nat) : ∀ (l : List Int), (∀ k ∈ l, (tx (bs.getD k.toNat ByteArray.empty)).getD i 0 = (tx (cs.getD k.toNat ByteArray.empty)).getD i 0) → bx bs i l = bx cs i l
  | [], _ => rfl
  | k :: l, h => by
    unfold bx
    rw [h k (by simp), bx_same i l fun z hz => h z (by simp [hz])]
theorem bx_one {bs cs : List ByteArray} (i : Nat) (q : Int) (c : UInt8) (hq : (tx (cs.getD q.toNat ByteArray.empty)).getD i 0 = (tx (bs.getD q.toNat ByteArray.empty)).getD i 0 ^^^ c) (ho : ∀ k : Int, 0 ≤ k → k ≠ q → cs.getD k.toNat ByteArray.empty = bs.getD k.toNat ByteArray.empty) :
    ∀ (l : List Int), l.Nodup → (∀ k ∈ l, 0 ≤ k) → q ∈ l → bx cs i l = bx bs i l ^^^ c
  | [], _, _, h => by cases h
  | k :: l, hn, h0, h => by
    rw [List.nodup_cons] at hn
    unfold bx
    by_cases hk : k = q
    · subst hk
      rw [hq, bx_same (bs := cs) (cs := bs) i l fun z hz => by rw [ho z (h0 z (by simp [hz])) (fun e => by subst e; exact hn.1 hz)]]
      rw [UInt8.xor_assoc, UInt8.xor_comm c, ← UInt8.xor_assoc]
    · have hl : q ∈ l := by
        rcases List.mem_cons.1 h with e | e
        · exact absurd e.symm hk
        · exact e
      rw [ho k (h0 k (by simp)) hk, bx_one i q c hq ho l hn.2 (fun z hz => h0 z (by simp [hz])) hl, UInt8.xor_assoc]
theorem xor_ne {a c : UInt8} (h : c ≠ 0) : a ^^^ c ≠ a := by
  intro e
  apply h
  have : a ^^^ (a ^^^ c) = a ^^^ a := by rw [e]
  rw [← UInt8.xor_assoc, UInt8.xor_self, UInt8.zero_xor] at this
  exact this
end Go.Ev
