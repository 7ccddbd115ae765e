/- Words for numbers, texts, lists, decimals, records and logs: plain facts, with no Go in sight. No condition beyond those that stand in each. -/
import Derived.Test.YtidmkpeokahjoaaDoorEv
import Derived.Laws.Sem
import Derived.Laws.BitsLemmas
namespace Go.Ev
set_option linter.unusedVariables false
set_option linter.unusedSimpArgs false
/-! ### 64 bits -/
def w64 (x : Int) : Int := IntKind.wrap .i64 x
theorem w64_id {x : Int} (h0 : -9223372036854775808 ≤ x) (h1 : x ≤ 9223372036854775807) : w64 x = x := by
  unfold w64
  rw [IntKind.wrap_i64]
  omega
theorem w64_nat (n : Nat) (h : n < 9223372036854775808) : w64 (n : Int) = (n : Int) := w64_id (by omega) (by omega)
theorem w64_p1 (a : Nat) (h : a < 4611686018427387904) : w64 ((a : Int) + 1) = ((a + 1 : Nat) : Int) := w64_id (x := (a : Int) + 1) (by omega) (by omega)
theorem w64_p2 (a : Nat) (h : a < 4611686018427387904) : w64 ((a : Int) + 2) = ((a + 2 : Nat) : Int) := w64_id (x := (a : Int) + 2) (by omega) (by omega)
theorem w64_pn (a n : Nat) (h : a + n < 9223372036854775808) : w64 ((a : Int) + (n : Int)) = ((a + n : Nat) : Int) := w64_id (x := (a : Int) + (n : Int)) (by omega) (by omega)
theorem w64_range (x : Int) : -9223372036854775808 ≤ w64 x ∧ w64 x ≤ 9223372036854775807 := by
  unfold w64
  rw [IntKind.wrap_i64]
  omega
def w8 (x : Int) : Int := IntKind.wrap .u8 x
theorem w8_id {x : Int} (h0 : 0 ≤ x) (h1 : x ≤ 255) : w8 x = x := by
  unfold w8
  rw [IntKind.wrap_u8]
  omega
theorem w8_mod (x : Int) : w8 x = x % 256 := by
  unfold w8
  rw [IntKind.wrap_u8]
attribute [irreducible] w64 w8
/-! ### steps -/
theorem ct {α : Type} {c : Bool} {a b : α} (h : c = true) : cond c a b = a := by rw [h]; rfl
theorem cf {α : Type} {c : Bool} {a b : α} (h : c = false) : cond c a b = b := by rw [h]; rfl
theorem dt' {p : Prop} [Decidable p] (h : p) : decide p = true := decide_eq_true h
theorem df' {p : Prop} [Decidable p] (h : ¬ p) : decide p = false := decide_eq_false h
theorem cond_bind {α β : Type} (c : Bool) (a b : Option α) (f : α → Option β) : (cond c a b).bind f = cond c (a.bind f) (b.bind f) := by cases c <;> rfl
theorem nc0 {α : Type} {p : Prop} [Decidable p] {K : Bool → α} : cond (!decide p) (K false) (K true) = K (decide p) := by cases decide p <;> rfl
theorem nc {α : Type} {p q : Prop} [Decidable p] [Decidable q] {K : Bool → α} : cond (!decide p) (K false) (K (decide q)) = K (decide (p ∧ q)) := by
  by_cases hp : p
  · rw [dt' hp, show decide (p ∧ q) = decide q from decide_eq_decide.2 (by simp [hp])]; rfl
  · rw [df' hp, df' (show ¬ (p ∧ q) from fun h => hp h.1)]; rfl
theorem gd {i n : Nat} (h : i < n) : (decide (0 ≤ (i : Int)) && decide ((i : Int) < (n : Int))) = true := by
  simp; omega
theorem dt {p : Prop} [Decidable p] (h : p) : decide p = true := decide_eq_true h
theorem df {p : Prop} [Decidable p] (h : ¬ p) : decide p = false := decide_eq_false h
theorem nz {n : Nat} (h : n ≠ 0) : (!decide ((n : Int) = 0)) = true := by simp [h]
theorem lim_le {n : Nat} (h : n ≤ 1099511627776) : Nat.ble n lim = true := Nat.ble_eq_true_of_le h
/-- a ≤ x ≤ b, as a Bool. -/
def inB (x a b : Int) : Bool := decide (a ≤ x) && decide (x ≤ b)
theorem inB_iff {x a b : Int} : inB x a b = true ↔ a ≤ x ∧ x ≤ b := by simp [inB]
theorem inB_yes {x a b : Int} (h0 : a ≤ x) (h1 : x ≤ b) : inB x a b = true := inB_iff.2 ⟨h0, h1⟩
theorem inB_no {x a b : Int} (h : ¬ (a ≤ x ∧ x ≤ b)) : inB x a b = false := by
  cases e : inB x a b with
  | false => rfl
  | true => exact absurd (inB_iff.1 e) h
/-- The next pseudorandom number. -/
def rnd (x : Int) : Int := if 0 ≤ x ∧ x ≤ 65535 then (x * 25173 + 13849) % 65536 else 0
theorem rnd_range (x : Int) : 0 ≤ rnd x ∧ rnd x ≤ 65535 := by
  unfold rnd; split <;> omega
theorem rnd_inj {x y : Int} (hx : 0 ≤ x ∧ x ≤ 65535) (hy : 0 ≤ y ∧ y ≤ 65535) : rnd x = rnd y ↔ x = y := by
  unfold rnd
  rw [if_pos hx, if_pos hy]
  omega
/-- The neighbor of a node on the way to another one. -/
def nxt (a b : Int) : Int := if (0 ≤ a ∧ a ≤ 3) ∧ (0 ≤ b ∧ b ≤ 3) ∧ a ≠ b then (if a < b then a + 1 else a - 1) else -1
theorem nxt_back {a b : Int} (h : 0 ≤ nxt a b) : nxt (nxt a b) a = a ∧ nxt b a ≠ -1 := by
  by_cases hc : (0 ≤ a ∧ a ≤ 3) ∧ (0 ≤ b ∧ b ≤ 3) ∧ a ≠ b
  · obtain ⟨⟨a0, a1⟩, ⟨b0, b1⟩, hne⟩ := hc
    have ha : a = 0 ∨ a = 1 ∨ a = 2 ∨ a = 3 := by omega
    have hb : b = 0 ∨ b = 1 ∨ b = 2 ∨ b = 3 := by omega
    rcases ha with rfl | rfl | rfl | rfl <;> rcases hb with rfl | rfl | rfl | rfl <;> first | exact absurd rfl hne | decide
  · exfalso
    unfold nxt at h
    rw [if_neg hc] at h
    omega
theorem nxt_none {a b : Int} (h : ¬ ((0 ≤ a ∧ a ≤ 3) ∧ (0 ≤ b ∧ b ≤ 3) ∧ a ≠ b)) : nxt a b = -1 := by
  unfold nxt; rw [if_neg h]
theorem mix_out {b n : Int} (h : ¬ ((1 ≤ b ∧ b ≤ 6) ∧ (0 ≤ n ∧ n ≤ 999))) : (!(inB b 1 6 && inB n 0 999)) = true := by
  by_cases h1 : 1 ≤ b ∧ b ≤ 6
  · rw [inB_yes h1.1 h1.2, inB_no (x := n) (fun h2 => h ⟨h1, h2⟩)]; rfl
  · rw [inB_no h1]; rfl
theorem drop_end {t : ByteArray} {i : Nat} (h : t.size ≤ i) : t.data.toList.drop i = [] := List.drop_eq_nil_of_le (by rw [Array.length_toList]; exact h)
/-- The bytes that a message's text may hold. -/
def chOk (c : UInt8) : Bool := decide (32 ≤ c.toNat) && decide (c.toNat ≤ 126)
/-- A message's text. -/
def txOk (t : ByteArray) : Bool := inB (t.size : Int) 1 24 && t.data.toList.all chOk
/-- A message. -/
def ntOk (fr nu dst un : Int) (t : ByteArray) : Bool := inB fr 0 3 && inB dst 0 3 && inB nu 1 99 && inB un 1 999 && txOk t
/-- Numbers of one byte. -/
def Byt (l : List Int) : Prop := ∀ x ∈ l, 0 ≤ x ∧ x ≤ 255
theorem byt_take {l : List Int} (h : Byt l) (n : Nat) : Byt (l.take n) := fun x hx => h x (List.mem_of_mem_take hx)
theorem tdivN (n d : Nat) : Int.tdiv (n : Int) (d : Int) = ((n / d : Nat) : Int) := by rw [Int.tdiv_eq_ediv_of_nonneg (by omega)]; rfl
theorem tmodN (n d : Nat) : Int.tmod (n : Int) (d : Int) = ((n % d : Nat) : Int) := by rw [Int.tmod_eq_emod_of_nonneg (by omega)]; rfl
theorem byt_get {l : List Int} (h : Byt l) (i : Nat) : 0 ≤ l.getD i 0 ∧ l.getD i 0 ≤ 255 := by
  rw [List.getD_eq_getElem?_getD]
  cases e : l[i]? with
  | none => simp
  | some v => exact h v (List.mem_of_getElem? e)
theorem w64_xor (a b : Nat) (ha : a < 4611686018427387904) (hb : b < 4611686018427387904) : w64 (((BitVec.ofInt (IntKind.bits .i64) (a : Int) ^^^ BitVec.ofInt (IntKind.bits .i64) (b : Int)).toNat : Nat) : Int) = ((a ^^^ b : Nat) : Int) ∧ a ^^^ b < 4611686018427387904 := by
  have ha' : a % 2 ^ IntKind.i64.bits = a := Nat.mod_eq_of_lt (by show a < 2 ^ 64; omega)
  have hb' : b % 2 ^ IntKind.i64.bits = b := Nat.mod_eq_of_lt (by show b < 2 ^ 64; omega)
  have hc : a ^^^ b < 2 ^ 62 := Nat.xor_lt_two_pow (by omega) (by omega)
  refine ⟨?_, by omega⟩
  simp only [BitVec.ofInt_natCast, BitVec.toNat_xor, BitVec.toNat_ofNat, ha', hb']
  exact w64_id (by omega) (by omega)
theorem tmod_pos {x n : Int} (hx : 0 ≤ x) (hn : 1 ≤ n) : Int.tmod x n = ((x.toNat % n.toNat : Nat) : Int) ∧ ((x.toNat % n.toNat : Nat) : Int) < n := by
  obtain ⟨a, rfl⟩ := Int.eq_ofNat_of_zero_le hx
  obtain ⟨b, rfl⟩ := Int.eq_ofNat_of_zero_le (show 0 ≤ n by omega)
  have := Nat.mod_lt a (show 0 < b by omega)
  simp only [Int.toNat_natCast]
  exact ⟨tmodN a b, by omega⟩
/-! ### texts as lists of bytes -/
def tx (s : ByteArray) : List UInt8 := s.data.toList
def ba (l : List UInt8) : ByteArray := ⟨l.toArray⟩
theorem tx_ba (l : List UInt8) : tx (ba l) = l := rfl
theorem ba_tx (s : ByteArray) : ba (tx s) = s := rfl
theorem tx_inj {s t : ByteArray} (h : tx s = tx t) : s = t := by
  have := congrArg ba h
  simpa only [ba_tx] using this
theorem ba_inj {s t : List UInt8} (h : ba s = ba t) : s = t := congrArg tx h
theorem tx_length (s : ByteArray) : (tx s).length = s.size := by rw [tx, Array.length_toList]; rfl
theorem ba_size (l : List UInt8) : (ba l).size = l.length := by rw [← tx_length, tx_ba]
theorem byteAt_tx (s : ByteArray) (i : Nat) : byteAt s i = (((tx s).getD i 0).toNat : Int) := rfl
theorem bytesOf_tx (s : ByteArray) : bytesOf s = (tx s).map fun b => (b.toNat : Int) := rfl
theorem ofBytes_tx (l : List Int) : tx (ofBytes l) = l.map fun n => UInt8.ofNat n.toNat := rfl
theorem ofBytes_size (l : List Int) : (ofBytes l).size = l.length := by rw [← tx_length, ofBytes_tx, List.length_map]
theorem bytesOf_length (s : ByteArray) : (bytesOf s).length = s.size := by rw [bytesOf_tx, List.length_map, tx_length]
theorem ofBytes_bytesOf (s : ByteArray) : ofBytes (bytesOf s) = s := by
  apply tx_inj
  rw [ofBytes_tx, bytesOf_tx, List.map_map]
  conv => rhs; rw [← List.map_id (tx s)]
  apply List.map_congr_left
  intro b _
  simp
theorem byteAt_lt (s : ByteArray) (i : Nat) : 0 ≤ byteAt s i ∧ byteAt s i ≤ 255 := by
  rw [byteAt_tx]
  have := ((tx s).getD i 0).toNat_lt
  omega
theorem sz_append (a b : ByteArray) : (a ++ b).size = a.size + b.size := ByteArray.size_append
theorem ba_nil : ba [] = ByteArray.mk #[] := rfl
theorem empty_eq : ByteArray.empty = ba [] := rfl
theorem size0 {s : ByteArray} : s.size = 0 ↔ s = ByteArray.mk #[] := by
  constructor
  · intro h
    apply tx_inj
    rw [← tx_length] at h
    exact List.eq_nil_of_length_eq_zero h
  · rintro rfl; rfl
theorem tx_append (a b : ByteArray) : tx (a ++ b) = tx a ++ tx b := by simp [tx, ByteArray.data_append]
theorem tx_extract (s : ByteArray) (a b : Nat) : tx (s.extract a b) = ((tx s).drop a).take (b - a) := by
  simp [tx, ByteArray.data_extract, List.extract_eq_take_drop]
theorem tx_extract0 (s : ByteArray) (b : Nat) : tx (s.extract 0 b) = (tx s).take b := by rw [tx_extract]; rfl
theorem tx_extractEnd (s : ByteArray) (a : Nat) : tx (s.extract a s.size) = (tx s).drop a := by
  rw [tx_extract, List.take_of_length_le (by rw [List.length_drop, tx_length]; omega)]
/-! ### decimals -/
def isDig (c : UInt8) : Bool := decide (48 ≤ c.toNat) && decide (c.toNat ≤ 57)
def dig (d : Nat) : UInt8 := UInt8.ofNat (48 + d)
theorem dig_toNat {d : Nat} (h : d < 10) : (dig d).toNat = 48 + d := by
  simp [dig]; omega
def decL (n : Nat) : List UInt8 := if n < 10 then [dig n] else decL (n / 10) ++ [dig (n % 10)]
theorem decL_lt {n : Nat} (h : n < 10) : decL n = [dig n] := by rw [decL, if_pos h]
theorem decL_ge {n : Nat} (h : ¬ n < 10) : decL n = decL (n / 10) ++ [dig (n % 10)] := by rw [decL, if_neg h]
def valL (l : List UInt8) : Nat := l.foldl (fun v c => 10 * v + (c.toNat - 48)) 0
theorem valL_snoc (l : List UInt8) (c : UInt8) : valL (l ++ [c]) = 10 * valL l + (c.toNat - 48) := by simp [valL, List.foldl_append]
theorem valL_dec (n : Nat) : valL (decL n) = n := by
  induction n using Nat.strongRecOn with
  | ind n ih =>
    by_cases h : n < 10
    · rw [decL_lt h]
      simp [valL, dig_toNat h]
    · rw [decL_ge h, valL_snoc, ih (n / 10) (by omega), dig_toNat (by omega)]
      omega
theorem decL_ne (n : Nat) : decL n ≠ [] := by
  rw [decL]
  split <;> simp
theorem decL_dig (n : Nat) : ∀ c ∈ decL n, isDig c = true := by
  induction n using Nat.strongRecOn with
  | ind n ih =>
    by_cases h : n < 10
    · rw [decL_lt h]
      intro c hc
      rw [List.mem_singleton] at hc
      subst hc
      simp [isDig, dig_toNat h]
      omega
    · rw [decL_ge h]
      intro c hc
      rcases List.mem_append.1 hc with hc | hc
      · exact ih _ (by omega) c hc
      · rw [List.mem_singleton] at hc
        subst hc
        simp [isDig, dig_toNat (show n % 10 < 10 by omega)]
        omega
theorem decL_inj {m n : Nat} (h : decL m = decL n) : m = n := by rw [← valL_dec m, ← valL_dec n, h]
theorem decL_length {n d : Nat} (h : n < 10 ^ (d + 1)) : (decL n).length ≤ d + 1 := by
  induction d generalizing n with
  | zero => rw [decL_lt (by simpa using h)]; simp
  | succ d ih =>
    by_cases hn : n < 10
    · rw [decL_lt hn]; simp
    · rw [decL_ge hn]
      have := ih (n := n / 10) (by rw [Nat.div_lt_iff_lt_mul (by omega)]; rw [Nat.pow_succ] at h; exact h)
      simp
      omega
theorem decL_pos (n : Nat) : 1 ≤ (decL n).length := List.length_pos_iff.2 (decL_ne n)
theorem dig_val {c : UInt8} (h : isDig c = true) : c.toNat - 48 < 10 ∧ dig (c.toNat - 48) = c := by
  simp only [isDig, Bool.and_eq_true, decide_eq_true_eq] at h
  refine ⟨by omega, ?_⟩
  apply UInt8.toNat_inj.1
  rw [dig_toNat (by omega)]
  omega
/-- A number is read from its decimals, and from nothing else. -/
def canon (l : List UInt8) : Prop := l ≠ [] ∧ (∀ c ∈ l, isDig c = true) ∧ (l.length = 1 ∨ l.headD 0 ≠ 48)
theorem dec_val {l : List UInt8} (h : canon l) : decL (valL l) = l ∧ (1 ≤ valL l ∨ l = [48]) := by
  obtain ⟨h0, h1, h2⟩ := h
  induction h3 : l.length using Nat.strongRecOn generalizing l with
  | ind m ih =>
    subst h3
    rcases List.eq_nil_or_concat l with h | ⟨xs, c, h⟩
    · exact absurd h h0
    · rw [List.concat_eq_append] at h
      subst h
      obtain ⟨d1, d2⟩ := dig_val (h1 c (by simp))
      by_cases hx : xs = []
      · subst hx
        have e : valL ([] ++ [c]) = c.toNat - 48 := by simp [valL]
        rw [e, decL_lt d1, d2]
        refine ⟨rfl, ?_⟩
        by_cases hz : 1 ≤ c.toNat - 48
        · exact .inl hz
        · right
          rw [show c.toNat - 48 = 0 by omega] at d2
          rw [← d2]
          rfl
      · have hh : xs.headD 0 ≠ 48 := by
          rcases h2 with h2 | h2
          · exfalso
            apply hx
            apply List.eq_nil_of_length_eq_zero
            simpa using h2
          · cases xs with
            | nil => exact absurd rfl hx
            | cons x t => simpa using h2
        obtain ⟨e1, e2⟩ := ih xs.length (by simp) hx (fun c hc => h1 c (by simp [hc])) (.inr hh) rfl
        have hv : 1 ≤ valL xs := by
          rcases e2 with e2 | e2
          · exact e2
          · exfalso
            apply hh
            rw [e2]
            rfl
        rw [valL_snoc, decL_ge (by omega), show (10 * valL xs + (c.toNat - 48)) / 10 = valL xs by omega, show (10 * valL xs + (c.toNat - 48)) % 10 = c.toNat - 48 by omega, e1, d2]
        exact ⟨rfl, .inl (by omega)⟩
theorem decL_head {n : Nat} (h : 1 ≤ n) : (decL n).headD 0 ≠ 48 := by
  induction n using Nat.strongRecOn with
  | ind n ih =>
    by_cases hn : n < 10
    · rw [decL_lt hn]
      intro h1
      have h2 : dig n = 48 := by simpa using h1
      have := congrArg UInt8.toNat h2
      rw [dig_toNat hn] at this
      have h3 : (48 : UInt8).toNat = 48 := rfl
      omega
    · rw [decL_ge hn]
      have := ih (n / 10) (by omega) (by omega)
      cases e : decL (n / 10) with
      | nil => exact absurd e (decL_ne _)
      | cons x t => rw [e] at this; simpa using this
theorem decL_canon (n : Nat) : canon (decL n) := by
  refine ⟨decL_ne n, decL_dig n, ?_⟩
  rcases Nat.eq_zero_or_pos n with h | h
  · subst h
    left
    rw [decL_lt (by omega)]
    rfl
  · exact .inr (decL_head h)
theorem canon_iff {l : List UInt8} (h1 : ∀ c ∈ l, isDig c = true) : decL (valL l) = l ↔ l ≠ [] ∧ (l.length = 1 ∨ l.headD 0 ≠ 48) := by
  constructor
  · intro h
    have := decL_canon (valL l)
    rw [h] at this
    exact ⟨this.1, this.2.2⟩
  · intro h
    exact (dec_val ⟨h.1, h1, h.2⟩).1
theorem valL_lt {l : List UInt8} (h : ∀ c ∈ l, isDig c = true) : valL l < 10 ^ l.length := by
  induction hn : l.length generalizing l with
  | zero => rw [List.eq_nil_of_length_eq_zero hn]; simp [valL]
  | succ n ih =>
    rcases List.eq_nil_or_concat l with e | ⟨xs, c, e⟩
    · subst e; simp at hn
    · rw [List.concat_eq_append] at e
      subst e
      have hx : xs.length = n := by simpa using hn
      have := ih (l := xs) (fun c hc => h c (by simp [hc])) hx
      have hd := (dig_val (h c (by simp))).1
      rw [valL_snoc, Nat.pow_succ]
      omega
theorem valL_small {l : List UInt8} (h : ∀ c ∈ l, isDig c = true) (h4 : l.length ≤ 4) : valL l < 10000 :=
  Nat.lt_of_lt_of_le (valL_lt h) (show 10 ^ l.length ≤ 10 ^ 4 from Nat.pow_le_pow_right (by omega) h4)
/-- The number that decimals tell. -/
def numL (m : Nat) (l : List UInt8) : Option Nat := if l.length ≤ m ∧ l.all isDig = true ∧ decL (valL l) = l then some (valL l) else none
theorem numL_some {m : Nat} {l : List UInt8} {n : Nat} : numL m l = some n ↔ l = decL n ∧ l.length ≤ m := by
  unfold numL
  constructor
  · intro h
    split at h
    · next h0 =>
      obtain rfl := Option.some.inj h
      exact ⟨h0.2.2.symm, h0.1⟩
    · cases h
  · rintro ⟨h, h'⟩
    subst h
    rw [valL_dec, if_pos ⟨h', by simpa using decL_dig n, rfl⟩]
theorem numL_nil (m : Nat) : numL m [] = none := by
  cases h : numL m [] with
  | none => rfl
  | some n => exact absurd (numL_some.1 h).1.symm (decL_ne n)
/-! ### the records of a log -/
def recL (r : List UInt8) : List UInt8 := decL r.length ++ [58] ++ r ++ [59]
def okR (r : List UInt8) : Prop := 1 ≤ r.length ∧ r.length ≤ 60
instance (r : List UInt8) : Decidable (okR r) := inferInstanceAs (Decidable (_ ∧ _))
theorem recL_length (r : List UInt8) : (recL r).length = (decL r.length).length + 2 + r.length := by simp [recL]; omega
def col (l : List UInt8) : Nat := l.findIdx (· == 58)
def oneAt (l : List UInt8) (i : Nat) : Option (List UInt8 × Nat) := match numL 4 (l.take i) with
  | none => none
  | some n => if 1 ≤ n ∧ n ≤ 60 ∧ i + 2 + n ≤ l.length ∧ l.getD (i + 1 + n) 0 = 59 then some ((l.drop (i + 1)).take n, i + 2 + n) else none
def oneL (l : List UInt8) : Option (List UInt8 × Nat) := if col l < 3 ∧ col l < l.length then oneAt l (col l) else none
theorem col_eq {l : List UInt8} {i : Nat} (h : i ≤ col l) (hl : i < l.length) (h1 : l.getD i 0 = 58) : col l = i := by
  apply Nat.le_antisymm _ h
  rcases Nat.lt_or_ge i (col l) with h2 | h2
  · exfalso
    have h3 := List.not_of_lt_findIdx h2
    rw [List.getD_eq_getElem?_getD, List.getElem?_eq_getElem hl] at h1
    have h4 : l[i] = 58 := by simpa using h1
    rw [h4] at h3
    cases h3
  · exact h2
theorem col_at {l : List UInt8} (h : col l < l.length) : l[col l]'h = 58 := by
  have h1 := List.findIdx_getElem (p := (· == 58)) (w := h)
  exact eq_of_beq h1
theorem col_lt {l : List UInt8} {i : Nat} (h : i ≤ col l) (hl : i < l.length) (h1 : l.getD i 0 ≠ 58) : i + 1 ≤ col l := by
  rcases Nat.lt_or_ge i (col l) with h2 | h2
  · exact h2
  · exfalso
    have e : col l = i := Nat.le_antisymm h2 h
    have hc : col l < l.length := by omega
    have h3 := col_at hc
    apply h1
    subst e
    rw [List.getD_eq_getElem?_getD, List.getElem?_eq_getElem hl]
    simpa using h3
theorem col_rec {d r : List UInt8} (h : ∀ c ∈ d, isDig c = true) : col (d ++ 58 :: r) = d.length := by
  unfold col
  rw [List.findIdx_append]
  have : ¬ List.findIdx (· == 58) d < d.length := by
    rw [List.findIdx_lt_length]
    rintro ⟨c, hc, h2⟩
    have := h c hc
    rw [beq_iff_eq] at h2
    subst h2
    revert this
    decide
  rw [if_neg this]
  simp [List.findIdx_cons]
theorem oneL_rec {r : List UInt8} (h : okR r) (rest : List UInt8) : oneL (recL r ++ rest) = some (r, (recL r).length) := by
  have e : recL r ++ rest = decL r.length ++ 58 :: (r ++ 59 :: rest) := by simp [recL]
  have hc : col (recL r ++ rest) = (decL r.length).length := by rw [e]; exact col_rec (decL_dig _)
  have hd : (decL r.length).length ≤ 2 := decL_length (d := 1) (by have := h.2; omega)
  have hl : (recL r ++ rest).length = (decL r.length).length + 2 + r.length + rest.length := by simp [recL]; omega
  unfold oneL oneAt
  rw [hc, if_pos (by omega)]
  have ht : (recL r ++ rest).take (decL r.length).length = decL r.length := by rw [e]; exact List.take_left
  rw [ht, numL_some.2 ⟨rfl, by omega⟩]
  have hdr : (recL r ++ rest).drop ((decL r.length).length + 1) = r ++ 59 :: rest := by
    rw [e, ← List.drop_drop, List.drop_left]
    rfl
  have hg : (recL r ++ rest).getD ((decL r.length).length + 1 + r.length) 0 = 59 := by
    have : ((recL r ++ rest).drop ((decL r.length).length + 1)).getD r.length 0 = 59 := by rw [hdr]; simp [List.getD_eq_getElem?_getD]
    rw [List.getD_eq_getElem?_getD, List.getElem?_drop] at this
    rw [List.getD_eq_getElem?_getD]
    exact this
  simp only []
  rw [if_pos ⟨h.1, h.2, by omega, hg⟩, hdr, recL_length]
  rw [show (decL r.length).length + 2 + r.length = (decL r.length).length + 2 + r.length from rfl, List.take_left]
theorem oneL_some {l r : List UInt8} {n : Nat} (h : oneL l = some (r, n)) : okR r ∧ n = (recL r).length ∧ ∃ rest, l = recL r ++ rest := by
  unfold oneL oneAt at h
  split at h
  · next hc =>
    split at h
    · cases h
    · next m hm =>
      split at h
      · next hk =>
        obtain ⟨k1, k2, k3, k4⟩ := hk
        have h1 := Option.some.inj h
        have hr : r = (l.drop (col l + 1)).take m := (congrArg Prod.fst h1).symm
        have hn : n = col l + 2 + m := (congrArg Prod.snd h1).symm
        obtain ⟨hm1, hm2⟩ := numL_some.1 hm
        have hrl : r.length = m := by rw [hr]; simp; omega
        have hcl : l[col l]'(hc.2) = 58 := col_at hc.2
        have hel : l = recL r ++ l.drop (col l + 2 + m) := by
          have a1 : l = l.take (col l) ++ l.drop (col l) := (List.take_append_drop _ _).symm
          have a2 : l.drop (col l) = 58 :: l.drop (col l + 1) := by rw [List.drop_eq_getElem_cons hc.2, hcl]
          have a3 : l.drop (col l + 1) = r ++ l.drop (col l + 1 + m) := by
            rw [hr, ← List.drop_drop (i := m)]
            exact (List.take_append_drop _ _).symm
          have hlt : col l + 1 + m < l.length := by omega
          have a4 : l.drop (col l + 1 + m) = 59 :: l.drop (col l + 2 + m) := by
            rw [List.drop_eq_getElem_cons hlt]
            rw [List.getD_eq_getElem?_getD, List.getElem?_eq_getElem hlt] at k4
            have : l[col l + 1 + m] = 59 := by simpa using k4
            rw [this, show col l + 1 + m + 1 = col l + 2 + m by omega]
          conv => lhs; rw [a1, a2, a3, a4, hm1]
          simp [recL, hrl]
        refine ⟨⟨by omega, by omega⟩, ?_, _, hel⟩
        rw [recL_length, hrl, ← hm1, hn]
        simp
        omega
      · cases h
  · cases h
theorem oneL_len {l r : List UInt8} {n : Nat} (h : oneL l = some (r, n)) : 4 ≤ n ∧ n ≤ l.length := by
  obtain ⟨h1, h2, rest, h3⟩ := oneL_some h
  have := recL_length r
  have := decL_pos r.length
  have := h1.1
  rw [h3, List.length_append]
  omega
def readL (l : List UInt8) : List (List UInt8) × Nat :=
  match h : oneL l with
  | none => ([], 0)
  | some (r, n) => (r :: (readL (l.drop n)).1, n + (readL (l.drop n)).2)
termination_by l.length
decreasing_by all_goals (have := oneL_len h; rw [List.length_drop]; omega)
theorem readL_none {l : List UInt8} (h : oneL l = none) : readL l = ([], 0) := by
  rw [readL]
  split
  · rfl
  · next h1 => rw [h] at h1; cases h1
theorem readL_some {l r : List UInt8} {n : Nat} (h : oneL l = some (r, n)) : readL l = (r :: (readL (l.drop n)).1, n + (readL (l.drop n)).2) := by
  rw [readL]
  split
  · next h1 => rw [h] at h1; cases h1
  · next h1 => rw [h] at h1; cases h1; rfl
/-- The log of some records. -/
def logL (rs : List (List UInt8)) : List UInt8 := (rs.map recL).flatten
theorem logL_cons (r : List UInt8) (rs : List (List UInt8)) : logL (r :: rs) = recL r ++ logL rs := rfl
theorem logL_append (a b : List (List UInt8)) : logL (a ++ b) = logL a ++ logL b := by simp [logL]
theorem readL_log {rs : List (List UInt8)} (h : ∀ r ∈ rs, okR r) (rest : List UInt8) : readL (logL rs ++ rest) = (rs ++ (readL rest).1, (logL rs).length + (readL rest).2) := by
  induction rs with
  | nil => simp [logL]
  | cons r rs ih =>
    rw [logL_cons, List.append_assoc, readL_some (oneL_rec (h r (by simp)) _), List.drop_left, ih (fun x hx => h x (by simp [hx]))]
    simp
    omega
theorem readL_spec (l : List UInt8) : (∀ r ∈ (readL l).1, okR r) ∧ l = logL (readL l).1 ++ l.drop (readL l).2 ∧ (readL l).2 = (logL (readL l).1).length ∧ oneL (l.drop (readL l).2) = none := by
  induction hn : l.length using Nat.strongRecOn generalizing l with
  | ind m ih =>
    subst hn
    cases h : oneL l with
    | none =>
      rw [readL_none h]
      exact ⟨by simp, rfl, rfl, h⟩
    | some p =>
      obtain ⟨r, n⟩ := p
      obtain ⟨h1, h2, rest, h3⟩ := oneL_some h
      obtain ⟨h4, h5⟩ := oneL_len h
      have hd : l.drop n = rest := by rw [h3, h2, List.drop_left]
      obtain ⟨i1, i2, i3, i4⟩ := ih _ (by rw [List.length_drop]; omega) (l.drop n) rfl
      rw [readL_some h]
      refine ⟨?_, ?_, ?_, ?_⟩
      · intro x hx
        rcases List.mem_cons.1 hx with hx | hx
        · rw [hx]; exact h1
        · exact i1 x hx
      · show l = logL (r :: (readL (l.drop n)).1) ++ l.drop (n + (readL (l.drop n)).2)
        rw [logL_cons, List.append_assoc, ← List.drop_drop, ← i2, hd]
        exact h3
      · show n + (readL (l.drop n)).2 = (logL (r :: (readL (l.drop n)).1)).length
        rw [logL_cons, List.length_append, ← i3, h2]
      · show oneL (l.drop (n + (readL (l.drop n)).2)) = none
        rw [← List.drop_drop]
        exact i4
theorem readL_le (l : List UInt8) : (readL l).2 ≤ l.length := by
  obtain ⟨_, h2, h3, _⟩ := readL_spec l
  have := congrArg List.length h2
  rw [List.length_append] at this
  omega
theorem logL_length {rs : List (List UInt8)} (h : ∀ r ∈ rs, okR r) : 4 * rs.length ≤ (logL rs).length := by
  induction rs with
  | nil => simp
  | cons r rs ih =>
    have := ih (fun x hx => h x (by simp [hx]))
    have := recL_length r
    have := decL_pos r.length
    have := (h r (by simp)).1
    rw [logL_cons, List.length_append, List.length_cons]
    omega
theorem readL_count (l : List UInt8) : 4 * (readL l).1.length ≤ (readL l).2 := by
  obtain ⟨h1, _, h3, _⟩ := readL_spec l
  rw [h3]
  exact logL_length h1
theorem readL_take (l : List UInt8) : l.take (readL l).2 = logL (readL l).1 := by
  obtain ⟨_, h2, h3, _⟩ := readL_spec l
  have h5 := congrArg (List.take (logL (readL l).1).length) h2
  rw [List.take_left] at h5
  rw [h3]
  exact h5
theorem readL_cut (l : List UInt8) (m : Nat) : (readL (l.take m)).1 <+: (readL l).1 ∧ (readL (l.take m)).2 ≤ (readL l).2 ∧ (readL (l.take m)).2 ≤ m := by
  obtain ⟨h1, h2, h3, h4⟩ := readL_spec (l.take m)
  have e : l = logL (readL (l.take m)).1 ++ ((l.take m).drop (readL (l.take m)).2 ++ l.drop m) := by
    rw [← List.append_assoc, ← h2, List.take_append_drop]
  have hr := readL_log h1 ((l.take m).drop (readL (l.take m)).2 ++ l.drop m)
  rw [← e] at hr
  refine ⟨?_, ?_, ?_⟩
  · rw [hr]; exact List.prefix_append _ _
  · rw [hr, h3]; exact Nat.le_add_right _ _
  · have := readL_le (l.take m)
    have := List.length_take_le m l
    omega
/-- A log of whole records alone. -/
theorem readL_whole {l : List UInt8} (h : (readL l).2 = l.length) : l = logL (readL l).1 := by
  have := readL_take l
  rw [h, List.take_length] at this
  exact this
theorem readL_of_log {rs : List (List UInt8)} (h : ∀ r ∈ rs, okR r) : readL (logL rs) = (rs, (logL rs).length) := by
  have := readL_log h []
  have h0 : readL [] = ([], 0) := readL_none (by decide)
  rw [h0] at this
  simpa using this
def resOne : Option (List UInt8 × Nat) → ByteArray × Int
  | none => (⟨#[]⟩, 0)
  | some (r, n) => (ba r, n)
def resLog (p : List (List UInt8) × Nat) : List ByteArray × Int := (p.1.map ba, (p.2 : Int))
def resNum : Option Nat → Int
  | none => -1
  | some n => n
/-! ### the text that a mark writes -/
def mkT (n : Nat) : ByteArray := ba (109 :: decL n)
theorem ofBytes_one (c : Nat) (h : c ≤ 255) : ofBytes [w8 (c : Int)] = ba [UInt8.ofNat c] := by
  apply tx_inj
  rw [ofBytes_tx, w8_id (by omega) (by omega)]
  rfl
theorem ba_append (a b : List UInt8) : ba a ++ ba b = ba (a ++ b) := by
  apply tx_inj
  rw [tx_append]
  rfl
/-! ### shelves -/
def okL (t : ByteArray) (f : Int) : Bool := decide (t.size ≤ 2400) && inB f 0 (t.size : Int) && (decide ((readL (tx t)).2 = t.size) && decide (((readL ((tx t).take f.toNat)).2 : Int) = f))
def forceL (t : ByteArray) (f : Int) : ByteArray × Int := if okL t f = true then (t, (t.size : Int)) else (⟨#[]⟩, 0)
theorem okL_some {t : ByteArray} {f : Int} (h : okL t f = true) : t.size ≤ 2400 ∧ 0 ≤ f ∧ f ≤ (t.size : Int) ∧ (readL (tx t)).2 = t.size ∧ ((readL ((tx t).take f.toNat)).2 : Int) = f := by
  simp only [okL, Bool.and_eq_true, decide_eq_true_eq, inB_iff] at h
  exact ⟨h.1.1, h.1.2.1, h.1.2.2, h.2.1, h.2.2⟩
/-- How much of a log is left behind a fall. -/
def leftN (t : ByteArray) (f keep : Int) : Nat := (if keep > (t.size : Int) - f then (t.size : Int) else if keep > 0 then f + keep else f).toNat
def fallL (t : ByteArray) (f keep : Int) : ByteArray × Int := if okL t f = true then (ba ((tx t).take (readL ((tx t).take (leftN t f keep))).2), ((readL ((tx t).take (leftN t f keep))).2 : Int)) else (⟨#[]⟩, 0)
/-- A log of whole records, all forced: it is in form, and a fall leaves it as it is. -/
theorem okL_whole {t : ByteArray} (h1 : t.size ≤ 2400) (h2 : (readL (tx t)).2 = t.size) : okL t (t.size : Int) = true := by
  unfold okL
  have ht : (tx t).take t.size = tx t := by rw [← tx_length, List.take_length]
  rw [decide_eq_true h1, inB_yes (by omega) (by omega), Int.toNat_natCast, ht, h2]
  simp
theorem fallL_whole {t : ByteArray} (h1 : t.size ≤ 2400) (h2 : (readL (tx t)).2 = t.size) (keep : Int) : fallL t (t.size : Int) keep = (t, (t.size : Int)) := by
  have hl : leftN t (t.size : Int) keep = t.size := by
    unfold leftN
    split
    · omega
    · split <;> omega
  have ht : (tx t).take t.size = tx t := by rw [← tx_length, List.take_length]
  rw [fallL, if_pos (okL_whole h1 h2), hl, ht, h2, ht, ba_tx]
/-- What a fall leaves. -/
theorem fallL_ok {t : ByteArray} {f keep : Int} (h : okL t f = true) :
    ∃ x : ByteArray, fallL t f keep = (x, (x.size : Int)) ∧ f ≤ (x.size : Int) ∧ x.size ≤ t.size ∧ x = t.extract 0 x.size ∧ x.size ≤ 2400 ∧ (readL (tx x)).2 = x.size := by
  obtain ⟨h1, h2, h3, h4, h5⟩ := okL_some h
  have hle : leftN t f keep ≤ t.size := by
    unfold leftN
    split
    · omega
    · split <;> omega
  have hf : f.toNat ≤ leftN t f keep := by
    unfold leftN
    split
    · omega
    · split <;> omega
  have hn := readL_le ((tx t).take (leftN t f keep))
  rw [List.length_take, tx_length] at hn
  have hz : (ba ((tx t).take (readL ((tx t).take (leftN t f keep))).2)).size = (readL ((tx t).take (leftN t f keep))).2 := by
    rw [ba_size, List.length_take, tx_length]; omega
  have htt : (tx t).take (readL ((tx t).take (leftN t f keep))).2 = logL (readL ((tx t).take (leftN t f keep))).1 := by
    have := readL_take ((tx t).take (leftN t f keep))
    rw [List.take_take, Nat.min_eq_left (by omega)] at this
    exact this
  refine ⟨ba ((tx t).take (readL ((tx t).take (leftN t f keep))).2), ?_, ?_, ?_, ?_, ?_, ?_⟩
  · rw [fallL, if_pos h, hz]
  · rw [hz]
    have := (readL_cut ((tx t).take (leftN t f keep)) f.toNat).2.1
    rw [List.take_take, Nat.min_eq_left hf] at this
    omega
  · rw [hz]; omega
  · apply tx_inj
    rw [hz, tx_ba, tx_extract0]
  · rw [hz]; omega
  · rw [hz, tx_ba, htt, readL_of_log (readL_spec _).1]
    show (logL _).length = _
    exact (readL_spec _).2.2.1.symm
/-! ### loops over lists -/
theorem getD_at {α : Type} {l : List α} {i : Nat} (h : i < l.length) (d : α) : l.getD i d = l[i] := by
  rw [List.getD_eq_getElem?_getD, List.getElem?_eq_getElem h]
  rfl
/-- Whatever a loop does from i on, it does from 0 on. -/
theorem up_loop {P : Nat → Nat → Prop} {N : Nat} (hend : ∀ n, P (n + 1) N) (hstep : ∀ n i, i < N → P n (i + 1) → P (n + 1) i) : ∀ n, N < n → P n 0 := by
  have key : ∀ d i n, i + d = N → d < n → P n i := by
    intro d
    induction d with
    | zero =>
      intro i n h1 h2
      obtain ⟨m, rfl⟩ := Nat.exists_eq_succ_of_ne_zero (n := n) (by omega)
      have : i = N := by omega
      subst this
      exact hend m
    | succ d ih =>
      intro i n h1 h2
      obtain ⟨m, rfl⟩ := Nat.exists_eq_succ_of_ne_zero (n := n) (by omega)
      exact hstep m i (by omega) (ih (i + 1) m (by omega) (by omega))
  intro n h
  exact key N 0 n (by omega) h
theorem eq_loop {α R : Type} [DecidableEq α] (a b : List α) (d : α) (x0 q : Option R) (L : Nat → Int → Option R) (hl : a.length = b.length) (h : ∀ n (i : Nat), i < a.length → L (n + 1) (i : Int) = cond (decide (a.getD i d = b.getD i d)) (L n ((i + 1 : Nat) : Int)) q) (hend : ∀ n, L (n + 1) (a.length : Int) = x0) :
    ∀ n, a.length < n → L n ((0 : Nat) : Int) = cond (decide (a = b)) x0 q := by
  have key := up_loop (N := a.length) (P := fun n i => L n (i : Int) = cond (decide (a.drop i = b.drop i)) x0 q) (fun n => by
    rw [hend, List.drop_eq_nil_of_le (Nat.le_refl _), List.drop_eq_nil_of_le (by omega)]
    rfl) (fun n i hi ih => by
    rw [h n i hi, ih, getD_at hi, getD_at (by omega), List.drop_eq_getElem_cons hi, List.drop_eq_getElem_cons (show i < b.length by omega)]
    by_cases e : a[i] = b[i]
    · rw [dt e, ct rfl]
      have h2 : (a[i] :: a.drop (i + 1) = b[i] :: b.drop (i + 1)) ↔ a.drop (i + 1) = b.drop (i + 1) := ⟨fun h => (List.cons.inj h).2, fun h => by rw [e, h]⟩
      rw [decide_eq_decide.2 h2]
    · rw [df e, cf rfl]
      have h2 : ¬ (a[i] :: a.drop (i + 1) = b[i] :: b.drop (i + 1)) := fun h => e (List.cons.inj h).1
      rw [df h2, cf rfl])
  intro n hn
  have := key n hn
  simpa using this
/-- What a list of n elements holds behind a mark that begins at m. -/
def mks {α : Type} (mk : Nat → α) (s m n : Nat) : List α := (List.range n).map fun i => mk (m + s * i)
theorem mks_length {α : Type} (mk : Nat → α) (s m n : Nat) : (mks mk s m n).length = n := by simp [mks]
theorem mks_succ {α : Type} (mk : Nat → α) (s m n : Nat) : mks mk s m (n + 1) = mks mk s m n ++ [mk (m + s * n)] := by
  unfold mks
  rw [List.range_succ, List.map_append]
  rfl
theorem mks_get {α : Type} (mk : Nat → α) (s m n i : Nat) (h : i < n) (d : α) : (mks mk s m n).getD i d = mk (m + s * i) := by
  rw [getD_at (by rw [mks_length]; exact h)]
  simp [mks]
theorem mark_loop {α R : Type} (mk : Nat → α) (s N B : Nat) (x0 : Int → List α → Option R) (L : Nat → Int → Int → List α → Option R)
    (h : ∀ n (m i : Nat) (w : List α), w.length = N → i < N → m + s ≤ B → L (n + 1) (m : Int) (i : Int) w = L n ((m + s : Nat) : Int) ((i + 1 : Nat) : Int) (w.set i (mk m))) (hend : ∀ n (m : Int) w, w.length = N → L (n + 1) m (N : Int) w = x0 m w) :
    ∀ n (m : Nat) (w : List α), N < n → w.length = N → m + s * N ≤ B → L n (m : Int) ((0 : Nat) : Int) w = x0 ((m + s * N : Nat) : Int) (mks mk s m N) := by
  intro n m w hn hw hm
  have key := up_loop (N := N) (P := fun n i => ∀ r : List α, r.length = N - i → L n ((m + s * i : Nat) : Int) (i : Int) (mks mk s m i ++ r) = x0 ((m + s * N : Nat) : Int) (mks mk s m N)) (fun n r hr => by
    have : r = [] := List.eq_nil_of_length_eq_zero (by omega)
    subst this
    rw [hend _ _ _ (by simp [mks_length]), List.append_nil]) (fun n i hi ih r hr => by
    cases r with
    | nil => simp at hr; omega
    | cons x r =>
      have hb : m + s * i + s ≤ B := by
        have : s * i + s ≤ s * N := by
          have := Nat.mul_le_mul_left s (show i + 1 ≤ N by omega)
          rw [Nat.mul_succ] at this
          exact this
        omega
      rw [h n _ i _ (by simp [mks_length] at hr ⊢; omega) hi hb]
      have e : (mks mk s m i ++ x :: r).set i (mk (m + s * i)) = mks mk s m (i + 1) ++ r := by
        rw [mks_succ, List.set_append_right _ _ (by rw [mks_length]; exact Nat.le_refl _), mks_length]
        simp
      rw [e]
      have := ih r (by simp at hr; omega)
      rw [Nat.mul_succ, ← Nat.add_assoc] at this
      exact this)
  have := key n hn w (by omega)
  simpa [mks] using this
theorem held_loop {α R : Type} (mk : Nat → α) (d : α) (s N B m : Nat) (x0 : Int → Option R) (L : Nat → Int → Int → Option R)
    (h : ∀ n (p i : Nat), i < N → p + s ≤ B → (mks mk s m N).getD i d = mk p → L (n + 1) (p : Int) (i : Int) = L n ((p + s : Nat) : Int) ((i + 1 : Nat) : Int)) (hend : ∀ n (p : Int), L (n + 1) p (N : Int) = x0 p) :
    ∀ n, N < n → m + s * N ≤ B → L n (m : Int) ((0 : Nat) : Int) = x0 ((m + s * N : Nat) : Int) := by
  intro n hn hm
  have key := up_loop (N := N) (P := fun n i => L n ((m + s * i : Nat) : Int) (i : Int) = x0 ((m + s * N : Nat) : Int)) (fun n => hend _ _) (fun n i hi ih => by
    have hb : m + s * i + s ≤ B := by
      have : s * i + s ≤ s * N := by
        have := Nat.mul_le_mul_left s (show i + 1 ≤ N by omega)
        rw [Nat.mul_succ] at this
        exact this
      omega
    rw [h n _ i hi hb (mks_get mk s m N i hi d)]
    rw [Nat.mul_succ, ← Nat.add_assoc] at ih
    exact ih)
  have := key n hn
  simpa using this
/-! ### the blocks of a text -/
def blk (t : ByteArray) (i : Nat) : List UInt8 := [(tx t).getD (4 * i) 0, (tx t).getD (4 * i + 1) 0, (tx t).getD (4 * i + 2) 0, (tx t).getD (4 * i + 3) 0]
def blkN (n : Nat) : Nat := (n + 3) / 4
def blksTo (t : ByteArray) (n : Nat) : List ByteArray := (List.range n).map fun i => ba (blk t i)
theorem blksTo_length (t : ByteArray) (n : Nat) : (blksTo t n).length = n := by simp [blksTo]
theorem blksTo_succ (t : ByteArray) (n : Nat) : blksTo t (n + 1) = blksTo t n ++ [ba (blk t n)] := by
  rw [blksTo, blksTo, List.range_succ, List.map_append]
  rfl
def blks (t : ByteArray) : List ByteArray := if 1 ≤ t.size ∧ t.size ≤ 24 then blksTo t (blkN t.size) else []
theorem blks_in {t : ByteArray} (h : 1 ≤ t.size ∧ t.size ≤ 24) : blks t = blksTo t (blkN t.size) := if_pos h
theorem blks_length (t : ByteArray) : (blks t).length ≤ 6 := by
  unfold blks
  split
  · rw [blksTo_length, blkN]; omega
  · simp
theorem blks_four (t : ByteArray) : ∀ b ∈ blks t, b.size = 4 := by
  intro b hb
  unfold blks at hb
  split at hb
  · simp only [blksTo, List.mem_map] at hb
    obtain ⟨i, _, rfl⟩ := hb
    rfl
  · cases hb
theorem byte_num (t : ByteArray) (i : Nat) : UInt8.ofNat ((byteAt t i).toNat) = (tx t).getD i 0 := by
  rw [byteAt_tx, Int.toNat_natCast, UInt8.ofNat_toNat]
theorem byteAt_out (t : ByteArray) (i : Nat) (h : t.size ≤ i) : byteAt t i = 0 := by
  rw [byteAt_tx, List.getD_eq_getElem?_getD, List.getElem?_eq_none (by rw [tx_length]; exact h)]
  rfl
theorem ofBytes_blk (t : ByteArray) (i : Nat) : ofBytes [byteAt t (4 * i), byteAt t (4 * i + 1), byteAt t (4 * i + 2), byteAt t (4 * i + 3)] = ba (blk t i) := by
  apply tx_inj
  rw [ofBytes_tx]
  simp only [List.map_cons, List.map_nil, byte_num]
  rfl
/-! ### one over the other -/
def xr (a b : ByteArray) : ByteArray := ba (List.zipWith (fun p q => p ^^^ q) (tx a) (tx b))
theorem tx_xr (a b : ByteArray) : tx (xr a b) = List.zipWith (fun p q => p ^^^ q) (tx a) (tx b) := rfl
theorem xr_size (a b : ByteArray) : (xr a b).size = min a.size b.size := by rw [← tx_length, tx_xr, List.length_zipWith, tx_length, tx_length]
theorem w8_xor (a b : UInt8) : w8 (((BitVec.ofInt (IntKind.bits .u8) ((a.toNat : Nat) : Int) ^^^ BitVec.ofInt (IntKind.bits .u8) ((b.toNat : Nat) : Int)).toNat : Nat) : Int) = (((a ^^^ b).toNat : Nat) : Int) := by
  have ha := a.toNat_lt
  have hb := b.toNat_lt
  have h1 : a.toNat % 2 ^ IntKind.u8.bits = a.toNat := Nat.mod_eq_of_lt (by show a.toNat < 2 ^ 8; omega)
  have h2 : b.toNat % 2 ^ IntKind.u8.bits = b.toNat := Nat.mod_eq_of_lt (by show b.toNat < 2 ^ 8; omega)
  have hc : a.toNat ^^^ b.toNat < 2 ^ 8 := Nat.xor_lt_two_pow (by omega) (by omega)
  simp only [BitVec.ofInt_natCast, BitVec.toNat_xor, BitVec.toNat_ofNat, h1, h2]
  rw [w8_id (by omega) (by omega), UInt8.toNat_xor]
def zero4 : ByteArray := ba [0, 0, 0, 0]
theorem four {a : ByteArray} (h : a.size = 4) : ∃ x y z w, a = ba [x, y, z, w] := by
  have hl : (tx a).length = 4 := by rw [tx_length]; exact h
  match hx : tx a, hl with
  | [x, y, z, w], _ => exact ⟨x, y, z, w, tx_inj hx⟩
theorem xr_four {a b : ByteArray} (ha : a.size = 4) (hb : b.size = 4) : (xr a b).size = 4 := by rw [xr_size, ha, hb]; rfl
theorem xr_comm {a b : ByteArray} : xr a b = xr b a := by
  apply tx_inj
  rw [tx_xr, tx_xr, List.zipWith_comm]
  congr 1
  funext p q
  exact UInt8.xor_comm _ _
theorem xr_assoc {a b c : ByteArray} (ha : a.size = 4) (hb : b.size = 4) (hc : c.size = 4) : xr (xr a b) c = xr a (xr b c) := by
  obtain ⟨a0, a1, a2, a3, rfl⟩ := four ha
  obtain ⟨b0, b1, b2, b3, rfl⟩ := four hb
  obtain ⟨c0, c1, c2, c3, rfl⟩ := four hc
  apply tx_inj
  simp only [tx_xr, tx_ba, List.zipWith_cons_cons, List.zipWith_nil_left, UInt8.xor_assoc]
theorem xr_self {a : ByteArray} (ha : a.size = 4) : xr a a = zero4 := by
  obtain ⟨a0, a1, a2, a3, rfl⟩ := four ha
  apply tx_inj
  simp only [tx_xr, tx_ba, List.zipWith_cons_cons, List.zipWith_nil_left, UInt8.xor_self, zero4]
theorem xr_zero {a : ByteArray} (ha : a.size = 4) : xr zero4 a = a := by
  obtain ⟨a0, a1, a2, a3, rfl⟩ := four ha
  apply tx_inj
  simp only [tx_xr, tx_ba, List.zipWith_cons_cons, List.zipWith_nil_left, zero4, UInt8.zero_xor]
/-- All of these, one over the other. -/
def xrAll (bs : List ByteArray) : ByteArray → List Int → ByteArray
  | x, [] => x
  | x, k :: l => xrAll bs (xr x (bs.getD k.toNat ByteArray.empty)) l
theorem xrAll_append (bs : List ByteArray) : ∀ (l m : List Int) (x : ByteArray), xrAll bs x (l ++ m) = xrAll bs (xrAll bs x l) m
  | [], _, _ => rfl
  | k :: l, m, x => xrAll_append bs l m _
theorem getD_four {bs : List ByteArray} (h : ∀ b ∈ bs, b.size = 4) {k : Int} (h0 : 0 ≤ k) (h1 : k < (bs.length : Int)) : (bs.getD k.toNat ByteArray.empty).size = 4 := by
  rw [getD_at (by omega)]
  exact h _ (List.getElem_mem _)
theorem xrAll_four {bs : List ByteArray} (h : ∀ b ∈ bs, b.size = 4) : ∀ (l : List Int) (x : ByteArray), x.size = 4 → (∀ k ∈ l, 0 ≤ k ∧ k < (bs.length : Int)) → (xrAll bs x l).size = 4
  | [], x, hx, _ => hx
  | k :: l, x, hx, hl => xrAll_four h l _ (xr_four hx (getD_four h (hl k (by simp)).1 (hl k (by simp)).2)) (fun y hy => hl y (by simp [hy]))
theorem xrAll_out {bs : List ByteArray} (h : ∀ b ∈ bs, b.size = 4) : ∀ (l : List Int) (x : ByteArray), x.size = 4 → (∀ k ∈ l, 0 ≤ k ∧ k < (bs.length : Int)) → xrAll bs x l = xr x (xrAll bs zero4 l)
  | [], x, hx, _ => by
    show x = xr x zero4
    rw [xr_comm, xr_zero hx]
  | k :: l, x, hx, hl => by
    have hk := getD_four h (hl k (by simp)).1 (hl k (by simp)).2
    have hl' : ∀ y ∈ l, 0 ≤ y ∧ y < (bs.length : Int) := fun y hy => hl y (by simp [hy])
    show xrAll bs (xr x (bs.getD k.toNat ByteArray.empty)) l = xr x (xrAll bs (xr zero4 (bs.getD k.toNat ByteArray.empty)) l)
    rw [xrAll_out h l _ (xr_four hx hk) hl', xr_zero hk, xrAll_out h l (bs.getD k.toNat ByteArray.empty) hk hl', xr_assoc hx hk (xrAll_four h l zero4 rfl hl')]
/-- What a mixed block of these is. -/
def mixD (bs : List ByteArray) (l : List Int) : ByteArray := match l with
  | [] => ByteArray.mk #[]
  | k :: l => xrAll bs (bs.getD k.toNat ByteArray.empty) l
theorem mixD_eq {bs : List ByteArray} (h : ∀ b ∈ bs, b.size = 4) {l : List Int} (h0 : l ≠ []) (hl : ∀ k ∈ l, 0 ≤ k ∧ k < (bs.length : Int)) : mixD bs l = xrAll bs zero4 l := by
  cases l with
  | nil => exact absurd rfl h0
  | cons k l =>
    show xrAll bs _ l = xrAll bs (xr zero4 _) l
    rw [xr_zero (getD_four h (hl k (by simp)).1 (hl k (by simp)).2)]
end Go.Ev
