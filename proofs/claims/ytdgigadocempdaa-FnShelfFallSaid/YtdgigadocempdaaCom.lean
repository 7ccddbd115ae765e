/- Plain words for the proofs of this seat: numbers, bytes, lists, rounds. No condition. -/
import Derived.Test.YtdgigadocempdaaWMore
import Derived.Laws.BitsLemmas
namespace Go.Proofs.Ytdgigadocempdaa.Com
open Go.RowKit Go.Proofs.YtdgigadocempdaaW.PrintWords Go.Proofs.YtdgigadocempdaaW.PrintLast
set_option linter.unusedVariables false
set_option linter.unusedSimpArgs false
theorem wrap64_id {x : Int} (h0 : -9223372036854775808 ≤ x) (h1 : x ≤ 9223372036854775807) : wrap64 x = x := by
  unfold wrap64; omega
theorem w64_nat (n : Nat) (h : n < 9223372036854775808) : wrap64 (n : Int) = (n : Int) := wrap64_id (x := (n : Int)) (by omega) (by omega)
theorem w64_p1 (a : Nat) (h : a < 4611686018427387904) : wrap64 ((a : Int) + 1) = ((a + 1 : Nat) : Int) := wrap64_id (x := (a : Int) + 1) (by omega) (by omega)
theorem w64_p2 (a : Nat) (h : a < 4611686018427387904) : wrap64 ((a : Int) + 2) = ((a + 2 : Nat) : Int) := wrap64_id (x := (a : Int) + 2) (by omega) (by omega)
theorem w64_p3 (a : Nat) (h : a < 4611686018427387904) : wrap64 ((a : Int) + 3) = ((a + 3 : Nat) : Int) := wrap64_id (x := (a : Int) + 3) (by omega) (by omega)
theorem w64_pn (a n : Nat) (h : a + n < 9223372036854775808) : wrap64 ((a : Int) + (n : Int)) = ((a + n : Nat) : Int) := wrap64_id (x := (a : Int) + (n : Int)) (by omega) (by omega)
/-- a ≤ x ≤ b, as a Bool. -/
def inB (x a b : Int) : Bool := decide (a ≤ x) && decide (x ≤ b)
theorem inB_iff {x a b : Int} : inB x a b = true ↔ a ≤ x ∧ x ≤ b := by simp [inB]
theorem inB_yes {x a b : Int} (h0 : a ≤ x) (h1 : x ≤ b) : inB x a b = true := inB_iff.2 ⟨h0, h1⟩
theorem inB_no {x a b : Int} (h : ¬ (a ≤ x ∧ x ≤ b)) : inB x a b = false := by
  cases e : inB x a b with
  | false => rfl
  | true => exact absurd (inB_iff.1 e) h
/-- The next pseudorandom number. -/
def rnd (x : Int) : Int := if 0 ≤ x ∧ x ≤ 65535 then (x * 25173 + 13849) % 65536 else 0
theorem rnd_range (x : Int) : 0 ≤ rnd x ∧ rnd x ≤ 65535 := by
  unfold rnd; split <;> omega
theorem rnd_inj {x y : Int} (hx : 0 ≤ x ∧ x ≤ 65535) (hy : 0 ≤ y ∧ y ≤ 65535) : rnd x = rnd y ↔ x = y := by
  unfold rnd
  rw [if_pos hx, if_pos hy]
  omega
/-- The neighbor of a node on the way to another one. -/
def nxt (a b : Int) : Int := if (0 ≤ a ∧ a ≤ 3) ∧ (0 ≤ b ∧ b ≤ 3) ∧ a ≠ b then (if a < b then a + 1 else a - 1) else -1
theorem nxt_back {a b : Int} (h : 0 ≤ nxt a b) : nxt (nxt a b) a = a ∧ nxt b a ≠ -1 := by
  by_cases hc : (0 ≤ a ∧ a ≤ 3) ∧ (0 ≤ b ∧ b ≤ 3) ∧ a ≠ b
  · obtain ⟨⟨a0, a1⟩, ⟨b0, b1⟩, hne⟩ := hc
    have ha : a = 0 ∨ a = 1 ∨ a = 2 ∨ a = 3 := by omega
    have hb : b = 0 ∨ b = 1 ∨ b = 2 ∨ b = 3 := by omega
    rcases ha with rfl | rfl | rfl | rfl <;> rcases hb with rfl | rfl | rfl | rfl <;> first | exact absurd rfl hne | decide
  · exfalso
    unfold nxt at h
    rw [if_neg hc] at h
    omega
theorem nxt_none {a b : Int} (h : ¬ ((0 ≤ a ∧ a ≤ 3) ∧ (0 ≤ b ∧ b ≤ 3) ∧ a ≠ b)) : nxt a b = -1 := by
  unfold nxt; rw [if_neg h]
/-! ### bytes of a text -/
theorem bt_drop {t : ByteArray} {i : Nat} (h : i < t.size) : ∃ c : UInt8, t.data.toList.drop i = c :: t.data.toList.drop (i + 1) ∧ bt t (i : Int) = (c.toNat : Int) := by
  have hl : i < t.data.toList.length := by rw [Array.length_toList]; exact h
  refine ⟨t.data.toList[i], List.drop_eq_getElem_cons hl, ?_⟩
  unfold bt
  have h' : (i : Int).toNat < t.size := by simpa using h
  rw [dif_pos h']
  simp only [Int.toNat_natCast]
  rfl
theorem drop_end {t : ByteArray} {i : Nat} (h : t.size ≤ i) : t.data.toList.drop i = [] := List.drop_eq_nil_of_le (by rw [Array.length_toList]; exact h)
/-- The bytes that a message's text may hold. -/
def chOk (c : UInt8) : Bool := decide (32 ≤ c.toNat) && decide (c.toNat ≤ 126)
/-- A message's text. -/
def txOk (t : ByteArray) : Bool := inB (t.size : Int) 1 24 && t.data.toList.all chOk
/-- A message. -/
def ntOk (fr nu dst un : Int) (t : ByteArray) : Bool := inB fr 0 3 && inB dst 0 3 && inB nu 1 99 && inB un 1 999 && txOk t
/-- Numbers of one byte. -/
def Byt (l : List Int) : Prop := ∀ x ∈ l, 0 ≤ x ∧ x ≤ 255
theorem byt_of_wf {l : List Int} (h : ∀ x ∈ l, (Lit.int .u8 x).wf = true) : Byt l := by
  intro x hx
  have := h x hx
  simp [Lit.wf, IntKind.min, IntKind.max, IntKind.signed, IntKind.bits] at this
  omega
theorem byt_take {l : List Int} (h : Byt l) (n : Nat) : Byt (l.take n) := fun x hx => h x (List.mem_of_mem_take hx)
theorem rd_byt {l : List Int} (h : Byt l) (i : Int) : 0 ≤ rd l i ∧ rd l i ≤ 255 := by
  unfold rd
  rw [List.getD_eq_getElem?_getD]
  cases e : l[i.toNat]? with
  | none => simp
  | some v => exact h v (List.mem_of_getElem? e)
theorem i64_of_wf {x : Int} (h : (Lit.int .i64 x).wf = true) : -9223372036854775808 ≤ x ∧ x ≤ 9223372036854775807 := by
  simp [Lit.wf, IntKind.min, IntKind.max, IntKind.signed, IntKind.bits] at h
  omega
theorem wrap64_range (x : Int) : -9223372036854775808 ≤ wrap64 x ∧ wrap64 x ≤ 9223372036854775807 := by
  unfold wrap64; omega
theorem xor_nonneg (x y : Int) (hx : 0 ≤ x) (hx1 : x < 4611686018427387904) (hy : 0 ≤ y) (hy1 : y < 4611686018427387904) : 0 ≤ Go.bits .xor .i64 x y ∧ Go.bits .xor .i64 x y < 4611686018427387904 := by
  obtain ⟨a, rfl⟩ := Int.eq_ofNat_of_zero_le hx
  obtain ⟨b, rfl⟩ := Int.eq_ofNat_of_zero_le hy
  have ha : a < 2 ^ 62 := by omega
  have hb : b < 2 ^ 62 := by omega
  have ha' : a % 2 ^ IntKind.i64.bits = a := Nat.mod_eq_of_lt (by show a < 2 ^ 64; omega)
  have hb' : b % 2 ^ IntKind.i64.bits = b := Nat.mod_eq_of_lt (by show b < 2 ^ 64; omega)
  have hc : a ^^^ b < 2 ^ 62 := Nat.xor_lt_two_pow ha hb
  have he : Go.bits .xor .i64 (a : Int) (b : Int) = ((a ^^^ b : Nat) : Int) := by
    simp only [Go.bits, BitVec.ofInt_natCast, BitVec.toNat_xor, BitVec.toNat_ofNat, ha', hb']
    rw [IntKind.wrap_i64]
    omega
  rw [he]
  omega
theorem ev_const {α : Type} {o : Option α} {r : α} (h : o = some r) : Ev (fun _ => o) r := ⟨0, fun _ _ => h⟩
theorem ev_bind0 {α β : Type} {o : Option α} {f : Nat → α → Option β} {a : α} {r : β} (h : o = some a) (k : Ev (fun n => f n a) r) : Ev (fun n => o.bind (f n)) r := by
  subst h; exact k
theorem ev_if {α : Type} {c : Prop} [Decidable c] {f g : Nat → Option α} {r : α} (h : c) (k : Ev f r) : Ev (fun n => if c then f n else g n) r := by
  simpa only [if_pos h] using k
theorem ev_else {α : Type} {c : Prop} [Decidable c] {f g : Nat → Option α} {r : α} (h : ¬ c) (k : Ev g r) : Ev (fun n => if c then f n else g n) r := by
  simpa only [if_neg h] using k
/-! ### texts as lists of bytes -/
def tx (s : ByteArray) : List UInt8 := s.data.toList
def ba (l : List UInt8) : ByteArray := ⟨l.toArray⟩
theorem tx_ba (l : List UInt8) : tx (ba l) = l := rfl
theorem ba_tx (s : ByteArray) : ba (tx s) = s := rfl
theorem tx_inj {s t : ByteArray} (h : tx s = tx t) : s = t := by
  have := congrArg ba h
  simpa only [ba_tx] using this
theorem ba_inj {s t : List UInt8} (h : ba s = ba t) : s = t := congrArg tx h
theorem tx_length (s : ByteArray) : (tx s).length = s.size := by rw [tx, Array.length_toList]; rfl
theorem ba_size (l : List UInt8) : (ba l).size = l.length := by rw [← tx_length, tx_ba]
theorem toList_loop (s : ByteArray) (n : Nat) : ∀ i r, s.size - i = n → ByteArray.toList.loop s i r = r.reverse ++ (tx s).drop i := by
  induction n with
  | zero =>
    intro i r h
    rw [ByteArray.toList.loop, if_neg (by omega), tx, drop_end (by omega), List.append_nil]
  | succ n ih =>
    intro i r h
    have hi : i < s.size := by omega
    obtain ⟨c, h1, _⟩ := bt_drop hi
    have hg : s.get! i = c := by
      have h3 : (tx s)[i]? = some c := by
        have := congrArg List.head? h1
        simpa [tx, List.head?_drop] using this
      have h5 : s.get! i = s.data[i]! := rfl
      rw [h5, Array.getElem!_eq_getD, Array.getD_eq_getD_getElem?, ← Array.getElem?_toList]
      show (tx s)[i]?.getD default = c
      rw [h3]
      rfl
    rw [ByteArray.toList.loop, if_pos hi, ih (i + 1) _ (by omega), hg, tx, h1]
    simp
theorem toList_eq (s : ByteArray) : s.toList = tx s := by
  rw [ByteArray.toList, toList_loop s s.size 0 [] (by omega)]
  rfl
theorem toList_inj {s t : ByteArray} (h : s.toList = t.toList) : s = t := tx_inj (by rw [← toList_eq, ← toList_eq, h])
theorem bt_tx (s : ByteArray) (i : Nat) : bt s (i : Int) = (((tx s).getD i 0).toNat : Int) := by
  rcases Nat.lt_or_ge i s.size with h | h
  · obtain ⟨c, h1, h2⟩ := bt_drop h
    rw [h2]
    have h3 : (tx s)[i]? = some c := by
      have := congrArg List.head? h1
      simpa [tx, List.head?_drop] using this
    rw [List.getD_eq_getElem?_getD, h3]
    rfl
  · have : ¬ (i : Int).toNat < s.size := by omega
    unfold bt
    rw [dif_neg this, List.getD_eq_getElem?_getD, List.getElem?_eq_none (by rw [tx_length]; exact h)]
    rfl
theorem tx_append (a b : ByteArray) : tx (a ++ b) = tx a ++ tx b := by simp [tx, ByteArray.data_append]
theorem tx_extract (s : ByteArray) (a b : Nat) : tx (s.extract a b) = ((tx s).drop a).take (b - a) := by
  simp [tx, ByteArray.data_extract, List.extract_eq_take_drop]
theorem tx_extract0 (s : ByteArray) (b : Nat) : tx (s.extract 0 b) = (tx s).take b := by rw [tx_extract]; rfl
theorem tx_extractEnd (s : ByteArray) (a : Nat) : tx (s.extract a s.size) = (tx s).drop a := by
  rw [tx_extract, List.take_of_length_le (by rw [List.length_drop, tx_length]; omega)]
theorem tx_nums (l : List Int) : tx (strOfNums l) = l.map fun n => UInt8.ofNat n.toNat := rfl
/-! ### decimals -/
def isDig (c : UInt8) : Bool := decide (48 ≤ c.toNat) && decide (c.toNat ≤ 57)
def dig (d : Nat) : UInt8 := UInt8.ofNat (48 + d)
theorem dig_toNat {d : Nat} (h : d < 10) : (dig d).toNat = 48 + d := by
  simp [dig]; omega
def decL (n : Nat) : List UInt8 := if n < 10 then [dig n] else decL (n / 10) ++ [dig (n % 10)]
theorem decL_lt {n : Nat} (h : n < 10) : decL n = [dig n] := by rw [decL, if_pos h]
theorem decL_ge {n : Nat} (h : ¬ n < 10) : decL n = decL (n / 10) ++ [dig (n % 10)] := by rw [decL, if_neg h]
def valL (l : List UInt8) : Nat := l.foldl (fun v c => 10 * v + (c.toNat - 48)) 0
theorem valL_snoc (l : List UInt8) (c : UInt8) : valL (l ++ [c]) = 10 * valL l + (c.toNat - 48) := by simp [valL, List.foldl_append]
theorem valL_dec (n : Nat) : valL (decL n) = n := by
  induction n using Nat.strongRecOn with
  | ind n ih =>
    by_cases h : n < 10
    · rw [decL_lt h]
      simp [valL, dig_toNat h]
    · rw [decL_ge h, valL_snoc, ih (n / 10) (by omega), dig_toNat (by omega)]
      omega
theorem decL_ne (n : Nat) : decL n ≠ [] := by
  rw [decL]
  split <;> simp
theorem decL_dig (n : Nat) : ∀ c ∈ decL n, isDig c = true := by
  induction n using Nat.strongRecOn with
  | ind n ih =>
    by_cases h : n < 10
    · rw [decL_lt h]
      intro c hc
      rw [List.mem_singleton] at hc
      subst hc
      simp [isDig, dig_toNat h]
      omega
    · rw [decL_ge h]
      intro c hc
      rcases List.mem_append.1 hc with hc | hc
      · exact ih _ (by omega) c hc
      · rw [List.mem_singleton] at hc
        subst hc
        simp [isDig, dig_toNat (show n % 10 < 10 by omega)]
        omega
theorem decL_inj {m n : Nat} (h : decL m = decL n) : m = n := by rw [← valL_dec m, ← valL_dec n, h]
theorem decL_length {n d : Nat} (h : n < 10 ^ (d + 1)) : (decL n).length ≤ d + 1 := by
  induction d generalizing n with
  | zero => rw [decL_lt (by simpa using h)]; simp
  | succ d ih =>
    by_cases hn : n < 10
    · rw [decL_lt hn]; simp
    · rw [decL_ge hn]
      have := ih (n := n / 10) (by rw [Nat.div_lt_iff_lt_mul (by omega)]; rw [Nat.pow_succ] at h; exact h)
      simp
      omega
theorem decL_pos (n : Nat) : 1 ≤ (decL n).length := List.length_pos_iff.2 (decL_ne n)
theorem dig_val {c : UInt8} (h : isDig c = true) : c.toNat - 48 < 10 ∧ dig (c.toNat - 48) = c := by
  simp only [isDig, Bool.and_eq_true, decide_eq_true_eq] at h
  refine ⟨by omega, ?_⟩
  apply UInt8.toNat_inj.1
  rw [dig_toNat (by omega)]
  omega
/-- A number is read from its decimals, and from nothing else. -/
def canon (l : List UInt8) : Prop := l ≠ [] ∧ (∀ c ∈ l, isDig c = true) ∧ (l.length = 1 ∨ l.headD 0 ≠ 48)
theorem dec_val {l : List UInt8} (h : canon l) : decL (valL l) = l ∧ (1 ≤ valL l ∨ l = [48]) := by
  obtain ⟨h0, h1, h2⟩ := h
  induction h3 : l.length using Nat.strongRecOn generalizing l with
  | ind m ih =>
    subst h3
    rcases List.eq_nil_or_concat l with h | ⟨xs, c, h⟩
    · exact absurd h h0
    · rw [List.concat_eq_append] at h
      subst h
      obtain ⟨d1, d2⟩ := dig_val (h1 c (by simp))
      by_cases hx : xs = []
      · subst hx
        have e : valL ([] ++ [c]) = c.toNat - 48 := by simp [valL]
        rw [e, decL_lt d1, d2]
        refine ⟨rfl, ?_⟩
        by_cases hz : 1 ≤ c.toNat - 48
        · exact .inl hz
        · right
          rw [show c.toNat - 48 = 0 by omega] at d2
          rw [← d2]
          rfl
      · have hh : xs.headD 0 ≠ 48 := by
          rcases h2 with h2 | h2
          · exfalso
            apply hx
            apply List.eq_nil_of_length_eq_zero
            simpa using h2
          · cases xs with
            | nil => exact absurd rfl hx
            | cons x t => simpa using h2
        obtain ⟨e1, e2⟩ := ih xs.length (by simp) hx (fun c hc => h1 c (by simp [hc])) (.inr hh) rfl
        have hv : 1 ≤ valL xs := by
          rcases e2 with e2 | e2
          · exact e2
          · exfalso
            apply hh
            rw [e2]
            rfl
        rw [valL_snoc, decL_ge (by omega), show (10 * valL xs + (c.toNat - 48)) / 10 = valL xs by omega, show (10 * valL xs + (c.toNat - 48)) % 10 = c.toNat - 48 by omega, e1, d2]
        exact ⟨rfl, .inl (by omega)⟩
theorem decL_head {n : Nat} (h : 1 ≤ n) : (decL n).headD 0 ≠ 48 := by
  induction n using Nat.strongRecOn with
  | ind n ih =>
    by_cases hn : n < 10
    · rw [decL_lt hn]
      intro h1
      have h2 : dig n = 48 := by simpa using h1
      have := congrArg UInt8.toNat h2
      rw [dig_toNat hn] at this
      have h3 : (48 : UInt8).toNat = 48 := rfl
      omega
    · rw [decL_ge hn]
      have := ih (n / 10) (by omega) (by omega)
      cases e : decL (n / 10) with
      | nil => exact absurd e (decL_ne _)
      | cons x t => rw [e] at this; simpa using this
theorem decL_canon (n : Nat) : canon (decL n) := by
  refine ⟨decL_ne n, decL_dig n, ?_⟩
  rcases Nat.eq_zero_or_pos n with h | h
  · subst h
    left
    rw [decL_lt (by omega)]
    rfl
  · exact .inr (decL_head h)
theorem canon_iff {l : List UInt8} (h1 : ∀ c ∈ l, isDig c = true) : decL (valL l) = l ↔ l ≠ [] ∧ (l.length = 1 ∨ l.headD 0 ≠ 48) := by
  constructor
  · intro h
    have := decL_canon (valL l)
    rw [h] at this
    exact ⟨this.1, this.2.2⟩
  · intro h
    exact (dec_val ⟨h.1, h1, h.2⟩).1
theorem valL_lt {l : List UInt8} (h : ∀ c ∈ l, isDig c = true) : valL l < 10 ^ l.length := by
  induction hn : l.length generalizing l with
  | zero => rw [List.eq_nil_of_length_eq_zero hn]; simp [valL]
  | succ n ih =>
    rcases List.eq_nil_or_concat l with e | ⟨xs, c, e⟩
    · subst e; simp at hn
    · rw [List.concat_eq_append] at e
      subst e
      have hx : xs.length = n := by simpa using hn
      have := ih (l := xs) (fun c hc => h c (by simp [hc])) hx
      have hd := (dig_val (h c (by simp))).1
      rw [valL_snoc, Nat.pow_succ]
      omega
theorem valL_small {l : List UInt8} (h : ∀ c ∈ l, isDig c = true) (h4 : l.length ≤ 4) : valL l < 10000 :=
  Nat.lt_of_lt_of_le (valL_lt h) (show 10 ^ l.length ≤ 10 ^ 4 from Nat.pow_le_pow_right (by omega) h4)
/-- The number that decimals tell. -/
def numL (m : Nat) (l : List UInt8) : Option Nat := if l.length ≤ m ∧ l.all isDig = true ∧ decL (valL l) = l then some (valL l) else none
theorem numL_some {m : Nat} {l : List UInt8} {n : Nat} : numL m l = some n ↔ l = decL n ∧ l.length ≤ m := by
  unfold numL
  constructor
  · intro h
    split at h
    · next h0 =>
      obtain rfl := Option.some.inj h
      exact ⟨h0.2.2.symm, h0.1⟩
    · cases h
  · rintro ⟨h, h'⟩
    subst h
    rw [valL_dec, if_pos ⟨h', by simpa using decL_dig n, rfl⟩]
theorem numL_nil (m : Nat) : numL m [] = none := by
  cases h : numL m [] with
  | none => rfl
  | some n => exact absurd (numL_some.1 h).1.symm (decL_ne n)
/-! ### the records of a log -/
def recL (r : List UInt8) : List UInt8 := decL r.length ++ [58] ++ r ++ [59]
def okR (r : List UInt8) : Prop := 1 ≤ r.length ∧ r.length ≤ 60
instance (r : List UInt8) : Decidable (okR r) := inferInstanceAs (Decidable (_ ∧ _))
theorem recL_length (r : List UInt8) : (recL r).length = (decL r.length).length + 2 + r.length := by simp [recL]; omega
def col (l : List UInt8) : Nat := l.findIdx (· == 58)
def oneAt (l : List UInt8) (i : Nat) : Option (List UInt8 × Nat) := match numL 4 (l.take i) with
  | none => none
  | some n => if 1 ≤ n ∧ n ≤ 60 ∧ i + 2 + n ≤ l.length ∧ l.getD (i + 1 + n) 0 = 59 then some ((l.drop (i + 1)).take n, i + 2 + n) else none
def oneL (l : List UInt8) : Option (List UInt8 × Nat) := if col l < 3 ∧ col l < l.length then oneAt l (col l) else none
theorem col_eq {l : List UInt8} {i : Nat} (h : i ≤ col l) (hl : i < l.length) (h1 : l.getD i 0 = 58) : col l = i := by
  apply Nat.le_antisymm _ h
  rcases Nat.lt_or_ge i (col l) with h2 | h2
  · exfalso
    have h3 := List.not_of_lt_findIdx h2
    rw [List.getD_eq_getElem?_getD, List.getElem?_eq_getElem hl] at h1
    have h4 : l[i] = 58 := by simpa using h1
    rw [h4] at h3
    cases h3
  · exact h2
theorem col_at {l : List UInt8} (h : col l < l.length) : l[col l]'h = 58 := by
  have h1 := List.findIdx_getElem (p := (· == 58)) (w := h)
  exact eq_of_beq h1
theorem col_lt {l : List UInt8} {i : Nat} (h : i ≤ col l) (hl : i < l.length) (h1 : l.getD i 0 ≠ 58) : i + 1 ≤ col l := by
  rcases Nat.lt_or_ge i (col l) with h2 | h2
  · exact h2
  · exfalso
    have e : col l = i := Nat.le_antisymm h2 h
    have hc : col l < l.length := by omega
    have h3 := col_at hc
    apply h1
    subst e
    rw [List.getD_eq_getElem?_getD, List.getElem?_eq_getElem hl]
    simpa using h3
theorem col_rec {d r : List UInt8} (h : ∀ c ∈ d, isDig c = true) : col (d ++ 58 :: r) = d.length := by
  unfold col
  rw [List.findIdx_append]
  have : ¬ List.findIdx (· == 58) d < d.length := by
    rw [List.findIdx_lt_length]
    rintro ⟨c, hc, h2⟩
    have := h c hc
    rw [beq_iff_eq] at h2
    subst h2
    revert this
    decide
  rw [if_neg this]
  simp [List.findIdx_cons]
theorem oneL_rec {r : List UInt8} (h : okR r) (rest : List UInt8) : oneL (recL r ++ rest) = some (r, (recL r).length) := by
  have e : recL r ++ rest = decL r.length ++ 58 :: (r ++ 59 :: rest) := by simp [recL]
  have hc : col (recL r ++ rest) = (decL r.length).length := by rw [e]; exact col_rec (decL_dig _)
  have hd : (decL r.length).length ≤ 2 := decL_length (d := 1) (by have := h.2; omega)
  have hl : (recL r ++ rest).length = (decL r.length).length + 2 + r.length + rest.length := by simp [recL]; omega
  unfold oneL oneAt
  rw [hc, if_pos (by omega)]
  have ht : (recL r ++ rest).take (decL r.length).length = decL r.length := by rw [e]; exact List.take_left
  rw [ht, numL_some.2 ⟨rfl, by omega⟩]
  have hdr : (recL r ++ rest).drop ((decL r.length).length + 1) = r ++ 59 :: rest := by
    rw [e, ← List.drop_drop, List.drop_left]
    rfl
  have hg : (recL r ++ rest).getD ((decL r.length).length + 1 + r.length) 0 = 59 := by
    have : ((recL r ++ rest).drop ((decL r.length).length + 1)).getD r.length 0 = 59 := by rw [hdr]; simp [List.getD_eq_getElem?_getD]
    rw [List.getD_eq_getElem?_getD, List.getElem?_drop] at this
    rw [List.getD_eq_getElem?_getD]
    exact this
  simp only []
  rw [if_pos ⟨h.1, h.2, by omega, hg⟩, hdr, recL_length]
  rw [show (decL r.length).length + 2 + r.length = (decL r.length).length + 2 + r.length from rfl, List.take_left]
theorem oneL_some {l r : List UInt8} {n : Nat} (h : oneL l = some (r, n)) : okR r ∧ n = (recL r).length ∧ ∃ rest, l = recL r ++ rest := by
  unfold oneL oneAt at h
  split at h
  · next hc =>
    split at h
    · cases h
    · next m hm =>
      split at h
      · next hk =>
        obtain ⟨k1, k2, k3, k4⟩ := hk
        have h1 := Option.some.inj h
        have hr : r = (l.drop (col l + 1)).take m := (congrArg Prod.fst h1).symm
        have hn : n = col l + 2 + m := (congrArg Prod.snd h1).symm
        obtain ⟨hm1, hm2⟩ := numL_some.1 hm
        have hrl : r.length = m := by rw [hr]; simp; omega
        have hcl : l[col l]'(hc.2) = 58 := col_at hc.2
        have hel : l = recL r ++ l.drop (col l + 2 + m) := by
          have a1 : l = l.take (col l) ++ l.drop (col l) := (List.take_append_drop _ _).symm
          have a2 : l.drop (col l) = 58 :: l.drop (col l + 1) := by rw [List.drop_eq_getElem_cons hc.2, hcl]
          have a3 : l.drop (col l + 1) = r ++ l.drop (col l + 1 + m) := by
            rw [hr, ← List.drop_drop (i := m)]
            exact (List.take_append_drop _ _).symm
          have hlt : col l + 1 + m < l.length := by omega
          have a4 : l.drop (col l + 1 + m) = 59 :: l.drop (col l + 2 + m) := by
            rw [List.drop_eq_getElem_cons hlt]
            rw [List.getD_eq_getElem?_getD, List.getElem?_eq_getElem hlt] at k4
            have : l[col l + 1 + m] = 59 := by simpa using k4
            rw [this, show col l + 1 + m + 1 = col l + 2 + m by omega]
          conv => lhs; rw [a1, a2, a3, a4, hm1]
          simp [recL, hrl]
        refine ⟨⟨by omega, by omega⟩, ?_, _, hel⟩
        rw [recL_length, hrl, ← hm1, hn]
        simp
        omega
      · cases h
  · cases h
theorem oneL_len {l r : List UInt8} {n : Nat} (h : oneL l = some (r, n)) : 4 ≤ n ∧ n ≤ l.length := by
  obtain ⟨h1, h2, rest, h3⟩ := oneL_some h
  have := recL_length r
  have := decL_pos r.length
  have := h1.1
  rw [h3, List.length_append]
  omega
def readL (l : List UInt8) : List (List UInt8) × Nat :=
  match h : oneL l with
  | none => ([], 0)
  | some (r, n) => (r :: (readL (l.drop n)).1, n + (readL (l.drop n)).2)
termination_by l.length
decreasing_by all_goals (have := oneL_len h; rw [List.length_drop]; omega)
theorem readL_none {l : List UInt8} (h : oneL l = none) : readL l = ([], 0) := by
  rw [readL]
  split
  · rfl
  · next h1 => rw [h] at h1; cases h1
theorem readL_some {l r : List UInt8} {n : Nat} (h : oneL l = some (r, n)) : readL l = (r :: (readL (l.drop n)).1, n + (readL (l.drop n)).2) := by
  rw [readL]
  split
  · next h1 => rw [h] at h1; cases h1
  · next h1 => rw [h] at h1; cases h1; rfl
/-- The log of some records. -/
def logL (rs : List (List UInt8)) : List UInt8 := (rs.map recL).flatten
theorem logL_cons (r : List UInt8) (rs : List (List UInt8)) : logL (r :: rs) = recL r ++ logL rs := rfl
theorem logL_append (a b : List (List UInt8)) : logL (a ++ b) = logL a ++ logL b := by simp [logL]
theorem readL_log {rs : List (List UInt8)} (h : ∀ r ∈ rs, okR r) (rest : List UInt8) : readL (logL rs ++ rest) = (rs ++ (readL rest).1, (logL rs).length + (readL rest).2) := by
  induction rs with
  | nil => simp [logL]
  | cons r rs ih =>
    rw [logL_cons, List.append_assoc, readL_some (oneL_rec (h r (by simp)) _), List.drop_left, ih (fun x hx => h x (by simp [hx]))]
    simp
    omega
theorem readL_spec (l : List UInt8) : (∀ r ∈ (readL l).1, okR r) ∧ l = logL (readL l).1 ++ l.drop (readL l).2 ∧ (readL l).2 = (logL (readL l).1).length ∧ oneL (l.drop (readL l).2) = none := by
  induction hn : l.length using Nat.strongRecOn generalizing l with
  | ind m ih =>
    subst hn
    cases h : oneL l with
    | none =>
      rw [readL_none h]
      exact ⟨by simp, rfl, rfl, h⟩
    | some p =>
      obtain ⟨r, n⟩ := p
      obtain ⟨h1, h2, rest, h3⟩ := oneL_some h
      obtain ⟨h4, h5⟩ := oneL_len h
      have hd : l.drop n = rest := by rw [h3, h2, List.drop_left]
      obtain ⟨i1, i2, i3, i4⟩ := ih _ (by rw [List.length_drop]; omega) (l.drop n) rfl
      rw [readL_some h]
      refine ⟨?_, ?_, ?_, ?_⟩
      · intro x hx
        rcases List.mem_cons.1 hx with hx | hx
        · rw [hx]; exact h1
        · exact i1 x hx
      · show l = logL (r :: (readL (l.drop n)).1) ++ l.drop (n + (readL (l.drop n)).2)
        rw [logL_cons, List.append_assoc, ← List.drop_drop, ← i2, hd]
        exact h3
      · show n + (readL (l.drop n)).2 = (logL (r :: (readL (l.drop n)).1)).length
        rw [logL_cons, List.length_append, ← i3, h2]
      · show oneL (l.drop (n + (readL (l.drop n)).2)) = none
        rw [← List.drop_drop]
        exact i4
theorem readL_le (l : List UInt8) : (readL l).2 ≤ l.length := by
  obtain ⟨_, h2, h3, _⟩ := readL_spec l
  have := congrArg List.length h2
  rw [List.length_append] at this
  omega
theorem logL_length {rs : List (List UInt8)} (h : ∀ r ∈ rs, okR r) : 4 * rs.length ≤ (logL rs).length := by
  induction rs with
  | nil => simp
  | cons r rs ih =>
    have := ih (fun x hx => h x (by simp [hx]))
    have := recL_length r
    have := decL_pos r.length
    have := (h r (by simp)).1
    rw [logL_cons, List.length_append, List.length_cons]
    omega
theorem readL_count (l : List UInt8) : 4 * (readL l).1.length ≤ (readL l).2 := by
  obtain ⟨h1, _, h3, _⟩ := readL_spec l
  rw [h3]
  exact logL_length h1
theorem readL_take (l : List UInt8) : l.take (readL l).2 = logL (readL l).1 := by
  obtain ⟨_, h2, h3, _⟩ := readL_spec l
  have h5 := congrArg (List.take (logL (readL l).1).length) h2
  rw [List.take_left] at h5
  rw [h3]
  exact h5
theorem readL_cut (l : List UInt8) (m : Nat) : (readL (l.take m)).1 <+: (readL l).1 ∧ (readL (l.take m)).2 ≤ (readL l).2 ∧ (readL (l.take m)).2 ≤ m := by
  obtain ⟨h1, h2, h3, h4⟩ := readL_spec (l.take m)
  have e : l = logL (readL (l.take m)).1 ++ ((l.take m).drop (readL (l.take m)).2 ++ l.drop m) := by
    rw [← List.append_assoc, ← h2, List.take_append_drop]
  have hr := readL_log h1 ((l.take m).drop (readL (l.take m)).2 ++ l.drop m)
  rw [← e] at hr
  refine ⟨?_, ?_, ?_⟩
  · rw [hr]; exact List.prefix_append _ _
  · rw [hr, h3]; exact Nat.le_add_right _ _
  · have := readL_le (l.take m)
    have := List.length_take_le m l
    omega
/-- A log of whole records alone. -/
theorem readL_whole {l : List UInt8} (h : (readL l).2 = l.length) : l = logL (readL l).1 := by
  have := readL_take l
  rw [h, List.take_length] at this
  exact this
theorem readL_of_log {rs : List (List UInt8)} (h : ∀ r ∈ rs, okR r) : readL (logL rs) = (rs, (logL rs).length) := by
  have := readL_log h []
  have h0 : readL [] = ([], 0) := readL_none (by decide)
  rw [h0] at this
  simpa using this
def resOne : Option (List UInt8 × Nat) → ByteArray × Int
  | none => (⟨#[]⟩, 0)
  | some (r, n) => (ba r, n)
def resLog (p : List (List UInt8) × Nat) : List ByteArray × Int := (p.1.map ba, (p.2 : Int))
def resNum : Option Nat → Int
  | none => -1
  | some n => n
theorem ev_eq {α : Type} {g : Nat → Option α} {r r' : α} (h : Ev g r) (e : r = r') : Ev g r' := e ▸ h
theorem ev_is {α : Type} {r r' : α} (e : r = r') : Ev (fun _ => some r) r' := e ▸ Ev.now r
theorem Ev.none_absurd {α : Type} {g : Nat → Option α} {r : α} (h : False) : Ev g r := h.elim
/-! ### the text that a mark writes -/
def mkL (n : Nat) (acc : List UInt8) : List UInt8 := if 0 < n then mkL (n / 10) (dig (n % 10) :: acc) else 109 :: acc
termination_by n
theorem mkL_zero (acc : List UInt8) : mkL 0 acc = 109 :: acc := by rw [mkL]; rfl
theorem mkL_pos {n : Nat} (h : 0 < n) (acc : List UInt8) : mkL n acc = mkL (n / 10) (dig (n % 10) :: acc) := by rw [mkL, if_pos h]
/-- What a list of n texts holds behind a mark that begins at m. -/
def markL (m n : Nat) : List ByteArray := (List.range n).map fun i => ba (mkL (m + i) [])
theorem rdOf_nat {α : Type} (d : α) (l : List α) (i : Nat) (h : i < l.length) : rdOf d l (i : Int) = l[i] := by
  unfold rdOf
  rw [Int.toNat_natCast, List.getD_eq_getElem?_getD, List.getElem?_eq_getElem h]
  rfl
/-! ### the blocks of a text -/
theorem bt_out (t : ByteArray) (i : Nat) (h : t.size ≤ i) : bt t (i : Int) = 0 := by
  rw [bt_tx, List.getD_eq_getElem?_getD, List.getElem?_eq_none (by rw [tx_length]; exact h)]
  rfl
def blkL (t : ByteArray) (i : Nat) : List Int := [bt t ((4 * i : Nat) : Int), bt t ((4 * i + 1 : Nat) : Int), bt t ((4 * i + 2 : Nat) : Int), bt t ((4 * i + 3 : Nat) : Int)]
def cutN (n : Nat) : Nat := (n + 3) / 4
def cutTo (t : ByteArray) (n : Nat) : List ByteArray := (List.range n).map fun i => strOfNums (blkL t i)
theorem cutTo_length (t : ByteArray) (n : Nat) : (cutTo t n).length = n := by simp [cutTo]
theorem cutTo_succ (t : ByteArray) (n : Nat) : cutTo t (n + 1) = cutTo t n ++ [strOfNums (blkL t n)] := by
  rw [cutTo, cutTo, List.range_succ, List.map_append]
  rfl
def cutL (t : ByteArray) : List ByteArray := if 1 ≤ t.size ∧ t.size ≤ 24 then cutTo t (cutN t.size) else []
theorem cutL_length (t : ByteArray) : (cutL t).length ≤ 6 := by
  unfold cutL
  split
  · rw [cutTo_length, cutN]; omega
  · simp
theorem ofNat_bt (t : ByteArray) (i : Nat) : UInt8.ofNat (bt t (i : Int)).toNat = (tx t).getD i 0 := by
  rw [bt_tx, Int.toNat_natCast, UInt8.ofNat_toNat]
/-- The first n blocks of a text, one behind the other. -/
def joinTo (t : ByteArray) (n : Nat) : ByteArray := ba ((List.range (4 * n)).map fun j => (tx t).getD j 0)
theorem joinTo_size (t : ByteArray) (n : Nat) : (joinTo t n).size = 4 * n := by rw [joinTo, ba_size]; simp
theorem joinTo_succ (t : ByteArray) (n : Nat) : joinTo t n ++ strOfNums (blkL t n) = joinTo t (n + 1) := by
  apply tx_inj
  rw [tx_append, joinTo, joinTo, tx_ba, tx_ba, tx_nums, show 4 * (n + 1) = 4 * n + 1 + 1 + 1 + 1 by omega, List.range_succ, List.range_succ, List.range_succ, List.range_succ]
  simp only [blkL, List.map_append, List.map_cons, List.map_nil, ofNat_bt, List.append_assoc]
  rfl
theorem joinTo_bt (t : ByteArray) (n j : Nat) (h : j < 4 * n) : bt (joinTo t n) (j : Int) = bt t (j : Int) := by
  rw [bt_tx, bt_tx, joinTo, tx_ba]
  simp [List.getD_eq_getElem?_getD, List.getElem?_map, List.getElem?_range h]
theorem joinTo_take (t : ByteArray) (n : Nat) (h : t.size ≤ 4 * n) : (joinTo t n).extract 0 t.size = t := by
  apply tx_inj
  rw [tx_extract0, joinTo, tx_ba]
  apply List.ext_getElem?
  intro j
  rw [List.getElem?_take]
  rcases Nat.lt_or_ge j t.size with hj | hj
  · rw [if_pos hj, List.getElem?_map, List.getElem?_range (by omega)]
    have : j < (tx t).length := by rw [tx_length]; exact hj
    simp [List.getD_eq_getElem?_getD, List.getElem?_eq_getElem this]
  · rw [if_neg (by omega), List.getElem?_eq_none (by rw [tx_length]; exact hj)]
/-! ### what comes out in the end, and what is known of it -/
def Tot {α : Type} (g : Nat → Option α) (P : α → Prop) : Prop := ∃ r, Ev g r ∧ P r
theorem Tot.now {α : Type} {P : α → Prop} {r : α} (h : P r) : Tot (fun _ => some r) P := ⟨r, Ev.now r, h⟩
theorem Tot.ev {α : Type} {g : Nat → Option α} {P : α → Prop} {r : α} (h : Ev g r) (h2 : P r) : Tot g P := ⟨r, h, h2⟩
theorem Tot.bind {α β : Type} {g : Nat → Option α} {f : Nat → α → Option β} {Q : α → Prop} {P : β → Prop} (h : Tot g Q) (k : ∀ a, Q a → Tot (fun n => f n a) P) : Tot (fun n => (g n).bind (f n)) P := by
  obtain ⟨a, ha, hq⟩ := h
  obtain ⟨r, hr, hp⟩ := k a hq
  exact ⟨r, Ev.bind ha hr, hp⟩
theorem Tot.bind0 {α β : Type} {o : Option α} {f : Nat → α → Option β} {a : α} {P : β → Prop} (h : o = some a) (k : Tot (fun n => f n a) P) : Tot (fun n => o.bind (f n)) P := by
  subst h; exact k
theorem Tot.ok {α : Type} {c : Prop} [Decidable c] {f g : Nat → Option α} {P : α → Prop} (h : c) (k : Tot f P) : Tot (fun n => if c then f n else g n) P := by
  simpa only [if_pos h] using k
theorem Tot.no {α : Type} {c : Prop} [Decidable c] {f g : Nat → Option α} {P : α → Prop} (h : ¬ c) (k : Tot g P) : Tot (fun n => if c then f n else g n) P := by
  simpa only [if_neg h] using k
theorem Tot.ite {α : Type} {c : Prop} [Decidable c] {f g : Nat → Option α} {P : α → Prop} (h1 : c → Tot f P) (h2 : ¬ c → Tot g P) : Tot (fun n => if c then f n else g n) P := by
  by_cases h : c
  · exact Tot.ok h (h1 h)
  · exact Tot.no h (h2 h)
theorem Tot.step {α : Type} {g f : Nat → Option α} {P : α → Prop} (h : ∀ k, g (k + 1) = f k) (k : Tot f P) : Tot g P := by
  obtain ⟨r, hr, hp⟩ := k
  exact ⟨r, Ev.step h hr, hp⟩
theorem Tot.imp {α : Type} {g : Nat → Option α} {P Q : α → Prop} (h : Tot g P) (k : ∀ r, P r → Q r) : Tot g Q := by
  obtain ⟨r, hr, hp⟩ := h
  exact ⟨r, hr, k r hp⟩
/-- What is drawn: a number below n. -/
def Pk (p n : Int) (r : Int × Int) : Prop := r.2 = p + 1 ∧ 0 ≤ r.1 ∧ (1 ≤ n → r.1 < n) ∧ r.1 ≤ 1000000000
/-! ### shelves -/
def okL (t : ByteArray) (f : Int) : Bool := decide (t.size ≤ 2400) && inB f 0 (t.size : Int) && (decide ((readL (tx t)).2 = t.size) && decide (((readL ((tx t).take f.toNat)).2 : Int) = f))
def forceL (t : ByteArray) (f : Int) : ByteArray × Int := if okL t f = true then (t, (t.size : Int)) else (⟨#[]⟩, 0)
theorem okL_some {t : ByteArray} {f : Int} (h : okL t f = true) : t.size ≤ 2400 ∧ 0 ≤ f ∧ f ≤ (t.size : Int) ∧ (readL (tx t)).2 = t.size ∧ ((readL ((tx t).take f.toNat)).2 : Int) = f := by
  simp only [okL, Bool.and_eq_true, decide_eq_true_eq, inB_iff] at h
  exact ⟨h.1.1, h.1.2.1, h.1.2.2, h.2.1, h.2.2⟩
/-- How much of a log is left behind a fall. -/
def leftN (t : ByteArray) (f keep : Int) : Nat := (if keep > (t.size : Int) - f then (t.size : Int) else if keep > 0 then f + keep else f).toNat
def fallL (t : ByteArray) (f keep : Int) : ByteArray × Int := if okL t f = true then (ba ((tx t).take (readL ((tx t).take (leftN t f keep))).2), ((readL ((tx t).take (leftN t f keep))).2 : Int)) else (⟨#[]⟩, 0)
theorem bytes_beq (s : ByteArray) : (s.toList == s.toList) = true := beq_self_eq_true _
/-- A log of whole records, all forced: it is in form, and a fall leaves it as it is. -/
theorem okL_whole {t : ByteArray} (h1 : t.size ≤ 2400) (h2 : (readL (tx t)).2 = t.size) : okL t (t.size : Int) = true := by
  unfold okL
  have ht : (tx t).take t.size = tx t := by rw [← tx_length, List.take_length]
  rw [decide_eq_true h1, inB_yes (by omega) (by omega), Int.toNat_natCast, ht, h2]
  simp
theorem fallL_whole {t : ByteArray} (h1 : t.size ≤ 2400) (h2 : (readL (tx t)).2 = t.size) (keep : Int) : fallL t (t.size : Int) keep = (t, (t.size : Int)) := by
  have hl : leftN t (t.size : Int) keep = t.size := by
    unfold leftN
    split
    · omega
    · split <;> omega
  have ht : (tx t).take t.size = tx t := by rw [← tx_length, List.take_length]
  rw [fallL, if_pos (okL_whole h1 h2), hl, ht, h2, ht, ba_tx]
/-- What a fall leaves. -/
theorem fallL_ok {t : ByteArray} {f keep : Int} (h : okL t f = true) :
    ∃ x : ByteArray, fallL t f keep = (x, (x.size : Int)) ∧ f ≤ (x.size : Int) ∧ x.size ≤ t.size ∧ x = t.extract 0 x.size ∧ x.size ≤ 2400 ∧ (readL (tx x)).2 = x.size := by
  obtain ⟨h1, h2, h3, h4, h5⟩ := okL_some h
  have hle : leftN t f keep ≤ t.size := by
    unfold leftN
    split
    · omega
    · split <;> omega
  have hf : f.toNat ≤ leftN t f keep := by
    unfold leftN
    split
    · omega
    · split <;> omega
  have hn := readL_le ((tx t).take (leftN t f keep))
  rw [List.length_take, tx_length] at hn
  have hz : (ba ((tx t).take (readL ((tx t).take (leftN t f keep))).2)).size = (readL ((tx t).take (leftN t f keep))).2 := by
    rw [ba_size, List.length_take, tx_length]; omega
  have htt : (tx t).take (readL ((tx t).take (leftN t f keep))).2 = logL (readL ((tx t).take (leftN t f keep))).1 := by
    have := readL_take ((tx t).take (leftN t f keep))
    rw [List.take_take, Nat.min_eq_left (by omega)] at this
    exact this
  refine ⟨ba ((tx t).take (readL ((tx t).take (leftN t f keep))).2), ?_, ?_, ?_, ?_, ?_, ?_⟩
  · rw [fallL, if_pos h, hz]
  · rw [hz]
    have := (readL_cut ((tx t).take (leftN t f keep)) f.toNat).2.1
    rw [List.take_take, Nat.min_eq_left hf] at this
    omega
  · rw [hz]; omega
  · apply tx_inj
    rw [hz, tx_ba, tx_extract0]
  · rw [hz]; omega
  · rw [hz, tx_ba, htt, readL_of_log (readL_spec _).1]
    show (logL _).length = _
    exact (readL_spec _).2.2.1.symm
theorem pair_same (a : ByteArray) (b : Int) : (!(a.toList == a.toList) || (!(b == b))) = false := by simp
theorem pair_eq (a : ByteArray) (b : Int) : (a.toList == a.toList && (b == b)) = true := by simp
end Go.Proofs.Ytdgigadocempdaa.Com
