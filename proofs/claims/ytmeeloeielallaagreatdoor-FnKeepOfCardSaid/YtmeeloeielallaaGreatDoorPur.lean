/- Words for numbers, texts, lists, decimals, records and logs: plain facts, with no Go in sight. No condition beyond those that stand in each. -/
import Derived.Test.YtmeeloeielallaaGreatDoorEv
import Derived.Laws.Sem
import Derived.Laws.BitsLemmas
namespace Go.Ev
set_option linter.unusedVariables false
set_option linter.unusedSimpArgs false
/-! ### 64 bits -/
def w64 (x : Int) : Int := IntKind.wrap .i64 x
theorem w64_id {x : Int} (h0 : -9223372036854775808 ≤ x) (h1 : x ≤ 9223372036854775807) : w64 x = x := by
 unfold w64
 rw [IntKind.wrap_i64]
 omega
theorem w64_nat (n : Nat) (h : n < 9223372036854775808) : w64 (n : Int) = (n : Int) := w64_id (by omega) (by omega)
theorem w64_p1 (a : Nat) (h : a < 4611686018427387904) : w64 ((a : Int) + 1) = ((a + 1 : Nat) : Int) := w64_id (x := (a : Int) + 1) (by omega) (by omega)
theorem w64_pn (a n : Nat) (h : a + n < 9223372036854775808) : w64 ((a : Int) + (n : Int)) = ((a + n : Nat) : Int) := w64_id (x := (a : Int) + (n : Int)) (by omega) (by omega)
def w8 (x : Int) : Int := IntKind.wrap .u8 x
theorem w8_id {x : Int} (h0 : 0 ≤ x) (h1 : x ≤ 255) : w8 x = x := by
 unfold w8
 rw [IntKind.wrap_u8]
 omega
attribute [irreducible] w64 w8
/-! ### steps -/
theorem ct {α : Type} {c : Bool} {a b : α} (h : c = true) : cond c a b = a := by rw [h]; rfl
theorem cf {α : Type} {c : Bool} {a b : α} (h : c = false) : cond c a b = b := by rw [h]; rfl
theorem gd {i n : Nat} (h : i < n) : (decide (0 ≤ (i : Int)) && decide ((i : Int) < (n : Int))) = true := by
 simp; omega
theorem dt {p : Prop} [Decidable p] (h : p) : decide p = true := decide_eq_true h
theorem df {p : Prop} [Decidable p] (h : ¬ p) : decide p = false := decide_eq_false h
theorem nz {n : Nat} (h : n ≠ 0) : (!decide ((n : Int) = 0)) = true := by simp [h]
theorem lim_le {n : Nat} (h : n ≤ 1099511627776) : Nat.ble n lim = true := Nat.ble_eq_true_of_le h
/-- a ≤ x ≤ b, as a Bool. -/
def inB (x a b : Int) : Bool := decide (a ≤ x) && decide (x ≤ b)
theorem inB_iff {x a b : Int} : inB x a b = true ↔ a ≤ x ∧ x ≤ b := by simp [inB]
theorem inB_yes {x a b : Int} (h0 : a ≤ x) (h1 : x ≤ b) : inB x a b = true := inB_iff.2 ⟨h0, h1⟩
theorem inB_no {x a b : Int} (h : ¬ (a ≤ x ∧ x ≤ b)) : inB x a b = false := by
 cases e : inB x a b with
 | false => rfl
 | true => exact absurd (inB_iff.1 e) h
/-- The bytes that a message's text may hold. -/
def chOk (c : UInt8) : Bool := decide (32 ≤ c.toNat) && decide (c.toNat ≤ 126)
/-- A message's text. -/
def txOk (t : ByteArray) : Bool := inB (t.size : Int) 1 24 && t.data.toList.all chOk
/-- A message. -/
def ntOk (fr nu dst un : Int) (t : ByteArray) : Bool := inB fr 0 3 && inB dst 0 3 && inB nu 1 99 && inB un 1 999 && txOk t
/-- Numbers of one byte. -/
def Byt (l : List Int) : Prop := ∀ x ∈ l, 0 ≤ x ∧ x ≤ 255
theorem byt_take {l : List Int} (h : Byt l) (n : Nat) : Byt (l.take n) := fun x hx => h x (List.mem_of_mem_take hx)
theorem tdivN (n d : Nat) : Int.tdiv (n : Int) (d : Int) = ((n / d : Nat) : Int) := by rw [Int.tdiv_eq_ediv_of_nonneg (by omega)]; rfl
theorem tmodN (n d : Nat) : Int.tmod (n : Int) (d : Int) = ((n % d : Nat) : Int) := by rw [Int.tmod_eq_emod_of_nonneg (by omega)]; rfl
theorem byt_get {l : List Int} (h : Byt l) (i : Nat) : 0 ≤ l.getD i 0 ∧ l.getD i 0 ≤ 255 := by
 rw [List.getD_eq_getElem?_getD]
 cases e : l[i]? with
 | none => simp
 | some v => exact h v (List.mem_of_getElem? e)
theorem w64_xor (a b : Nat) (ha : a < 4611686018427387904) (hb : b < 4611686018427387904) : w64 (((BitVec.ofInt (IntKind.bits .i64) (a : Int) ^^^ BitVec.ofInt (IntKind.bits .i64) (b : Int)).toNat : Nat) : Int) = ((a ^^^ b : Nat) : Int) ∧ a ^^^ b < 4611686018427387904 := by
 have ha' : a % 2 ^ IntKind.i64.bits = a := Nat.mod_eq_of_lt (by show a < 2 ^ 64; omega)
 have hb' : b % 2 ^ IntKind.i64.bits = b := Nat.mod_eq_of_lt (by show b < 2 ^ 64; omega)
 have hc : a ^^^ b < 2 ^ 62 := Nat.xor_lt_two_pow (by omega) (by omega)
 refine ⟨?_, by omega⟩
 simp only [BitVec.ofInt_natCast, BitVec.toNat_xor, BitVec.toNat_ofNat, ha', hb']
 exact w64_id (by omega) (by omega)
theorem tmod_pos {x n : Int} (hx : 0 ≤ x) (hn : 1 ≤ n) : Int.tmod x n = ((x.toNat % n.toNat : Nat) : Int) ∧ ((x.toNat % n.toNat : Nat) : Int) < n := by
 obtain ⟨a, rfl⟩ := Int.eq_ofNat_of_zero_le hx
 obtain ⟨b, rfl⟩ := Int.eq_ofNat_of_zero_le (show 0 ≤ n by omega)
 have := Nat.mod_lt a (show 0 < b by omega)
 simp only [Int.toNat_natCast]
 exact ⟨tmodN a b, by omega⟩
/-! ### texts as lists of bytes -/
def tx (s : ByteArray) : List UInt8 := s.data.toList
def ba (l : List UInt8) : ByteArray := ⟨l.toArray⟩
theorem tx_ba (l : List UInt8) : tx (ba l) = l := rfl
theorem ba_tx (s : ByteArray) : ba (tx s) = s := rfl
theorem tx_inj {s t : ByteArray} (h : tx s = tx t) : s = t := by
 have := congrArg ba h
 simpa only [ba_tx] using this
theorem tx_length (s : ByteArray) : (tx s).length = s.size := by rw [tx, Array.length_toList]; rfl
theorem ba_size (l : List UInt8) : (ba l).size = l.length := by rw [← tx_length, tx_ba]
theorem byteAt_tx (s : ByteArray) (i : Nat) : byteAt s i = (((tx s).getD i 0).toNat : Int) := rfl
theorem ofBytes_tx (l : List Int) : tx (ofBytes l) = l.map fun n => UInt8.ofNat n.toNat := rfl
theorem ofBytes_size (l : List Int) : (ofBytes l).size = l.length := by rw [← tx_length, ofBytes_tx, List.length_map]
theorem sz_append (a b : ByteArray) : (a ++ b).size = a.size + b.size := ByteArray.size_append
theorem tx_append (a b : ByteArray) : tx (a ++ b) = tx a ++ tx b := by simp [tx, ByteArray.data_append]
theorem tx_extract (s : ByteArray) (a b : Nat) : tx (s.extract a b) = ((tx s).drop a).take (b - a) := by
 simp [tx, ByteArray.data_extract, List.extract_eq_take_drop]
theorem tx_extract0 (s : ByteArray) (b : Nat) : tx (s.extract 0 b) = (tx s).take b := by rw [tx_extract]; rfl
theorem tx_extractEnd (s : ByteArray) (a : Nat) : tx (s.extract a s.size) = (tx s).drop a := by
 rw [tx_extract, List.take_of_length_le (by rw [List.length_drop, tx_length]; omega)]
/-! ### decimals -/
def isDig (c : UInt8) : Bool := decide (48 ≤ c.toNat) && decide (c.toNat ≤ 57)
def dig (d : Nat) : UInt8 := UInt8.ofNat (48 + d)
theorem dig_toNat {d : Nat} (h : d < 10) : (dig d).toNat = 48 + d := by
 simp [dig]; omega
def decL (n : Nat) : List UInt8 := if n < 10 then [dig n] else decL (n / 10) ++ [dig (n % 10)]
theorem decL_lt {n : Nat} (h : n < 10) : decL n = [dig n] := by rw [decL, if_pos h]
theorem decL_ge {n : Nat} (h : ¬ n < 10) : decL n = decL (n / 10) ++ [dig (n % 10)] := by rw [decL, if_neg h]
def valL (l : List UInt8) : Nat := l.foldl (fun v c => 10 * v + (c.toNat - 48)) 0
theorem valL_snoc (l : List UInt8) (c : UInt8) : valL (l ++ [c]) = 10 * valL l + (c.toNat - 48) := by simp [valL, List.foldl_append]
theorem valL_dec (n : Nat) : valL (decL n) = n := by
 induction n using Nat.strongRecOn with
 | ind n ih =>
   by_cases h : n < 10
   · rw [decL_lt h]
     simp [valL, dig_toNat h]
   · rw [decL_ge h, valL_snoc, ih (n / 10) (by omega), dig_toNat (by omega)]
     omega
theorem decL_ne (n : Nat) : decL n ≠ [] := by
 rw [decL]
 split <;> simp
theorem decL_dig (n : Nat) : ∀ c ∈ decL n, isDig c = true := by
 induction n using Nat.strongRecOn with
 | ind n ih =>
   by_cases h : n < 10
   · rw [decL_lt h]
     intro c hc
     rw [List.mem_singleton] at hc
     subst hc
     simp [isDig, dig_toNat h]
     omega
   · rw [decL_ge h]
     intro c hc
     rcases List.mem_append.1 hc with hc | hc
     · exact ih _ (by omega) c hc
     · rw [List.mem_singleton] at hc
       subst hc
       simp [isDig, dig_toNat (show n % 10 < 10 by omega)]
       omega
theorem decL_inj {m n : Nat} (h : decL m = decL n) : m = n := by rw [← valL_dec m, ← valL_dec n, h]
theorem decL_length {n d : Nat} (h : n < 10 ^ (d + 1)) : (decL n).length ≤ d + 1 := by
 induction d generalizing n with
 | zero => rw [decL_lt (by simpa using h)]; simp
 | succ d ih =>
   by_cases hn : n < 10
   · rw [decL_lt hn]; simp
   · rw [decL_ge hn]
     have := ih (n := n / 10) (by rw [Nat.div_lt_iff_lt_mul (by omega)]; rw [Nat.pow_succ] at h; exact h)
     simp
     omega
theorem dig_val {c : UInt8} (h : isDig c = true) : c.toNat - 48 < 10 ∧ dig (c.toNat - 48) = c := by
 simp only [isDig, Bool.and_eq_true, decide_eq_true_eq] at h
 refine ⟨by omega, ?_⟩
 apply UInt8.toNat_inj.1
 rw [dig_toNat (by omega)]
 omega
/-- A number is read from its decimals, and from nothing else. -/
def canon (l : List UInt8) : Prop := l ≠ [] ∧ (∀ c ∈ l, isDig c = true) ∧ (l.length = 1 ∨ l.headD 0 ≠ 48)
theorem dec_val {l : List UInt8} (h : canon l) : decL (valL l) = l ∧ (1 ≤ valL l ∨ l = [48]) := by
 obtain ⟨h0, h1, h2⟩ := h
 induction h3 : l.length using Nat.strongRecOn generalizing l with
 | ind m ih =>
   subst h3
   rcases List.eq_nil_or_concat l with h | ⟨xs, c, h⟩
   · exact absurd h h0
   · rw [List.concat_eq_append] at h
     subst h
     obtain ⟨d1, d2⟩ := dig_val (h1 c (by simp))
     by_cases hx : xs = []
     · subst hx
       have e : valL ([] ++ [c]) = c.toNat - 48 := by simp [valL]
       rw [e, decL_lt d1, d2]
       refine ⟨rfl, ?_⟩
       by_cases hz : 1 ≤ c.toNat - 48
       · exact .inl hz
       · right
         rw [show c.toNat - 48 = 0 by omega] at d2
         rw [← d2]
         rfl
     · have hh : xs.headD 0 ≠ 48 := by
         rcases h2 with h2 | h2
         · exfalso
           apply hx
           apply List.eq_nil_of_length_eq_zero
           simpa using h2
         · cases xs with
           | nil => exact absurd rfl hx
           | cons x t => simpa using h2
       obtain ⟨e1, e2⟩ := ih xs.length (by simp) hx (fun c hc => h1 c (by simp [hc])) (.inr hh) rfl
       have hv : 1 ≤ valL xs := by
         rcases e2 with e2 | e2
         · exact e2
         · exfalso
           apply hh
           rw [e2]
           rfl
       rw [valL_snoc, decL_ge (by omega), show (10 * valL xs + (c.toNat - 48)) / 10 = valL xs by omega, show (10 * valL xs + (c.toNat - 48)) % 10 = c.toNat - 48 by omega, e1, d2]
       exact ⟨rfl, .inl (by omega)⟩
theorem decL_head {n : Nat} (h : 1 ≤ n) : (decL n).headD 0 ≠ 48 := by
 induction n using Nat.strongRecOn with
 | ind n ih =>
   by_cases hn : n < 10
   · rw [decL_lt hn]
     intro h1
     have h2 : dig n = 48 := by simpa using h1
     have := congrArg UInt8.toNat h2
     rw [dig_toNat hn] at this
     have h3 : (48 : UInt8).toNat = 48 := rfl
     omega
   · rw [decL_ge hn]
     have := ih (n / 10) (by omega) (by omega)
     cases e : decL (n / 10) with
     | nil => exact absurd e (decL_ne _)
     | cons x t => rw [e] at this; simpa using this
theorem decL_canon (n : Nat) : canon (decL n) := by
 refine ⟨decL_ne n, decL_dig n, ?_⟩
 rcases Nat.eq_zero_or_pos n with h | h
 · subst h
   left
   rw [decL_lt (by omega)]
   rfl
 · exact .inr (decL_head h)
theorem canon_iff {l : List UInt8} (h1 : ∀ c ∈ l, isDig c = true) : decL (valL l) = l ↔ l ≠ [] ∧ (l.length = 1 ∨ l.headD 0 ≠ 48) := by
 constructor
 · intro h
   have := decL_canon (valL l)
   rw [h] at this
   exact ⟨this.1, this.2.2⟩
 · intro h
   exact (dec_val ⟨h.1, h1, h.2⟩).1
theorem valL_lt {l : List UInt8} (h : ∀ c ∈ l, isDig c = true) : valL l < 10 ^ l.length := by
 induction hn : l.length generalizing l with
 | zero => rw [List.eq_nil_of_length_eq_zero hn]; simp [valL]
 | succ n ih =>
   rcases List.eq_nil_or_concat l with e | ⟨xs, c, e⟩
   · subst e; simp at hn
   · rw [List.concat_eq_append] at e
     subst e
     have hx : xs.length = n := by simpa using hn
     have := ih (l := xs) (fun c hc => h c (by simp [hc])) hx
     have hd := (dig_val (h c (by simp))).1
     rw [valL_snoc, Nat.pow_succ]
     omega
theorem valL_small {l : List UInt8} (h : ∀ c ∈ l, isDig c = true) (h4 : l.length ≤ 4) : valL l < 10000 :=
 Nat.lt_of_lt_of_le (valL_lt h) (show 10 ^ l.length ≤ 10 ^ 4 from Nat.pow_le_pow_right (by omega) h4)
/-- The number that decimals tell. -/
def numL (m : Nat) (l : List UInt8) : Option Nat := if l.length ≤ m ∧ l.all isDig = true ∧ decL (valL l) = l then some (valL l) else none
theorem numL_some {m : Nat} {l : List UInt8} {n : Nat} : numL m l = some n ↔ l = decL n ∧ l.length ≤ m := by
 unfold numL
 constructor
 · intro h
   split at h
   · next h0 =>
     obtain rfl := Option.some.inj h
     exact ⟨h0.2.2.symm, h0.1⟩
   · cases h
 · rintro ⟨h, h'⟩
   subst h
   rw [valL_dec, if_pos ⟨h', by simpa using decL_dig n, rfl⟩]
theorem numL_nil (m : Nat) : numL m [] = none := by
 cases h : numL m [] with
 | none => rfl
 | some n => exact absurd (numL_some.1 h).1.symm (decL_ne n)
/-! ### the records of a log -/
def okR (r : List UInt8) : Prop := 1 ≤ r.length ∧ r.length ≤ 60
instance (r : List UInt8) : Decidable (okR r) := inferInstanceAs (Decidable (_ ∧ _))
def resNum : Option Nat → Int
 | none => -1
 | some n => n
/-! ### the text that a mark writes -/
theorem ofBytes_one (c : Nat) (h : c ≤ 255) : ofBytes [w8 (c : Int)] = ba [UInt8.ofNat c] := by
 apply tx_inj
 rw [ofBytes_tx, w8_id (by omega) (by omega)]
 rfl
theorem ba_append (a b : List UInt8) : ba a ++ ba b = ba (a ++ b) := by
 apply tx_inj
 rw [tx_append]
 rfl
/-! ### shelves -/
/-! ### loops over lists -/
theorem getD_at {α : Type} {l : List α} {i : Nat} (h : i < l.length) (d : α) : l.getD i d = l[i] := by
 rw [List.getD_eq_getElem?_getD, List.getElem?_eq_getElem h]
 rfl
/-- Whatever a loop does from i on, it does from 0 on. -/
theorem up_loop {P : Nat → Nat → Prop} {N : Nat} (hend : ∀ n, P (n + 1) N) (hstep : ∀ n i, i < N → P n (i + 1) → P (n + 1) i) : ∀ n, N < n → P n 0 := by
 have key : ∀ d i n, i + d = N → d < n → P n i := by
   intro d
   induction d with
   | zero =>
     intro i n h1 h2
     obtain ⟨m, rfl⟩ := Nat.exists_eq_succ_of_ne_zero (n := n) (by omega)
     have : i = N := by omega
     subst this
     exact hend m
   | succ d ih =>
     intro i n h1 h2
     obtain ⟨m, rfl⟩ := Nat.exists_eq_succ_of_ne_zero (n := n) (by omega)
     exact hstep m i (by omega) (ih (i + 1) m (by omega) (by omega))
 intro n h
 exact key N 0 n (by omega) h
theorem eq_loop {α R : Type} [DecidableEq α] (a b : List α) (d : α) (x0 q : Option R) (L : Nat → Int → Option R) (hl : a.length = b.length) (h : ∀ n (i : Nat), i < a.length → L (n + 1) (i : Int) = cond (decide (a.getD i d = b.getD i d)) (L n ((i + 1 : Nat) : Int)) q) (hend : ∀ n, L (n + 1) (a.length : Int) = x0) :
   ∀ n, a.length < n → L n ((0 : Nat) : Int) = cond (decide (a = b)) x0 q := by
 have key := up_loop (N := a.length) (P := fun n i => L n (i : Int) = cond (decide (a.drop i = b.drop i)) x0 q) (fun n => by
   rw [hend, List.drop_eq_nil_of_le (Nat.le_refl _), List.drop_eq_nil_of_le (by omega)]
   rfl) (fun n i hi ih => by
   rw [h n i hi, ih, getD_at hi, getD_at (by omega), List.drop_eq_getElem_cons hi, List.drop_eq_getElem_cons (show i < b.length by omega)]
   by_cases e : a[i] = b[i]
   · rw [dt e, ct rfl]
     have h2 : (a[i] :: a.drop (i + 1) = b[i] :: b.drop (i + 1)) ↔ a.drop (i + 1) = b.drop (i + 1) := ⟨fun h => (List.cons.inj h).2, fun h => by rw [e, h]⟩
     rw [decide_eq_decide.2 h2]
   · rw [df e, cf rfl]
     have h2 : ¬ (a[i] :: a.drop (i + 1) = b[i] :: b.drop (i + 1)) := fun h => e (List.cons.inj h).1
     rw [df h2, cf rfl])
 intro n hn
 have := key n hn
 simpa using this
/-! ### the blocks of a text -/
/-! ### one over the other -/
end Go.Ev
