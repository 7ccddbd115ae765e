/- Words for messages' texts: plain facts. No condition beyond those that stand in each. -/
import Derived.Test.YtmeeloeielallaaGreatDoorPus
import Derived.Lib.Split
import Derived.Lib.IndexBytes
namespace Go.Ev
set_option linter.unusedVariables false
set_option linter.unusedSimpArgs false
/-- The first word, and what is behind the space. -/
def wordL : List UInt8 → List UInt8 × List UInt8
 | [] => ([], [])
 | c :: l => if c = 32 then ([], l) else (c :: (wordL l).1, (wordL l).2)
theorem wordL_hit {r : List UInt8} : ∀ {w : List UInt8}, (∀ c ∈ w, c ≠ 32) → wordL (w ++ 32 :: r) = (w, r)
 | [], _ => by simp [wordL]
 | c :: w, h => by
   have := wordL_hit (r := r) (w := w) fun c hc => h c (by simp [hc])
   rw [List.cons_append, wordL, if_neg (h c (by simp)), this]
theorem wordL_none : ∀ {l : List UInt8}, (∀ c ∈ l, c ≠ 32) → wordL l = (l, [])
 | [], _ => rfl
 | c :: l, h => by
   have := wordL_none (l := l) fun c hc => h c (by simp [hc])
   rw [wordL, if_neg (h c (by simp)), this]
theorem decL_no32 (n : Nat) : ∀ c ∈ decL n, c ≠ 32 := by
 intro c hc h
 have := decL_dig n c hc
 subst h
 cases this
theorem numL_dec {m n : Nat} (h : (decL n).length ≤ m) : numL m (decL n) = some n := numL_some.2 ⟨rfl, h⟩
def noN : Int × Int × Int × Int × ByteArray × Bool := (0, 0, 0, 0, ByteArray.mk #[], false)
def numW (l : List UInt8) : Int := resNum (numL 4 l)
def specR (s : ByteArray) : Int × Int × Int × Int × ByteArray × Bool :=
 let w1 := wordL (tx s); let w2 := wordL w1.2; let w3 := wordL w2.2; let w4 := wordL w3.2
 cond (decide (s = ByteArray.mk #[])) noN (cond (!decide (nwB (numW w1.1) (numW w2.1) (numW w3.1) (numW w4.1) (ba w4.2) = s)) noN (numW w1.1, numW w2.1, numW w3.1, numW w4.1, ba w4.2, true))
theorem numW_dec {a : Int} (h0 : 0 ≤ a) (h1 : a ≤ 999) : numW (decL a.toNat) = a := by
 unfold numW
 rw [numL_dec (by have := decL_length (n := a.toNat) (d := 2) (by omega); omega)]
 show ((a.toNat : Nat) : Int) = a
 omega
theorem ntL_ne {a b c d : Int} {t : ByteArray} : ba (ntL a b c d t) ≠ ByteArray.mk #[] := by
 intro h
 have := congrArg ByteArray.size h
 rw [ba_size] at this
 simp only [ntL, List.length_append, List.length_cons] at this
 have z : (ByteArray.mk #[]).size = 0 := rfl
 omega
theorem specR_yes {a b c d : Int} {t : ByteArray} (h : ntOk a b c d t = true) : specR (ba (ntL a b c d t)) = (a, b, c, d, t, true) := by
 obtain ⟨h1, h2, h3, h4, h5, _⟩ := ntOk_some h
 have e : ntL a b c d t = decL a.toNat ++ 32 :: (decL b.toNat ++ 32 :: (decL c.toNat ++ 32 :: (decL d.toNat ++ 32 :: tx t))) := by simp [ntL]
 have w1 : wordL (ntL a b c d t) = (decL a.toNat, decL b.toNat ++ 32 :: (decL c.toNat ++ 32 :: (decL d.toNat ++ 32 :: tx t))) := by rw [e, wordL_hit (decL_no32 _)]
 unfold specR
 rw [tx_ba, w1]
 dsimp only
 rw [wordL_hit (decL_no32 _)]
 dsimp only
 rw [wordL_hit (decL_no32 _)]
 dsimp only
 rw [wordL_hit (decL_no32 _)]
 dsimp only
 rw [numW_dec (by omega) (by omega), numW_dec (by omega) (by omega), numW_dec (by omega) (by omega), numW_dec (by omega) (by omega), ba_tx, df ntL_ne]
 unfold nwB
 rw [h, cond_true, dt rfl]
 rfl
theorem specR_cases (s : ByteArray) : specR s = noN ∨ ∃ a b c d t, specR s = (a, b, c, d, t, true) ∧ ntOk a b c d t = true ∧ ba (ntL a b c d t) = s := by
 unfold specR
 dsimp only
 by_cases h0 : s = ByteArray.mk #[]
 · rw [dt h0]
   exact .inl rfl
 · rw [df h0, cond_false]
   generalize numW _ = a
   generalize numW _ = b
   generalize numW _ = c
   generalize numW _ = d
   generalize ba _ = t
   by_cases h1 : nwB a b c d t = s
   · rw [dt h1]
     refine .inr ⟨a, b, c, d, t, rfl, ?_⟩
     unfold nwB at h1
     cases ho : ntOk a b c d t with
     | false => rw [ho] at h1; exact absurd h1.symm h0
     | true => rw [ho] at h1; exact ⟨rfl, h1⟩
   · rw [df h1]
     exact .inl rfl
/-- Numbers, one behind the other. -/
def natsA (acc : List Int) : List ByteArray → List Int × Bool
 | [] => (acc, true)
 | x :: l => match numL 5 (tx x) with
   | none => ([], false)
   | some n => natsA (acc ++ [(n : Int)]) l
theorem natsA_length : ∀ (l : List ByteArray) (acc : List Int), (natsA acc l).2 = true → (natsA acc l).1.length = acc.length + l.length
 | [], acc, _ => rfl
 | x :: l, acc, h => by
   unfold natsA at h ⊢
   cases hn : numL 5 (tx x) with
   | none => simp only [hn] at h; cases h
   | some n =>
     simp only [hn] at h ⊢
     rw [natsA_length l _ h]
     simp
     omega
def splS (s : ByteArray) : List ByteArray := Go.Lib.splitB (ByteArray.mk #[32]) 0 (min 5 (s.size + 1) - 1) s
def implR (s : ByteArray) : Int × Int × Int × Int × ByteArray × Bool :=
 let P := splS s; let N := natsA [] (P.take 4)
 cond (!decide ((P.length : Int) = 5)) noN (cond (!N.2) noN (cond (!ntOk (N.1.getD 0 0) (N.1.getD 1 0) (N.1.getD 2 0) (N.1.getD 3 0) (P.getD 4 ByteArray.empty)) noN
   (cond (!decide (nwB (N.1.getD 0 0) (N.1.getD 1 0) (N.1.getD 2 0) (N.1.getD 3 0) (P.getD 4 ByteArray.empty) = s)) noN (N.1.getD 0 0, N.1.getD 1 0, N.1.getD 2 0, N.1.getD 3 0, P.getD 4 ByteArray.empty, true))))
theorem splitB_size (sep : ByteArray) : ∀ (k : Nat) (s x : ByteArray), x ∈ Go.Lib.splitB sep 0 k s → x.size ≤ s.size
 | 0, s, x, h => by
   unfold Go.Lib.splitB at h
   rw [List.mem_singleton] at h
   rw [h]
   exact Nat.le_refl _
 | k + 1, s, x, h => by
   unfold Go.Lib.splitB at h
   split at h
   · rw [List.mem_singleton] at h
     rw [h]
     exact Nat.le_refl _
   · rcases List.mem_cons.1 h with h | h
     · rw [h, ByteArray.size_extract]
       omega
     · have := splitB_size sep k _ x h
       rw [ByteArray.size_extract] at this
       omega
theorem indexByte_hit {r : List UInt8} : ∀ {w : List UInt8}, (∀ c ∈ w, c ≠ 32) → Go.Lib.indexByte (w ++ 32 :: r) 32 = (w.length : Int)
 | [], _ => by simp [Go.Lib.indexByte]
 | c :: w, h => by
   have := indexByte_hit (r := r) (w := w) fun c hc => h c (by simp [hc])
   have hc := h c (by simp)
   rw [List.cons_append, Go.Lib.indexByte, this]
   have n1 : (c == 32) = false := by simpa using hc
   have n2 : ((w.length : Int) == -1) = false := by simp
   rw [n1, n2]
   simp
theorem split_hit {w r : List UInt8} (h : ∀ c ∈ w, c ≠ 32) (k : Nat) : Go.Lib.splitB (ByteArray.mk #[32]) 0 (k + 1) (ba (w ++ 32 :: r)) = ba w :: Go.Lib.splitB (ByteArray.mk #[32]) 0 k (ba r) := by
 have hi : Go.Lib.indexB (ba (w ++ 32 :: r)) (ByteArray.mk #[32]) = ((w.length : Nat) : Int) := by
   show Go.Lib.index (w ++ 32 :: r) [32] = _
   rw [Go.Lib.index_one]
   exact indexByte_hit h
 rw [Go.Lib.splitB_hit _ _ _ _ _ hi]
 have z1 : (ByteArray.mk #[32]).size = 1 := rfl
 have e1 : (ba (w ++ 32 :: r)).extract 0 (w.length + 0) = ba w := by
   apply tx_inj
   rw [tx_extract0, tx_ba, tx_ba, Nat.add_zero, List.take_left]
 have e2 : (ba (w ++ 32 :: r)).extract (w.length + (ByteArray.mk #[32]).size) (ba (w ++ 32 :: r)).size = ba r := by
   apply tx_inj
   rw [tx_extractEnd, tx_ba, tx_ba, z1, ← List.drop_drop, List.drop_left]
   rfl
 rw [e1, e2]
theorem implR_yes {a b c d : Int} {t : ByteArray} (h : ntOk a b c d t = true) : implR (ba (ntL a b c d t)) = (a, b, c, d, t, true) := by
 obtain ⟨h1, h2, h3, h4, h5, _⟩ := ntOk_some h
 have e : ntL a b c d t = decL a.toNat ++ 32 :: (decL b.toNat ++ 32 :: (decL c.toNat ++ 32 :: (decL d.toNat ++ 32 :: tx t))) := by simp [ntL]
 have hk : min 5 ((ba (ntL a b c d t)).size + 1) - 1 = 4 := by
   rw [ba_size]
   simp only [ntL, List.length_append, List.length_cons, List.length_nil]
   omega
 have hs : splS (ba (ntL a b c d t)) = [ba (decL a.toNat), ba (decL b.toNat), ba (decL c.toNat), ba (decL d.toNat), t] := by
   unfold splS
   rw [hk, e, split_hit (decL_no32 _), split_hit (decL_no32 _), split_hit (decL_no32 _), split_hit (decL_no32 _), Go.Lib.splitB_zero, ba_tx]
 have l1 := decL_length (n := a.toNat) (d := 2) (by omega)
 have l2 := decL_length (n := b.toNat) (d := 2) (by omega)
 have l3 := decL_length (n := c.toNat) (d := 2) (by omega)
 have l4 := decL_length (n := d.toNat) (d := 2) (by omega)
 have ea : ((a.toNat : Nat) : Int) = a := by omega
 have eb : ((b.toNat : Nat) : Int) = b := by omega
 have ec : ((c.toNat : Nat) : Int) = c := by omega
 have ed : ((d.toNat : Nat) : Int) = d := by omega
 have hn : natsA [] ([ba (decL a.toNat), ba (decL b.toNat), ba (decL c.toNat), ba (decL d.toNat), t].take 4) = ([a, b, c, d], true) := by
   simp only [List.take_succ_cons, List.take_zero, natsA, tx_ba, numL_dec (m := 5) (n := a.toNat) (by omega), numL_dec (m := 5) (n := b.toNat) (by omega), numL_dec (m := 5) (n := c.toNat) (by omega), numL_dec (m := 5) (n := d.toNat) (by omega), ea, eb, ec, ed]
   rfl
 unfold implR
 rw [hs]
 dsimp only
 rw [hn]
 show cond (!decide (((5 : Nat) : Int) = 5)) noN (cond (!true) noN (cond (!ntOk a b c d t) noN (cond (!decide (nwB a b c d t = ba (ntL a b c d t))) noN (a, b, c, d, t, true)))) = _
 unfold nwB
 rw [h, cond_true, dt rfl]
 rfl
theorem implR_cases (s : ByteArray) : implR s = noN ∨ ∃ a b c d t, implR s = (a, b, c, d, t, true) ∧ ntOk a b c d t = true ∧ ba (ntL a b c d t) = s := by
 unfold implR
 dsimp only
 generalize natsA [] ((splS s).take 4) = N
 generalize splS s = P
 generalize N.1.getD 0 0 = a
 generalize N.1.getD 1 0 = b
 generalize N.1.getD 2 0 = c
 generalize N.1.getD 3 0 = d
 generalize P.getD 4 ByteArray.empty = t
 cases (!decide ((P.length : Int) = 5)) with
 | true => exact .inl rfl
 | false =>
   cases (!N.2) with
   | true => exact .inl rfl
   | false =>
     cases ho : ntOk a b c d t with
     | false => exact .inl rfl
     | true =>
       by_cases h1 : nwB a b c d t = s
       · rw [dt h1]
         refine .inr ⟨a, b, c, d, t, rfl, ho, ?_⟩
         unfold nwB at h1
         rw [ho] at h1
         exact h1
       · rw [df h1]
         exact .inl rfl
theorem implR_eq (s : ByteArray) : implR s = specR s := by
 rcases implR_cases s with h | ⟨a, b, c, d, t, h, ho, hs⟩
 · rcases specR_cases s with g | ⟨a, b, c, d, t, g, ho, hs⟩
   · rw [h, g]
   · rw [← hs, implR_yes ho, specR_yes ho]
 · rw [← hs, implR_yes ho, specR_yes ho]
end Go.Ev
