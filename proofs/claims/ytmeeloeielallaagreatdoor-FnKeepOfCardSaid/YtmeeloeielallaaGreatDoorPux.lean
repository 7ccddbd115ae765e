/- Words for what keepers do: plain facts. No condition beyond those that stand in each. -/
import Derived.Test.YtmeeloeielallaaGreatDoorPuk
import Derived.Lib.CutLaws
import Derived.Lib.SplitLaws
import Derived.Test.YtmeeloeielallaaGreatDoorPun
namespace Go.Ev
set_option linter.unusedVariables false
set_option linter.unusedSimpArgs false
theorem fil_loop {α R : Type} (l : List α) (d : α) (p : α → Bool) (X : List α → Option R) (L : Nat → Int → List α → Option R) (B : Nat) (hs : ∀ (n i : Nat) (w : List α), i < l.length → w.length + (l.length - i) ≤ B → L (n + 1) (i : Int) w = cond (p (l.getD i d)) (L n ((i + 1 : Nat) : Int) (w ++ [l.getD i d])) (L n ((i + 1 : Nat) : Int) w))
   (he : ∀ n w, L (n + 1) (l.length : Int) w = X w) (n : Nat) (w : List α) (hn : l.length < n) (hw : w.length + l.length ≤ B) : L n ((0 : Nat) : Int) w = X (w ++ l.filter p) := by
 have key : ∀ (e i n : Nat) (w : List α), i + e = l.length → e < n → w.length + e ≤ B → L n (i : Int) w = X (w ++ (l.drop i).filter p) := by
   intro e
   induction e with
   | zero =>
     intro i n w h1 h2 h3
     obtain ⟨n, rfl⟩ := Nat.exists_eq_succ_of_ne_zero (n := n) (by omega)
     have : i = l.length := by omega
     subst this
     rw [he, List.drop_length]
     simp
   | succ e ih =>
     intro i n w h1 h2 h3
     obtain ⟨n, rfl⟩ := Nat.exists_eq_succ_of_ne_zero (n := n) (by omega)
     rw [hs n i w (by omega) (by omega), List.drop_eq_getElem_cons (show i < l.length by omega), getD_at (show i < l.length by omega), List.filter_cons]
     cases h : p l[i] with
     | true => rw [cond_true, ih (i + 1) n _ (by omega) (by omega) (by simp; omega), List.append_assoc]; rfl
     | false => rw [cond_false, ih (i + 1) n _ (by omega) (by omega) (by omega)]; rfl
 have := key l.length 0 n w (by omega) hn hw
 rw [List.drop_zero] at this
 exact this
def ins {α : Type} (q : α → Bool) (a : α) : List α → List α
 | [] => [a]
 | x :: xs => cond (q x) (a :: x :: xs) (x :: ins q a xs)
theorem ins_length {α : Type} (q : α → Bool) (a : α) (l : List α) : (ins q a l).length = l.length + 1 := by
 induction l with
 | nil => rfl
 | cons x xs ih =>
   unfold ins
   cases q x with
   | true => rfl
   | false => rw [cond_false, List.length_cons, ih, List.length_cons]
theorem ins_eq {α : Type} (q p : α → Bool) (a : α) (l : List α) (h : ∀ x ∈ l, q x = !p x) : l.take (l.takeWhile p).length ++ [a] ++ l.drop (l.takeWhile p).length = ins q a l := by
 induction l with
 | nil => rfl
 | cons x xs ih =>
   unfold ins
   rw [h x (by simp)]
   cases hp : p x with
   | true =>
     rw [List.takeWhile_cons_of_pos hp, List.length_cons, List.take_succ_cons, List.drop_succ_cons, Bool.not_true, cond_false, ← ih fun y hy => h y (by simp [hy])]
     rfl
   | false =>
     rw [List.takeWhile_cons_of_neg (by simp [hp])]
     rfl
theorem put_loop {α R : Type} (l : List α) (d : α) (q : α → Bool) (a : α) (X : Bool → List α → Option R) (L : Nat → Bool → Int → List α → Option R) (B : Nat)
   (hs : ∀ (n i : Nat) (w : List α) (b : Bool), i < l.length → w.length + (l.length - i) + 1 ≤ B → L (n + 1) b (i : Int) w = cond (!b && q (l.getD i d)) (L n true ((i + 1 : Nat) : Int) (w ++ [a] ++ [l.getD i d])) (L n b ((i + 1 : Nat) : Int) (w ++ [l.getD i d])))
   (hsB : True) (he : ∀ n b w, L (n + 1) b (l.length : Int) w = X b w) (n : Nat) (w : List α) (hn : l.length < n) (hw : w.length + l.length + 2 ≤ B) : ∃ b u, L n false ((0 : Nat) : Int) w = X b u ∧ u ++ cond b [] [a] = w ++ ins q a l := by
 have key1 : ∀ (e i n : Nat) (w : List α), i + e = l.length → e < n → w.length + e + 1 ≤ B → L n true (i : Int) w = X true (w ++ l.drop i) := by
   intro e
   induction e with
   | zero =>
     intro i n w h1 h2 h3
     obtain ⟨n, rfl⟩ := Nat.exists_eq_succ_of_ne_zero (n := n) (by omega)
     have : i = l.length := by omega
     subst this
     rw [he, List.drop_length, List.append_nil]
   | succ e ih =>
     intro i n w h1 h2 h3
     obtain ⟨n, rfl⟩ := Nat.exists_eq_succ_of_ne_zero (n := n) (by omega)
     rw [hs n i w true (by omega) (by omega), List.drop_eq_getElem_cons (show i < l.length by omega), getD_at (show i < l.length by omega), Bool.not_true, Bool.false_and, cond_false, ih (i + 1) n _ (by omega) (by omega) (by simp; omega), List.append_assoc]
     rfl
 have key : ∀ (e i n : Nat) (w : List α), i + e = l.length → e < n → w.length + e + 2 ≤ B → ∃ b u, L n false (i : Int) w = X b u ∧ u ++ cond b [] [a] = w ++ ins q a (l.drop i) := by
   intro e
   induction e with
   | zero =>
     intro i n w h1 h2 h3
     obtain ⟨n, rfl⟩ := Nat.exists_eq_succ_of_ne_zero (n := n) (by omega)
     have : i = l.length := by omega
     subst this
     rw [he, List.drop_length]
     exact ⟨false, w, rfl, rfl⟩
   | succ e ih =>
     intro i n w h1 h2 h3
     obtain ⟨n, rfl⟩ := Nat.exists_eq_succ_of_ne_zero (n := n) (by omega)
     rw [hs n i w false (by omega) (by omega), List.drop_eq_getElem_cons (show i < l.length by omega), getD_at (show i < l.length by omega), Bool.not_false, Bool.true_and]
     unfold ins
     cases q l[i] with
     | true =>
       rw [cond_true, cond_true, key1 e (i + 1) n _ (by omega) (by omega) (by simp; omega)]
       exact ⟨true, _, rfl, by simp⟩
     | false =>
       rw [cond_false, cond_false]
       obtain ⟨b, u, q1, q2⟩ := ih (i + 1) n (w ++ [l[i]]) (by omega) (by omega) (by simp; omega)
       exact ⟨b, u, q1, by rw [q2, List.append_assoc]; rfl⟩
 have := key l.length 0 n w (by omega) hn hw
 rw [List.drop_zero] at this
 exact this
theorem cnt_loop {α R : Type} (l : List α) (d : α) (p : α → Bool) (X : Int → Option R) (L : Nat → Int → Option R) (hs : ∀ n i : Nat, i < l.length → L (n + 1) (i : Int) = cond (p (l.getD i d)) (L n ((i + 1 : Nat) : Int)) (X (i : Int)))
   (he : ∀ n, L (n + 1) (l.length : Int) = X (l.length : Int)) (n : Nat) (hn : l.length < n) : L n ((0 : Nat) : Int) = X ((l.takeWhile p).length : Int) := by
 have key : ∀ (e i n : Nat), i + e = l.length → e < n → L n (i : Int) = X ((i + ((l.drop i).takeWhile p).length : Nat) : Int) := by
   intro e
   induction e with
   | zero =>
     intro i n h1 h2
     obtain ⟨n, rfl⟩ := Nat.exists_eq_succ_of_ne_zero (n := n) (by omega)
     have : i = l.length := by omega
     subst this
     rw [he, List.drop_length]
     simp
   | succ e ih =>
     intro i n h1 h2
     obtain ⟨n, rfl⟩ := Nat.exists_eq_succ_of_ne_zero (n := n) (by omega)
     rw [hs n i (by omega), List.drop_eq_getElem_cons (show i < l.length by omega), getD_at (show i < l.length by omega)]
     cases h : p l[i] with
     | true => rw [cond_true, ih (i + 1) n (by omega) (by omega), List.takeWhile_cons_of_pos h, List.length_cons]; congr 2; omega
     | false => rw [cond_false, List.takeWhile_cons_of_neg (by simp [h])]; rfl
 have := key l.length 0 n (by omega) hn
 rw [List.drop_zero, Nat.zero_add] at this
 exact this
def ixL {α : Type} (p : α → Bool) : List α → Nat → Int
 | [], _ => -1
 | x :: xs, i => cond (p x) (i : Int) (ixL p xs (i + 1))
theorem ixL_neg {α : Type} (p : α → Bool) (l : List α) : ∀ i, (ixL p l i < 0 ↔ l.any p = false) := by
 induction l with
 | nil => intro i; simp [ixL]
 | cons x xs ih =>
   intro i
   unfold ixL
   rw [List.any_cons]
   cases p x with
   | true => simp
   | false => rw [cond_false, Bool.false_or]; exact ih _
theorem ix_loop {α R : Type} (l : List α) (d : α) (p : α → Bool) (K : Int → Option R) (L : Nat → Int → Option R) (hs : ∀ n i : Nat, i < l.length → L (n + 1) (i : Int) = cond (p (l.getD i d)) (K (i : Int)) (L n ((i + 1 : Nat) : Int)))
   (he : ∀ n, L (n + 1) (l.length : Int) = K (-1)) (n : Nat) (hn : l.length < n) : L n ((0 : Nat) : Int) = K (ixL p l 0) := by
 have key : ∀ (e i n : Nat), i + e = l.length → e < n → L n (i : Int) = K (ixL p (l.drop i) i) := by
   intro e
   induction e with
   | zero =>
     intro i n h1 h2
     obtain ⟨n, rfl⟩ := Nat.exists_eq_succ_of_ne_zero (n := n) (by omega)
     have : i = l.length := by omega
     subst this
     rw [he, List.drop_length]
     rfl
   | succ e ih =>
     intro i n h1 h2
     obtain ⟨n, rfl⟩ := Nat.exists_eq_succ_of_ne_zero (n := n) (by omega)
     rw [hs n i (by omega), List.drop_eq_getElem_cons (show i < l.length by omega), getD_at (show i < l.length by omega)]
     unfold ixL
     cases h : p l[i] with
     | true => rfl
     | false => rw [cond_false, cond_false, ih (i + 1) n (by omega) (by omega)]
 have := key l.length 0 n (by omega) hn
 rw [List.drop_zero] at this
 exact this

def isN (fr nu : Int) (e : Int × Int × Int × Int × ByteArray) : Bool := decide (e.1 = fr) && decide (e.2.1 = nu)
def inN (a : Int × Int × Int × Int × ByteArray) (l : List (Int × Int × Int × Int × ByteArray)) : List (Int × Int × Int × Int × ByteArray) := ins (fun e => lessB a.1 a.2.1 e.1 e.2.1) a l
def inM (a : Int × Int × Int) (l : List (Int × Int × Int)) : List (Int × Int × Int) := ins (fun e => lessB a.1 a.2.1 e.1 e.2.1) a l
theorem less_iff {a b c d : Int} : lessB a b c d = true ↔ a < c ∨ (a = c ∧ b < d) := by
 unfold lessB
 by_cases h1 : a < c
 · rw [dt h1, cond_true]; simp [h1]
 · rw [df h1, cond_false]
   by_cases h2 : a = c
   · rw [dt h2, cond_true, decide_eq_true_iff]; simp [h1, h2]
   · rw [df h2, cond_false]; simp [h1, h2]
theorem less_not {a b c d : Int} (h : ¬(a = c ∧ b = d)) : lessB a b c d = !lessB c d a b := by
 rw [Bool.eq_iff_iff, Bool.not_eq_true', Bool.eq_false_iff, Ne, less_iff, less_iff]
 omega
theorem inN_eq {b c d e : Int} {t : ByteArray} {l : List (Int × Int × Int × Int × ByteArray)} (h : l.any (isN b c) = false) {k : Nat} (hk : k = (l.takeWhile fun x => lessB x.1 x.2.1 b c).length) : l.take k ++ [(b, c, d, e, t)] ++ l.drop k = inN (b, c, d, e, t) l := by
 rw [hk]
 refine ins_eq _ _ _ _ fun x hx => ?_
 refine less_not fun hh => ?_
 have := (List.any_eq_false.1 h) x hx
 apply this
 unfold isN
 rw [dt hh.1.symm, dt hh.2.symm]
 rfl
theorem inM_eq {b c d : Int} {l : List (Int × Int × Int)} (h : hasM l b c = false) {k : Nat} (hk : k = (l.takeWhile fun x => lessB x.1 x.2.1 b c).length) : l.take k ++ [(b, c, d)] ++ l.drop k = inM (b, c, d) l := by
 rw [hk]
 refine ins_eq _ _ _ _ fun x hx => ?_
 refine less_not fun hh => ?_
 have := (List.any_eq_false.1 h) x hx
 apply this
 simp only [dt hh.1.symm, dt hh.2.symm]
 rfl
def accB (now : Int) (h : List (Int × Int × Int × Int × ByteArray)) (m : List (Int × Int × Int)) (b : List (Int × Int × Int × Int × ByteArray)) (fr nu dst un : Int) (t : ByteArray) : Bool :=
 ntOk fr nu dst un t && (decide (now < un) && (!h.any (isN fr nu) && (!b.any (isN fr nu) && (!hasM m fr nu && decide (h.length + m.length + 1 ≤ 12)))))
def newB (now : Int) (h : List (Int × Int × Int × Int × ByteArray)) (m : List (Int × Int × Int)) (b : List (Int × Int × Int × Int × ByteArray)) (fr nu dst un : Int) (t : ByteArray) : Bool :=
 ntOk fr nu dst un t && (decide (now < un) && (!h.any (isN fr nu) && (!b.any (isN fr nu) && !hasM m fr nu)))
theorem ixL_hit {α : Type} (p : α → Bool) (d : α) (l : List α) : ∀ s, l.any p = true → ∃ i, i < l.length ∧ ixL p l s = ((s + i : Nat) : Int) ∧ p (l.getD i d) = true := by
 induction l with
 | nil => intro s h; cases h
 | cons x xs ih =>
   intro s h
   unfold ixL
   cases hx : p x with
   | true => exact ⟨0, by simp, rfl, hx⟩
   | false =>
     rw [List.any_cons, hx, Bool.false_or] at h
     obtain ⟨i, q1, q2, q3⟩ := ih (s + 1) h
     exact ⟨i + 1, by simpa using q1, by rw [cond_false, q2]; congr 1; omega, by simpa using q3⟩
theorem ixL_miss {α : Type} {p : α → Bool} {l : List α} (h : l.any p = false) : ¬(0 ≤ ixL p l 0) := by
 have := (ixL_neg p l 0).2 h
 omega
theorem indexByte_miss : ∀ {l : List UInt8}, (∀ c ∈ l, c ≠ 32) → Go.Lib.indexByte l 32 = -1
 | [], _ => rfl
 | c :: l, h => by
   have := indexByte_miss (l := l) fun c hc => h c (by simp [hc])
   have hc : c ≠ 32 := h c (by simp)
   simp [Go.Lib.indexByte, this, hc]
theorem cut_hit {w r : List UInt8} (h : ∀ c ∈ w, c ≠ 32) : Go.Lib.cut (w ++ 32 :: r) [32] = (w, r, true) := by
 unfold Go.Lib.cut
 rw [Go.Lib.index_one, indexByte_hit h, if_pos (by omega)]
 simp
theorem cut_miss {l : List UInt8} (h : ∀ c ∈ l, c ≠ 32) : Go.Lib.cut l [32] = (l, [], false) := by
 unfold Go.Lib.cut
 rw [Go.Lib.index_one, indexByte_miss h, if_neg (by omega)]
theorem cut_cases (l : List UInt8) : (∃ w r, l = w ++ 32 :: r ∧ (∀ c ∈ w, c ≠ 32) ∧ Go.Lib.cut l [32] = (w, r, true) ∧ wordL l = (w, r)) ∨ ((∀ c ∈ l, c ≠ 32) ∧ Go.Lib.cut l [32] = (l, [], false) ∧ wordL l = (l, [])) := by
 by_cases h : (32 : UInt8) ∈ l
 · obtain ⟨w, r, rfl, hw⟩ := List.eq_append_cons_of_mem h
   have hw2 : ∀ c ∈ w, c ≠ 32 := fun c hc e => hw (e ▸ hc)
   exact .inl ⟨w, r, rfl, hw2, cut_hit hw2, wordL_hit hw2⟩
 · have h2 : ∀ c ∈ l, c ≠ 32 := fun c hc e => h (e ▸ hc)
   exact .inr ⟨h2, cut_miss h2, wordL_none h2⟩
/-- What a record does, its rest being read: `Y` of what comes of it, or `N`. -/
def recK {R : Type} (w : ByteArray) (tn : Int × Bool) (nr : Int × Int × Int × Int × ByteArray × Bool) (t3 : Int × Int × Int × Bool) (id now next : Int) (h : List (Int × Int × Int × Int × ByteArray)) (m : List (Int × Int × Int)) (b : List (Int × Int × Int × Int × ByteArray))
   (Y : Int → Int → Int → List (Int × Int × Int × Int × ByteArray) → List (Int × Int × Int) → List (Int × Int × Int × Int × ByteArray) → R) (N : R) : R :=
 cond (decide (w = ByteArray.mk #[116, 105, 109, 101])) (cond tn.2 (cond (decide (now < tn.1)) (Y id tn.1 next (h.filter fun e => decide (tn.1 < e.2.2.2.1)) (m.filter fun e => decide (tn.1 < e.2.2)) b) N) N)
 (cond (decide (w = ByteArray.mk #[110, 101, 120, 116])) (cond tn.2 (cond (decide (next < tn.1)) (Y id now tn.1 h m b) N) N)
 (cond (decide (w = ByteArray.mk #[111, 119, 110])) (cond nr.2.2.2.2.2 (cond (decide (nr.1 = id)) (cond (decide (nr.2.1 = next)) (cond (accB now h m b nr.1 nr.2.1 nr.2.2.1 nr.2.2.2.1 nr.2.2.2.2.1) (cond (decide (nr.2.2.1 = id)) (Y id now (w64 (next + 1)) h (inM (nr.1, nr.2.1, nr.2.2.2.1) m) (inN (nr.1, nr.2.1, nr.2.2.1, nr.2.2.2.1, nr.2.2.2.2.1) b)) (Y id now (w64 (next + 1)) (inN (nr.1, nr.2.1, nr.2.2.1, nr.2.2.2.1, nr.2.2.2.2.1) h) m b)) N) N) N) N)
 (cond (decide (w = ByteArray.mk #[116, 97, 107, 101])) (cond nr.2.2.2.2.2 (cond (decide (nr.1 = id)) N (cond (accB now h m b nr.1 nr.2.1 nr.2.2.1 nr.2.2.2.1 nr.2.2.2.2.1) (cond (decide (nr.2.2.1 = id)) (Y id now next h (inM (nr.1, nr.2.1, nr.2.2.2.1) m) (inN (nr.1, nr.2.1, nr.2.2.1, nr.2.2.2.1, nr.2.2.2.2.1) b)) (Y id now next (inN (nr.1, nr.2.1, nr.2.2.1, nr.2.2.2.1, nr.2.2.2.2.1) h) m b)) N)) N)
 (cond (decide (w = ByteArray.mk #[104, 101, 108, 100])) (cond nr.2.2.2.2.2 (cond (h.any (isN nr.1 nr.2.1)) N (cond (b.any (isN nr.1 nr.2.1)) N (Y id now next (inN (nr.1, nr.2.1, nr.2.2.1, nr.2.2.2.1, nr.2.2.2.2.1) h) m b))) N)
 (cond (decide (w = ByteArray.mk #[105, 110, 98, 111, 120])) (cond nr.2.2.2.2.2 (cond (h.any (isN nr.1 nr.2.1)) N (cond (b.any (isN nr.1 nr.2.1)) N (Y id now next h m (inN (nr.1, nr.2.1, nr.2.2.1, nr.2.2.2.1, nr.2.2.2.2.1) b)))) N)
 (cond (decide (w = ByteArray.mk #[108, 101, 116])) (cond t3.2.2.2 (cond (h.any (isN t3.1 t3.2.1)) (cond (decide ((h.getD (ixL (isN t3.1 t3.2.1) h 0).toNat nd).2.2.2.1 = t3.2.2.1)) (Y id now next (h.take (ixL (isN t3.1 t3.2.1) h 0).toNat ++ h.drop ((ixL (isN t3.1 t3.2.1) h 0).toNat + 1)) (inM (t3.1, t3.2.1, t3.2.2.1) m) b) N) N) N)
 (cond (decide (w = ByteArray.mk #[101, 97, 116])) (cond t3.2.2.2 (cond (b.any (isN t3.1 t3.2.1)) (cond (decide ((b.getD (ixL (isN t3.1 t3.2.1) b 0).toNat nd).2.2.2.1 = t3.2.2.1)) (Y id now next h m (b.take (ixL (isN t3.1 t3.2.1) b 0).toNat ++ b.drop ((ixL (isN t3.1 t3.2.1) b 0).toNat + 1))) N) N) N)
 (cond (decide (w = ByteArray.mk #[109, 97, 114, 107])) (cond t3.2.2.2 (cond (hasM m t3.1 t3.2.1) N (Y id now next h (inM (t3.1, t3.2.1, t3.2.2.1) m) b)) N) N))))))))
theorem recK_map {R S : Type} (f : R → S) (w : ByteArray) (tn : Int × Bool) (nr : Int × Int × Int × Int × ByteArray × Bool) (t3 : Int × Int × Int × Bool) (id now next : Int) (h : List (Int × Int × Int × Int × ByteArray)) (m : List (Int × Int × Int)) (b : List (Int × Int × Int × Int × ByteArray))
   (Y : Int → Int → Int → List (Int × Int × Int × Int × ByteArray) → List (Int × Int × Int) → List (Int × Int × Int × Int × ByteArray) → R) (N : R) : f (recK w tn nr t3 id now next h m b Y N) = recK w tn nr t3 id now next h m b (fun i n x h m b => f (Y i n x h m b)) (f N) := by
 have hc : ∀ (c : Bool) (x y : R), f (cond c x y) = cond c (f x) (f y) := fun c x y => by cases c <;> rfl
 unfold recK
 simp only [hc]
theorem ins_mem {α : Type} (q : α → Bool) (a : α) (l : List α) : a ∈ ins q a l := by
 induction l with
 | nil => exact List.mem_singleton.2 rfl
 | cons x xs ih =>
   unfold ins
   cases q x with
   | true => simp
   | false => rw [cond_false]; exact List.mem_cons_of_mem _ ih
theorem keepB_held {id now next : Int} {h : List (Int × Int × Int × Int × ByteArray)} {m : List (Int × Int × Int)} {b : List (Int × Int × Int × Int × ByteArray)} (hk : keepB id now next h m b = true) :
   (∀ e ∈ h, ntOk e.1 e.2.1 e.2.2.1 e.2.2.2.1 e.2.2.2.2 = true ∧ hasM m e.1 e.2.1 = false) ∧ (∀ e ∈ b, ntOk e.1 e.2.1 e.2.2.1 e.2.2.2.1 e.2.2.2.2 = true) := by
 simp only [keepB, Bool.and_eq_true] at hk
 obtain ⟨_, _, _, _, h5, _, _, _, h9, h10, _⟩ := hk
 refine ⟨fun e he => ?_, fun e he => ?_⟩
 · obtain ⟨i, hi, rfl⟩ := List.mem_iff_getElem.1 he
   have a1 := idx_all h5 hi
   have a2 := idx_all h10 hi
   simp only [noteP, Bool.and_eq_true] at a1
   simp only [heldP, Bool.and_eq_true] at a2
   rw [getD_at hi] at a1 a2
   exact ⟨a1.1, by simpa using a2.2.2.2⟩
 · obtain ⟨i, hi, rfl⟩ := List.mem_iff_getElem.1 he
   have a1 := idx_all h9 hi
   simp only [noteP, Bool.and_eq_true] at a1
   rw [getD_at hi] at a1
   exact a1.1
/-- A number that no keeper takes. -/
def badN (t : Int × Bool) : Prop := t.2 = true → t.1 < 0 ∨ 999 < t.1
def badT (t : Int × Int × Int × Bool) : Prop := t.2.2.2 = true → ¬(inB t.1 0 3 && (inB t.2.1 1 99 && inB t.2.2.1 1 999)) = true
theorem keepB_now {id now next : Int} {h : List (Int × Int × Int × Int × ByteArray)} {m : List (Int × Int × Int)} {b : List (Int × Int × Int × Int × ByteArray)} (hk : ¬(now ≤ 999)) : keepB id now next h m b = false := by
 cases e : keepB id now next h m b with
 | false => rfl
 | true => exact absurd (keepB_some e).1.2 hk
theorem keepB_next {id now next : Int} {h : List (Int × Int × Int × Int × ByteArray)} {m : List (Int × Int × Int)} {b : List (Int × Int × Int × Int × ByteArray)} (hk : ¬(next ≤ 999)) : keepB id now next h m b = false := by
 cases e : keepB id now next h m b with
 | false => rfl
 | true => have := (keepB_some e).2.1.2; omega
theorem keepB_mark {id now next : Int} {h : List (Int × Int × Int × Int × ByteArray)} {m : List (Int × Int × Int)} {b : List (Int × Int × Int × Int × ByteArray)} {x : Int × Int × Int} (hx : x ∈ m) (hk : ¬(markOkB x = true)) : keepB id now next h m b = false := by
 cases e : keepB id now next h m b with
 | false => rfl
 | true => exact absurd ((keepB_some e).2.2.2.2.2 x hx) hk
theorem bad_hit {fr nu un : Int} {h : List (Int × Int × Int × Int × ByteArray)} (hh : ∀ e ∈ h, ntOk e.1 e.2.1 e.2.2.1 e.2.2.2.1 e.2.2.2.2 = true) (hb : ¬(inB fr 0 3 && (inB nu 1 99 && inB un 1 999)) = true) (ha : h.any (isN fr nu) = true) : decide ((h.getD (ixL (isN fr nu) h 0).toNat nd).2.2.2.1 = un) = false := by
 obtain ⟨i, i1, i2, i3⟩ := ixL_hit (isN fr nu) nd h 0 ha
 rw [Nat.zero_add] at i2
 rw [i2, Int.toNat_natCast]
 refine df fun hu => hb ?_
 have a1 := ntOk_some (hh (h.getD i nd) (by rw [getD_at i1]; exact List.getElem_mem i1))
 unfold isN at i3
 rw [Bool.and_eq_true, decide_eq_true_eq, decide_eq_true_eq] at i3
 rw [i3.1, i3.2, hu] at a1
 rw [inB_yes (by omega) (by omega), inB_yes (by omega) (by omega), inB_yes (by omega) (by omega)]
 rfl
theorem recK_bad {R : Type} (w : ByteArray) (tn : Int × Bool) (nr : Int × Int × Int × Int × ByteArray × Bool) (t3 : Int × Int × Int × Bool) (tn' : Int × Bool) (t3' : Int × Int × Int × Bool) (id now next : Int) (h : List (Int × Int × Int × Int × ByteArray)) (m : List (Int × Int × Int)) (b : List (Int × Int × Int × Int × ByteArray))
   (Y : Int → Int → Int → List (Int × Int × Int × Int × ByteArray) → List (Int × Int × Int) → List (Int × Int × Int × Int × ByteArray) → R) (N : R) (hk : keepB id now next h m b = true) (ht : tn = tn' ∨ (badN tn ∧ badN tn')) (h3 : t3 = t3' ∨ (badT t3 ∧ badT t3')) :
   recK w tn nr t3 id now next h m b (fun i n x h m b => cond (keepB i n x h m b) (Y i n x h m b) N) N = recK w tn' nr t3' id now next h m b (fun i n x h m b => cond (keepB i n x h m b) (Y i n x h m b) N) N := by
 obtain ⟨g1, g2, g3, g4, g5, g6⟩ := keepB_some hk
 obtain ⟨k1, k2⟩ := keepB_held hk
 have t1 : ∀ t : Int × Bool, badN t → cond t.2 (cond (decide (now < t.1)) (cond (keepB id t.1 next (h.filter fun e => decide (t.1 < e.2.2.2.1)) (m.filter fun e => decide (t.1 < e.2.2)) b) (Y id t.1 next (h.filter fun e => decide (t.1 < e.2.2.2.1)) (m.filter fun e => decide (t.1 < e.2.2)) b) N) N) N = N := by
   intro t hb
   cases e : t.2 with
   | false => rfl
   | true =>
     by_cases hn : now < t.1
     · rw [dt hn, keepB_now (by have := hb e; omega)]; rfl
     · rw [df hn]; rfl
 have t2 : ∀ t : Int × Bool, badN t → cond t.2 (cond (decide (next < t.1)) (cond (keepB id now t.1 h m b) (Y id now t.1 h m b) N) N) N = N := by
   intro t hb
   cases e : t.2 with
   | false => rfl
   | true =>
     by_cases hn : next < t.1
     · rw [dt hn, keepB_next (by have := hb e; omega)]; rfl
     · rw [df hn]; rfl
 have u1 : ∀ t : Int × Int × Int × Bool, badT t → ∀ X : R, cond t.2.2.2 (cond (h.any (isN t.1 t.2.1)) (cond (decide ((h.getD (ixL (isN t.1 t.2.1) h 0).toNat nd).2.2.2.1 = t.2.2.1)) X N) N) N = N := by
   intro t hb X
   cases e : t.2.2.2 with
   | false => rfl
   | true =>
     cases ha : h.any (isN t.1 t.2.1) with
     | false => rfl
     | true => rw [bad_hit (fun e he => (k1 e he).1) (hb e) ha]; rfl
 have u2 : ∀ t : Int × Int × Int × Bool, badT t → ∀ X : R, cond t.2.2.2 (cond (b.any (isN t.1 t.2.1)) (cond (decide ((b.getD (ixL (isN t.1 t.2.1) b 0).toNat nd).2.2.2.1 = t.2.2.1)) X N) N) N = N := by
   intro t hb X
   cases e : t.2.2.2 with
   | false => rfl
   | true =>
     cases ha : b.any (isN t.1 t.2.1) with
     | false => rfl
     | true => rw [bad_hit k2 (hb e) ha]; rfl
 have u3 : ∀ t : Int × Int × Int × Bool, badT t → ∀ X : R, cond t.2.2.2 (cond (hasM m t.1 t.2.1) N (cond (keepB id now next h (inM (t.1, t.2.1, t.2.2.1) m) b) X N)) N = N := by
   intro t hb X
   cases e : t.2.2.2 with
   | false => rfl
   | true =>
     rw [keepB_mark (show (t.1, t.2.1, t.2.2.1) ∈ inM (t.1, t.2.1, t.2.2.1) m from ins_mem _ _ _) (hb e)]
     cases hasM m t.1 t.2.1 <;> rfl
 rcases ht with rfl | ⟨hb, hb'⟩ <;> rcases h3 with rfl | ⟨hc, hc'⟩
 · rfl
 · unfold recK
   rw [u1 t3 hc, u1 t3' hc', u2 t3 hc, u2 t3' hc', u3 t3 hc, u3 t3' hc']
 · unfold recK
   rw [t1 tn hb, t1 tn' hb', t2 tn hb, t2 tn' hb']
 · unfold recK
   rw [t1 tn hb, t1 tn' hb', t2 tn hb, t2 tn' hb', u1 t3 hc, u1 t3' hc', u2 t3 hc, u2 t3' hc', u3 t3 hc, u3 t3' hc']
theorem resNum_cases (l : List UInt8) : (numL 4 l = none ∧ numW l = -1) ∨ ∃ n : Nat, l = decL n ∧ l.length ≤ 4 ∧ numW l = (n : Int) := by
 unfold numW
 cases h : numL 4 l with
 | none => exact .inl ⟨rfl, rfl⟩
 | some n => exact .inr ⟨n, (numL_some.1 h).1, (numL_some.1 h).2, rfl⟩
theorem decL_big {n : Nat} (h : 4 < (decL n).length) : 999 < n := by
 by_cases hn : 999 < n
 · exact hn
 · have := decL_length (n := n) (d := 2) (by omega)
   omega
theorem tn_rel (l : List UInt8) : (numW l, true) = resNat (numL 5 l) ∨ (badN (numW l, true) ∧ badN (resNat (numL 5 l))) := by
 rcases resNum_cases l with ⟨h, e⟩ | ⟨n, h, hl, e⟩
 · refine .inr ⟨fun _ => .inl (by rw [e]; omega), ?_⟩
   cases h5 : numL 5 l with
   | none => exact fun hh => by cases hh
   | some n =>
     obtain ⟨q1, q2⟩ := numL_some.1 h5
     refine fun _ => .inr ?_
     have : 4 < (decL n).length := by
       by_cases h4 : l.length ≤ 4
       · rw [numL_some.2 ⟨q1, h4⟩] at h; cases h
       · rw [← q1]; omega
     have := decL_big this
     show (999 : Int) < (n : Int)
     omega
 · left
   rw [e, numL_some.2 ⟨h, by omega⟩]
   rfl
def decI (x : Int) : ByteArray := cond (decide (x < 0)) (ByteArray.mk #[45, 49]) (ba (decL x.toNat))
def splA (s : ByteArray) : List ByteArray := Go.Lib.splitB (ByteArray.mk #[32]) 0 (Go.Lib.countB s (ByteArray.mk #[32])) s
theorem splA_miss {l : List UInt8} (h : ∀ c ∈ l, c ≠ 32) : splA (ba l) = [ba l] := by
 have hi : Go.Lib.indexB (ba l) (ByteArray.mk #[32]) = -1 := by
   show Go.Lib.index l [32] = _
   rw [Go.Lib.index_one, indexByte_miss h]
 unfold splA
 rw [Go.Lib.splitB_miss _ _ _ _ hi]
theorem splA_hit {w r : List UInt8} (h : ∀ c ∈ w, c ≠ 32) : splA (ba (w ++ 32 :: r)) = ba w :: splA (ba r) := by
 have hi : Go.Lib.indexB (ba (w ++ 32 :: r)) (ByteArray.mk #[32]) = ((w.length : Nat) : Int) := by
   show Go.Lib.index (w ++ 32 :: r) [32] = _
   rw [Go.Lib.index_one]
   exact indexByte_hit h
 have z1 : (ByteArray.mk #[32]).size = 1 := rfl
 have e2 : (ba (w ++ 32 :: r)).extract (w.length + (ByteArray.mk #[32]).size) (ba (w ++ 32 :: r)).size = ba r := by
   apply tx_inj
   rw [tx_extractEnd, tx_ba, tx_ba, z1, ← List.drop_drop, List.drop_left]
   rfl
 unfold splA
 rw [Go.Lib.countB_hit _ _ _ (by omega) hi, e2, Nat.add_comm, split_hit h]
theorem splA_pos (s : ByteArray) : 1 ≤ (splA s).length := by
 unfold splA
 rw [Go.Lib.splitB_all (ByteArray.mk #[32]) (by decide) 0 _ s rfl]
 omega
def t3S (s : ByteArray) : Int × Int × Int × Bool :=
 let w1 := wordL (tx s); let w2 := wordL w1.2; let w3 := wordL w2.2
 (numW w1.1, numW w2.1, numW w3.1, decide (ba w3.2 = ByteArray.mk #[]) && decide (s = decI (numW w1.1) ++ ByteArray.mk #[32] ++ decI (numW w2.1) ++ ByteArray.mk #[32] ++ decI (numW w3.1)))
def t3I (s : ByteArray) : Int × Int × Int × Bool :=
 let N := natsA [] (splA s)
 (N.1.getD 0 0, N.1.getD 1 0, N.1.getD 2 0, N.2 && decide ((N.1.length : Int) = 3))
theorem badT_neg {a b c : Int} {f : Bool} (h : a < 0 ∨ b < 0 ∨ c < 0 ∨ 999 < a ∨ 999 < b ∨ 999 < c) : badT (a, b, c, f) := by
 intro _ hh
 simp only [Bool.and_eq_true, inB_iff] at hh
 omega
theorem badT_off {a b c : Int} {f : Bool} (h : f = false) : badT (a, b, c, f) := fun hh => by rw [show f = true from hh] at h; cases h
theorem t3I_few {s : ByteArray} (h : (splA s).length ≠ 3) : badT (t3I s) := by
 refine badT_off ?_
 cases hN : (natsA [] (splA s)).2 with
 | false => rfl
 | true =>
   have := natsA_length _ _ hN
   rw [this, List.length_nil, Nat.zero_add, Bool.true_and]
   exact df (by omega)
theorem numW_nil : numW [] = -1 := by
 unfold numW
 rw [numL_nil]
 rfl
theorem decI_no32 (n : Int) : ∀ c ∈ tx (decI n), c ≠ 32 := by
 intro c hc
 unfold decI at hc
 by_cases h : n < 0
 · rw [dt h, cond_true] at hc
   intro e
   subst e
   revert hc
   decide
 · rw [df h, cond_false, tx_ba] at hc
   exact decL_no32 _ c hc
theorem decI_nat (n : Nat) : decI (n : Int) = ba (decL n) := by
 unfold decI
 rw [df (by omega), Int.toNat_natCast]
 rfl
theorem cnt32 {l : List UInt8} (h : ∀ c ∈ l, c ≠ 32) : l.count 32 = 0 := List.count_eq_zero.2 fun hc => h 32 hc rfl
theorem t3_rel (s : ByteArray) : t3S s = t3I s ∨ (badT (t3S s) ∧ badT (t3I s)) := by
 obtain ⟨l, rfl⟩ : ∃ l, s = ba l := ⟨tx s, (ba_tx s).symm⟩
 rcases cut_cases l with ⟨a, r, rfl, ha, _, wa⟩ | ⟨h1, _, wa⟩
 · rcases cut_cases r with ⟨b, d, rfl, hb, _, wb⟩ | ⟨h2, _, wb⟩
   · rcases cut_cases d with ⟨c, f, rfl, hc, _, wc⟩ | ⟨h3, _, wc⟩
     · refine .inr ⟨?_, t3I_few ?_⟩
       · unfold t3S
         rw [tx_ba, wa]
         dsimp only
         rw [wb]
         dsimp only
         rw [wc]
         dsimp only
         refine badT_off ?_
         rw [Bool.and_eq_false_iff]
         right
         refine df fun hh => ?_
         have := congrArg (fun x => (tx x).count 32) hh
         have z : tx (ByteArray.mk #[32]) = [32] := rfl
         simp only [tx_append, tx_ba, List.count_append, List.count_cons, cnt32 ha, cnt32 hb, cnt32 hc, cnt32 (decI_no32 _), z, List.count_nil] at this
         simp at this
       · rw [splA_hit ha, splA_hit hb, splA_hit hc]
         have := splA_pos (ba f)
         simp only [List.length_cons]
         omega
     · have eS : t3S (ba (a ++ 32 :: (b ++ 32 :: d))) = (numW a, numW b, numW d, decide (ba (a ++ 32 :: (b ++ 32 :: d)) = decI (numW a) ++ ByteArray.mk #[32] ++ decI (numW b) ++ ByteArray.mk #[32] ++ decI (numW d))) := by
         unfold t3S
         rw [tx_ba, wa]
         dsimp only
         rw [wb]
         dsimp only
         rw [wc]
         dsimp only
         rw [dt (show ba [] = ByteArray.mk #[] from rfl), Bool.true_and]
       have eI : splA (ba (a ++ 32 :: (b ++ 32 :: d))) = [ba a, ba b, ba d] := by rw [splA_hit ha, splA_hit hb, splA_miss h3]
       rw [eS]
       unfold t3I
       rw [eI]
       have z : ∀ x : List UInt8, numL 5 x = none → numW x = -1 := fun x hx => by
         rcases resNum_cases x with ⟨_, e⟩ | ⟨n, e1, e2, _⟩
         · exact e
         · rw [numL_some.2 ⟨e1, by omega⟩] at hx; cases hx
       have y : ∀ (x : List UInt8) (n : Nat), numL 5 x = some n → (x = decL n ∧ numW x = (n : Int)) ∨ (numW x = -1 ∧ 999 < n) := fun x n hx => by
         obtain ⟨q1, q2⟩ := numL_some.1 hx
         rcases resNum_cases x with ⟨e0, e⟩ | ⟨k, e1, e2, e3⟩
         · refine .inr ⟨e, ?_⟩
           refine decL_big ?_
           by_cases h4 : x.length ≤ 4
           · rw [numL_some.2 ⟨q1, h4⟩] at e0; cases e0
           · rw [← q1]; omega
         · have : k = n := decL_inj (by rw [← e1, ← q1])
           subst this
           exact .inl ⟨e1, e3⟩
       cases n1 : numL 5 a with
       | none =>
         refine .inr ⟨badT_neg (.inl (by rw [z a n1]; omega)), ?_⟩
         simp only [natsA, tx_ba, n1]
         exact badT_off rfl
       | some na =>
         cases n2 : numL 5 b with
         | none =>
           refine .inr ⟨badT_neg (.inr (.inl (by rw [z b n2]; omega))), ?_⟩
           simp only [natsA, tx_ba, n1, n2]
           exact badT_off rfl
         | some nb =>
           cases n3 : numL 5 d with
           | none =>
             refine .inr ⟨badT_neg (.inr (.inr (.inl (by rw [z d n3]; omega)))), ?_⟩
             simp only [natsA, tx_ba, n1, n2, n3]
             exact badT_off rfl
           | some nd =>
             simp only [natsA, tx_ba, n1, n2, n3]
             show _ = ((na : Int), (nb : Int), (nd : Int), true) ∨ (_ ∧ badT ((na : Int), (nb : Int), (nd : Int), true))
             rcases y a na n1 with ⟨a1, a2⟩ | ⟨a1, a2⟩
             · rcases y b nb n2 with ⟨b1, b2⟩ | ⟨b1, b2⟩
               · rcases y d nd n3 with ⟨d1, d2⟩ | ⟨d1, d2⟩
                 · left
                   rw [a2, b2, d2, decI_nat, decI_nat, decI_nat, dt]
                   apply tx_inj
                   simp only [tx_append, tx_ba, a1, b1, d1]
                   show _ = decL na ++ [32] ++ decL nb ++ [32] ++ decL nd
                   simp
                 · exact .inr ⟨badT_neg (by omega), badT_neg (by omega)⟩
               · exact .inr ⟨badT_neg (by omega), badT_neg (by omega)⟩
             · exact .inr ⟨badT_neg (by omega), badT_neg (by omega)⟩
   · refine .inr ⟨?_, t3I_few ?_⟩
     · unfold t3S
       rw [tx_ba, wa]
       dsimp only
       rw [wb]
       exact badT_neg (.inr (.inr (.inl (by show numW [] < 0; rw [numW_nil]; omega))))
     · rw [splA_hit ha, splA_miss h2]
       simp
 · refine .inr ⟨?_, t3I_few ?_⟩
   · unfold t3S
     rw [tx_ba, wa]
     exact badT_neg (.inr (.inl (by show numW [] < 0; rw [numW_nil]; omega)))
   · rw [splA_miss h1]
     simp
theorem recK_time {R : Type} (tn : Int × Bool) (nr : Int × Int × Int × Int × ByteArray × Bool) (t3 : Int × Int × Int × Bool) (id now next : Int) (h : List (Int × Int × Int × Int × ByteArray)) (m : List (Int × Int × Int)) (b : List (Int × Int × Int × Int × ByteArray)) (Y : Int → Int → Int → List (Int × Int × Int × Int × ByteArray) → List (Int × Int × Int) → List (Int × Int × Int × Int × ByteArray) → R) (N : R) : recK (ByteArray.mk #[116, 105, 109, 101]) tn nr t3 id now next h m b Y N = (cond tn.2 (cond (decide (now < tn.1)) (Y id tn.1 next (h.filter fun e => decide (tn.1 < e.2.2.2.1)) (m.filter fun e => decide (tn.1 < e.2.2)) b) N) N) := by
 unfold recK
 exact ct (dt rfl)
theorem wd_time : decide (ByteArray.mk #[116, 105, 109, 101] = ByteArray.mk #[116, 105, 109, 101]) = true ∧ decide (ByteArray.mk #[116, 105, 109, 101] = ByteArray.mk #[110, 101, 120, 116]) = false ∧ decide (ByteArray.mk #[116, 105, 109, 101] = ByteArray.mk #[111, 119, 110]) = false ∧ decide (ByteArray.mk #[116, 105, 109, 101] = ByteArray.mk #[116, 97, 107, 101]) = false ∧ decide (ByteArray.mk #[116, 105, 109, 101] = ByteArray.mk #[104, 101, 108, 100]) = false ∧ decide (ByteArray.mk #[116, 105, 109, 101] = ByteArray.mk #[105, 110, 98, 111, 120]) = false ∧ decide (ByteArray.mk #[116, 105, 109, 101] = ByteArray.mk #[108, 101, 116]) = false ∧ decide (ByteArray.mk #[116, 105, 109, 101] = ByteArray.mk #[101, 97, 116]) = false ∧ decide (ByteArray.mk #[116, 105, 109, 101] = ByteArray.mk #[109, 97, 114, 107]) = false := by decide
theorem recK_next {R : Type} (tn : Int × Bool) (nr : Int × Int × Int × Int × ByteArray × Bool) (t3 : Int × Int × Int × Bool) (id now next : Int) (h : List (Int × Int × Int × Int × ByteArray)) (m : List (Int × Int × Int)) (b : List (Int × Int × Int × Int × ByteArray)) (Y : Int → Int → Int → List (Int × Int × Int × Int × ByteArray) → List (Int × Int × Int) → List (Int × Int × Int × Int × ByteArray) → R) (N : R) : recK (ByteArray.mk #[110, 101, 120, 116]) tn nr t3 id now next h m b Y N = (cond tn.2 (cond (decide (next < tn.1)) (Y id now tn.1 h m b) N) N) := by
 unfold recK
 exact (cf (by decide)).trans (ct (dt rfl))
theorem wd_next : decide (ByteArray.mk #[110, 101, 120, 116] = ByteArray.mk #[116, 105, 109, 101]) = false ∧ decide (ByteArray.mk #[110, 101, 120, 116] = ByteArray.mk #[110, 101, 120, 116]) = true ∧ decide (ByteArray.mk #[110, 101, 120, 116] = ByteArray.mk #[111, 119, 110]) = false ∧ decide (ByteArray.mk #[110, 101, 120, 116] = ByteArray.mk #[116, 97, 107, 101]) = false ∧ decide (ByteArray.mk #[110, 101, 120, 116] = ByteArray.mk #[104, 101, 108, 100]) = false ∧ decide (ByteArray.mk #[110, 101, 120, 116] = ByteArray.mk #[105, 110, 98, 111, 120]) = false ∧ decide (ByteArray.mk #[110, 101, 120, 116] = ByteArray.mk #[108, 101, 116]) = false ∧ decide (ByteArray.mk #[110, 101, 120, 116] = ByteArray.mk #[101, 97, 116]) = false ∧ decide (ByteArray.mk #[110, 101, 120, 116] = ByteArray.mk #[109, 97, 114, 107]) = false := by decide
theorem recK_own {R : Type} (tn : Int × Bool) (nr : Int × Int × Int × Int × ByteArray × Bool) (t3 : Int × Int × Int × Bool) (id now next : Int) (h : List (Int × Int × Int × Int × ByteArray)) (m : List (Int × Int × Int)) (b : List (Int × Int × Int × Int × ByteArray)) (Y : Int → Int → Int → List (Int × Int × Int × Int × ByteArray) → List (Int × Int × Int) → List (Int × Int × Int × Int × ByteArray) → R) (N : R) : recK (ByteArray.mk #[111, 119, 110]) tn nr t3 id now next h m b Y N = (cond nr.2.2.2.2.2 (cond (decide (nr.1 = id)) (cond (decide (nr.2.1 = next)) (cond (accB now h m b nr.1 nr.2.1 nr.2.2.1 nr.2.2.2.1 nr.2.2.2.2.1) (cond (decide (nr.2.2.1 = id)) (Y id now (w64 (next + 1)) h (inM (nr.1, nr.2.1, nr.2.2.2.1) m) (inN (nr.1, nr.2.1, nr.2.2.1, nr.2.2.2.1, nr.2.2.2.2.1) b)) (Y id now (w64 (next + 1)) (inN (nr.1, nr.2.1, nr.2.2.1, nr.2.2.2.1, nr.2.2.2.2.1) h) m b)) N) N) N) N) := by
 unfold recK
 exact (cf (by decide)).trans ((cf (by decide)).trans (ct (dt rfl)))
theorem wd_own : decide (ByteArray.mk #[111, 119, 110] = ByteArray.mk #[116, 105, 109, 101]) = false ∧ decide (ByteArray.mk #[111, 119, 110] = ByteArray.mk #[110, 101, 120, 116]) = false ∧ decide (ByteArray.mk #[111, 119, 110] = ByteArray.mk #[111, 119, 110]) = true ∧ decide (ByteArray.mk #[111, 119, 110] = ByteArray.mk #[116, 97, 107, 101]) = false ∧ decide (ByteArray.mk #[111, 119, 110] = ByteArray.mk #[104, 101, 108, 100]) = false ∧ decide (ByteArray.mk #[111, 119, 110] = ByteArray.mk #[105, 110, 98, 111, 120]) = false ∧ decide (ByteArray.mk #[111, 119, 110] = ByteArray.mk #[108, 101, 116]) = false ∧ decide (ByteArray.mk #[111, 119, 110] = ByteArray.mk #[101, 97, 116]) = false ∧ decide (ByteArray.mk #[111, 119, 110] = ByteArray.mk #[109, 97, 114, 107]) = false := by decide
theorem recK_take {R : Type} (tn : Int × Bool) (nr : Int × Int × Int × Int × ByteArray × Bool) (t3 : Int × Int × Int × Bool) (id now next : Int) (h : List (Int × Int × Int × Int × ByteArray)) (m : List (Int × Int × Int)) (b : List (Int × Int × Int × Int × ByteArray)) (Y : Int → Int → Int → List (Int × Int × Int × Int × ByteArray) → List (Int × Int × Int) → List (Int × Int × Int × Int × ByteArray) → R) (N : R) : recK (ByteArray.mk #[116, 97, 107, 101]) tn nr t3 id now next h m b Y N = (cond nr.2.2.2.2.2 (cond (decide (nr.1 = id)) N (cond (accB now h m b nr.1 nr.2.1 nr.2.2.1 nr.2.2.2.1 nr.2.2.2.2.1) (cond (decide (nr.2.2.1 = id)) (Y id now next h (inM (nr.1, nr.2.1, nr.2.2.2.1) m) (inN (nr.1, nr.2.1, nr.2.2.1, nr.2.2.2.1, nr.2.2.2.2.1) b)) (Y id now next (inN (nr.1, nr.2.1, nr.2.2.1, nr.2.2.2.1, nr.2.2.2.2.1) h) m b)) N)) N) := by
 unfold recK
 exact (cf (by decide)).trans ((cf (by decide)).trans ((cf (by decide)).trans (ct (dt rfl))))
theorem wd_take : decide (ByteArray.mk #[116, 97, 107, 101] = ByteArray.mk #[116, 105, 109, 101]) = false ∧ decide (ByteArray.mk #[116, 97, 107, 101] = ByteArray.mk #[110, 101, 120, 116]) = false ∧ decide (ByteArray.mk #[116, 97, 107, 101] = ByteArray.mk #[111, 119, 110]) = false ∧ decide (ByteArray.mk #[116, 97, 107, 101] = ByteArray.mk #[116, 97, 107, 101]) = true ∧ decide (ByteArray.mk #[116, 97, 107, 101] = ByteArray.mk #[104, 101, 108, 100]) = false ∧ decide (ByteArray.mk #[116, 97, 107, 101] = ByteArray.mk #[105, 110, 98, 111, 120]) = false ∧ decide (ByteArray.mk #[116, 97, 107, 101] = ByteArray.mk #[108, 101, 116]) = false ∧ decide (ByteArray.mk #[116, 97, 107, 101] = ByteArray.mk #[101, 97, 116]) = false ∧ decide (ByteArray.mk #[116, 97, 107, 101] = ByteArray.mk #[109, 97, 114, 107]) = false := by decide
theorem recK_held {R : Type} (tn : Int × Bool) (nr : Int × Int × Int × Int × ByteArray × Bool) (t3 : Int × Int × Int × Bool) (id now next : Int) (h : List (Int × Int × Int × Int × ByteArray)) (m : List (Int × Int × Int)) (b : List (Int × Int × Int × Int × ByteArray)) (Y : Int → Int → Int → List (Int × Int × Int × Int × ByteArray) → List (Int × Int × Int) → List (Int × Int × Int × Int × ByteArray) → R) (N : R) : recK (ByteArray.mk #[104, 101, 108, 100]) tn nr t3 id now next h m b Y N = (cond nr.2.2.2.2.2 (cond (h.any (isN nr.1 nr.2.1)) N (cond (b.any (isN nr.1 nr.2.1)) N (Y id now next (inN (nr.1, nr.2.1, nr.2.2.1, nr.2.2.2.1, nr.2.2.2.2.1) h) m b))) N) := by
 unfold recK
 exact (cf (by decide)).trans ((cf (by decide)).trans ((cf (by decide)).trans ((cf (by decide)).trans (ct (dt rfl)))))
theorem wd_held : decide (ByteArray.mk #[104, 101, 108, 100] = ByteArray.mk #[116, 105, 109, 101]) = false ∧ decide (ByteArray.mk #[104, 101, 108, 100] = ByteArray.mk #[110, 101, 120, 116]) = false ∧ decide (ByteArray.mk #[104, 101, 108, 100] = ByteArray.mk #[111, 119, 110]) = false ∧ decide (ByteArray.mk #[104, 101, 108, 100] = ByteArray.mk #[116, 97, 107, 101]) = false ∧ decide (ByteArray.mk #[104, 101, 108, 100] = ByteArray.mk #[104, 101, 108, 100]) = true ∧ decide (ByteArray.mk #[104, 101, 108, 100] = ByteArray.mk #[105, 110, 98, 111, 120]) = false ∧ decide (ByteArray.mk #[104, 101, 108, 100] = ByteArray.mk #[108, 101, 116]) = false ∧ decide (ByteArray.mk #[104, 101, 108, 100] = ByteArray.mk #[101, 97, 116]) = false ∧ decide (ByteArray.mk #[104, 101, 108, 100] = ByteArray.mk #[109, 97, 114, 107]) = false := by decide
theorem recK_inbox {R : Type} (tn : Int × Bool) (nr : Int × Int × Int × Int × ByteArray × Bool) (t3 : Int × Int × Int × Bool) (id now next : Int) (h : List (Int × Int × Int × Int × ByteArray)) (m : List (Int × Int × Int)) (b : List (Int × Int × Int × Int × ByteArray)) (Y : Int → Int → Int → List (Int × Int × Int × Int × ByteArray) → List (Int × Int × Int) → List (Int × Int × Int × Int × ByteArray) → R) (N : R) : recK (ByteArray.mk #[105, 110, 98, 111, 120]) tn nr t3 id now next h m b Y N = (cond nr.2.2.2.2.2 (cond (h.any (isN nr.1 nr.2.1)) N (cond (b.any (isN nr.1 nr.2.1)) N (Y id now next h m (inN (nr.1, nr.2.1, nr.2.2.1, nr.2.2.2.1, nr.2.2.2.2.1) b)))) N) := by
 unfold recK
 exact (cf (by decide)).trans ((cf (by decide)).trans ((cf (by decide)).trans ((cf (by decide)).trans ((cf (by decide)).trans (ct (dt rfl))))))
theorem wd_inbox : decide (ByteArray.mk #[105, 110, 98, 111, 120] = ByteArray.mk #[116, 105, 109, 101]) = false ∧ decide (ByteArray.mk #[105, 110, 98, 111, 120] = ByteArray.mk #[110, 101, 120, 116]) = false ∧ decide (ByteArray.mk #[105, 110, 98, 111, 120] = ByteArray.mk #[111, 119, 110]) = false ∧ decide (ByteArray.mk #[105, 110, 98, 111, 120] = ByteArray.mk #[116, 97, 107, 101]) = false ∧ decide (ByteArray.mk #[105, 110, 98, 111, 120] = ByteArray.mk #[104, 101, 108, 100]) = false ∧ decide (ByteArray.mk #[105, 110, 98, 111, 120] = ByteArray.mk #[105, 110, 98, 111, 120]) = true ∧ decide (ByteArray.mk #[105, 110, 98, 111, 120] = ByteArray.mk #[108, 101, 116]) = false ∧ decide (ByteArray.mk #[105, 110, 98, 111, 120] = ByteArray.mk #[101, 97, 116]) = false ∧ decide (ByteArray.mk #[105, 110, 98, 111, 120] = ByteArray.mk #[109, 97, 114, 107]) = false := by decide
theorem recK_let {R : Type} (tn : Int × Bool) (nr : Int × Int × Int × Int × ByteArray × Bool) (t3 : Int × Int × Int × Bool) (id now next : Int) (h : List (Int × Int × Int × Int × ByteArray)) (m : List (Int × Int × Int)) (b : List (Int × Int × Int × Int × ByteArray)) (Y : Int → Int → Int → List (Int × Int × Int × Int × ByteArray) → List (Int × Int × Int) → List (Int × Int × Int × Int × ByteArray) → R) (N : R) : recK (ByteArray.mk #[108, 101, 116]) tn nr t3 id now next h m b Y N = (cond t3.2.2.2 (cond (h.any (isN t3.1 t3.2.1)) (cond (decide ((h.getD (ixL (isN t3.1 t3.2.1) h 0).toNat nd).2.2.2.1 = t3.2.2.1)) (Y id now next (h.take (ixL (isN t3.1 t3.2.1) h 0).toNat ++ h.drop ((ixL (isN t3.1 t3.2.1) h 0).toNat + 1)) (inM (t3.1, t3.2.1, t3.2.2.1) m) b) N) N) N) := by
 unfold recK
 exact (cf (by decide)).trans ((cf (by decide)).trans ((cf (by decide)).trans ((cf (by decide)).trans ((cf (by decide)).trans ((cf (by decide)).trans (ct (dt rfl)))))))
theorem wd_let : decide (ByteArray.mk #[108, 101, 116] = ByteArray.mk #[116, 105, 109, 101]) = false ∧ decide (ByteArray.mk #[108, 101, 116] = ByteArray.mk #[110, 101, 120, 116]) = false ∧ decide (ByteArray.mk #[108, 101, 116] = ByteArray.mk #[111, 119, 110]) = false ∧ decide (ByteArray.mk #[108, 101, 116] = ByteArray.mk #[116, 97, 107, 101]) = false ∧ decide (ByteArray.mk #[108, 101, 116] = ByteArray.mk #[104, 101, 108, 100]) = false ∧ decide (ByteArray.mk #[108, 101, 116] = ByteArray.mk #[105, 110, 98, 111, 120]) = false ∧ decide (ByteArray.mk #[108, 101, 116] = ByteArray.mk #[108, 101, 116]) = true ∧ decide (ByteArray.mk #[108, 101, 116] = ByteArray.mk #[101, 97, 116]) = false ∧ decide (ByteArray.mk #[108, 101, 116] = ByteArray.mk #[109, 97, 114, 107]) = false := by decide
theorem recK_eat {R : Type} (tn : Int × Bool) (nr : Int × Int × Int × Int × ByteArray × Bool) (t3 : Int × Int × Int × Bool) (id now next : Int) (h : List (Int × Int × Int × Int × ByteArray)) (m : List (Int × Int × Int)) (b : List (Int × Int × Int × Int × ByteArray)) (Y : Int → Int → Int → List (Int × Int × Int × Int × ByteArray) → List (Int × Int × Int) → List (Int × Int × Int × Int × ByteArray) → R) (N : R) : recK (ByteArray.mk #[101, 97, 116]) tn nr t3 id now next h m b Y N = (cond t3.2.2.2 (cond (b.any (isN t3.1 t3.2.1)) (cond (decide ((b.getD (ixL (isN t3.1 t3.2.1) b 0).toNat nd).2.2.2.1 = t3.2.2.1)) (Y id now next h m (b.take (ixL (isN t3.1 t3.2.1) b 0).toNat ++ b.drop ((ixL (isN t3.1 t3.2.1) b 0).toNat + 1))) N) N) N) := by
 unfold recK
 exact (cf (by decide)).trans ((cf (by decide)).trans ((cf (by decide)).trans ((cf (by decide)).trans ((cf (by decide)).trans ((cf (by decide)).trans ((cf (by decide)).trans (ct (dt rfl))))))))
theorem wd_eat : decide (ByteArray.mk #[101, 97, 116] = ByteArray.mk #[116, 105, 109, 101]) = false ∧ decide (ByteArray.mk #[101, 97, 116] = ByteArray.mk #[110, 101, 120, 116]) = false ∧ decide (ByteArray.mk #[101, 97, 116] = ByteArray.mk #[111, 119, 110]) = false ∧ decide (ByteArray.mk #[101, 97, 116] = ByteArray.mk #[116, 97, 107, 101]) = false ∧ decide (ByteArray.mk #[101, 97, 116] = ByteArray.mk #[104, 101, 108, 100]) = false ∧ decide (ByteArray.mk #[101, 97, 116] = ByteArray.mk #[105, 110, 98, 111, 120]) = false ∧ decide (ByteArray.mk #[101, 97, 116] = ByteArray.mk #[108, 101, 116]) = false ∧ decide (ByteArray.mk #[101, 97, 116] = ByteArray.mk #[101, 97, 116]) = true ∧ decide (ByteArray.mk #[101, 97, 116] = ByteArray.mk #[109, 97, 114, 107]) = false := by decide
theorem recK_mark {R : Type} (tn : Int × Bool) (nr : Int × Int × Int × Int × ByteArray × Bool) (t3 : Int × Int × Int × Bool) (id now next : Int) (h : List (Int × Int × Int × Int × ByteArray)) (m : List (Int × Int × Int)) (b : List (Int × Int × Int × Int × ByteArray)) (Y : Int → Int → Int → List (Int × Int × Int × Int × ByteArray) → List (Int × Int × Int) → List (Int × Int × Int × Int × ByteArray) → R) (N : R) : recK (ByteArray.mk #[109, 97, 114, 107]) tn nr t3 id now next h m b Y N = (cond t3.2.2.2 (cond (hasM m t3.1 t3.2.1) N (Y id now next h (inM (t3.1, t3.2.1, t3.2.2.1) m) b)) N) := by
 unfold recK
 exact (cf (by decide)).trans ((cf (by decide)).trans ((cf (by decide)).trans ((cf (by decide)).trans ((cf (by decide)).trans ((cf (by decide)).trans ((cf (by decide)).trans ((cf (by decide)).trans (ct (dt rfl)))))))))
theorem wd_mark : decide (ByteArray.mk #[109, 97, 114, 107] = ByteArray.mk #[116, 105, 109, 101]) = false ∧ decide (ByteArray.mk #[109, 97, 114, 107] = ByteArray.mk #[110, 101, 120, 116]) = false ∧ decide (ByteArray.mk #[109, 97, 114, 107] = ByteArray.mk #[111, 119, 110]) = false ∧ decide (ByteArray.mk #[109, 97, 114, 107] = ByteArray.mk #[116, 97, 107, 101]) = false ∧ decide (ByteArray.mk #[109, 97, 114, 107] = ByteArray.mk #[104, 101, 108, 100]) = false ∧ decide (ByteArray.mk #[109, 97, 114, 107] = ByteArray.mk #[105, 110, 98, 111, 120]) = false ∧ decide (ByteArray.mk #[109, 97, 114, 107] = ByteArray.mk #[108, 101, 116]) = false ∧ decide (ByteArray.mk #[109, 97, 114, 107] = ByteArray.mk #[101, 97, 116]) = false ∧ decide (ByteArray.mk #[109, 97, 114, 107] = ByteArray.mk #[109, 97, 114, 107]) = true := by decide
theorem recK_else {R : Type} (tn : Int × Bool) (nr : Int × Int × Int × Int × ByteArray × Bool) (t3 : Int × Int × Int × Bool) (id now next : Int) (h : List (Int × Int × Int × Int × ByteArray)) (m : List (Int × Int × Int)) (b : List (Int × Int × Int × Int × ByteArray)) (Y : Int → Int → Int → List (Int × Int × Int × Int × ByteArray) → List (Int × Int × Int) → List (Int × Int × Int × Int × ByteArray) → R) (N : R) {w : ByteArray} (hw : decide (w = ByteArray.mk #[116, 105, 109, 101]) = false ∧ decide (w = ByteArray.mk #[110, 101, 120, 116]) = false ∧ decide (w = ByteArray.mk #[111, 119, 110]) = false ∧ decide (w = ByteArray.mk #[116, 97, 107, 101]) = false ∧ decide (w = ByteArray.mk #[104, 101, 108, 100]) = false ∧ decide (w = ByteArray.mk #[105, 110, 98, 111, 120]) = false ∧ decide (w = ByteArray.mk #[108, 101, 116]) = false ∧ decide (w = ByteArray.mk #[101, 97, 116]) = false ∧ decide (w = ByteArray.mk #[109, 97, 114, 107]) = false) : recK w tn nr t3 id now next h m b Y N = N := by
 obtain ⟨e1, e2, e3, e4, e5, e6, e7, e8, e9⟩ := hw
 unfold recK
 rw [e1, e2, e3, e4, e5, e6, e7, e8, e9]
 rfl
theorem wd_cases (w : ByteArray) : w = ByteArray.mk #[116, 105, 109, 101] ∨ w = ByteArray.mk #[110, 101, 120, 116] ∨ w = ByteArray.mk #[111, 119, 110] ∨ w = ByteArray.mk #[116, 97, 107, 101] ∨ w = ByteArray.mk #[104, 101, 108, 100] ∨ w = ByteArray.mk #[105, 110, 98, 111, 120] ∨ w = ByteArray.mk #[108, 101, 116] ∨ w = ByteArray.mk #[101, 97, 116] ∨ w = ByteArray.mk #[109, 97, 114, 107] ∨ (decide (w = ByteArray.mk #[116, 105, 109, 101]) = false ∧ decide (w = ByteArray.mk #[110, 101, 120, 116]) = false ∧ decide (w = ByteArray.mk #[111, 119, 110]) = false ∧ decide (w = ByteArray.mk #[116, 97, 107, 101]) = false ∧ decide (w = ByteArray.mk #[104, 101, 108, 100]) = false ∧ decide (w = ByteArray.mk #[105, 110, 98, 111, 120]) = false ∧ decide (w = ByteArray.mk #[108, 101, 116]) = false ∧ decide (w = ByteArray.mk #[101, 97, 116]) = false ∧ decide (w = ByteArray.mk #[109, 97, 114, 107]) = false) := by
 by_cases h1 : w = ByteArray.mk #[116, 105, 109, 101]
 · exact .inl h1
 by_cases h2 : w = ByteArray.mk #[110, 101, 120, 116]
 · exact .inr (.inl h2)
 by_cases h3 : w = ByteArray.mk #[111, 119, 110]
 · exact .inr (.inr (.inl h3))
 by_cases h4 : w = ByteArray.mk #[116, 97, 107, 101]
 · exact .inr (.inr (.inr (.inl h4)))
 by_cases h5 : w = ByteArray.mk #[104, 101, 108, 100]
 · exact .inr (.inr (.inr (.inr (.inl h5))))
 by_cases h6 : w = ByteArray.mk #[105, 110, 98, 111, 120]
 · exact .inr (.inr (.inr (.inr (.inr (.inl h6)))))
 by_cases h7 : w = ByteArray.mk #[108, 101, 116]
 · exact .inr (.inr (.inr (.inr (.inr (.inr (.inl h7))))))
 by_cases h8 : w = ByteArray.mk #[101, 97, 116]
 · exact .inr (.inr (.inr (.inr (.inr (.inr (.inr (.inl h8)))))))
 by_cases h9 : w = ByteArray.mk #[109, 97, 114, 107]
 · exact .inr (.inr (.inr (.inr (.inr (.inr (.inr (.inr (.inl h9))))))))
 exact .inr (.inr (.inr (.inr (.inr (.inr (.inr (.inr (.inr (⟨df h1, df h2, df h3, df h4, df h5, df h6, df h7, df h8, df h9⟩)))))))))
theorem recK_none {R : Type} (tn : Int × Bool) (nr : Int × Int × Int × Int × ByteArray × Bool) (t3 : Int × Int × Int × Bool) (id now next : Int) (h : List (Int × Int × Int × Int × ByteArray)) (m : List (Int × Int × Int)) (b : List (Int × Int × Int × Int × ByteArray)) (Y : Int → Int → Int → List (Int × Int × Int × Int × ByteArray) → List (Int × Int × Int) → List (Int × Int × Int × Int × ByteArray) → R) (N : R) {w : ByteArray} (h1 : tn.2 = false) (h2 : nr.2.2.2.2.2 = false) (h3 : t3.2.2.2 = false) : recK w tn nr t3 id now next h m b Y N = N := by
 unfold recK
 rw [h1, h2, h3]
 simp only [cond_false, Bool.cond_self]
theorem implR_empty : (implR (ba [])).2.2.2.2.2 = false := by
 rcases implR_cases (ba []) with h | ⟨a, b, c, d, t, _, _, h⟩
 · rw [h]; rfl
 · exact absurd h ntL_ne
theorem implR_small (s : ByteArray) : (implR s).2.2.2.2.1.size ≤ 24 := by
 rcases implR_cases s with h | ⟨a, b, c, d, t, h, ho, _⟩
 · rw [h]; exact Nat.zero_le _
 · rw [h]; exact (ntOk_some ho).2.2.2.2.1.2
theorem specR_small (s : ByteArray) : (specR s).2.2.2.2.1.size ≤ 24 := by rw [← implR_eq]; exact implR_small s
theorem t3I_empty : (t3I (ba [])).2.2.2 = false := by
 unfold t3I
 rw [splA_miss (fun c hc => by cases hc)]
 simp only [natsA, tx_ba, numL_nil]
 rfl
theorem splA_length (s : ByteArray) : (splA s).length ≤ s.size + 1 := by
 unfold splA
 rw [Go.Lib.splitB_all (ByteArray.mk #[32]) (by decide) 0 _ s rfl]
 have := Go.Lib.countB_le (ByteArray.mk #[32]) (by decide) s.size s (Nat.le_refl _)
 omega
theorem cond_ind {α : Type} {P : α → Prop} {c : Bool} {a b : α} (ha : P a) (hb : P b) : P (cond c a b) := by cases c <;> assumption
theorem recK_ind {R : Type} (P : R → Prop) (w : ByteArray) (tn : Int × Bool) (nr : Int × Int × Int × Int × ByteArray × Bool) (t3 : Int × Int × Int × Bool) (id now next : Int) (h : List (Int × Int × Int × Int × ByteArray)) (m : List (Int × Int × Int)) (b : List (Int × Int × Int × Int × ByteArray))
   (Y : Int → Int → Int → List (Int × Int × Int × Int × ByteArray) → List (Int × Int × Int) → List (Int × Int × Int × Int × ByteArray) → R) (N : R) (hY : ∀ i n x h m b, P (Y i n x h m b)) (hN : P N) : P (recK w tn nr t3 id now next h m b Y N) := by
 unfold recK
 repeat (first | exact hN | exact hY _ _ _ _ _ _ | refine cond_ind ?_ ?_)
theorem mem_ins {α : Type} {q : α → Bool} {a e : α} {l : List α} (h : e ∈ ins q a l) : e = a ∨ e ∈ l := by
 induction l with
 | nil => exact .inl (List.mem_singleton.1 h)
 | cons x xs ih =>
   unfold ins at h
   cases hq : q x with
   | true => rw [hq, cond_true] at h; rcases List.mem_cons.1 h with h | h; exact .inl h; exact .inr h
   | false =>
     rw [hq, cond_false] at h
     rcases List.mem_cons.1 h with h | h
     · exact .inr (by rw [h]; simp)
     · rcases ih h with h | h
       · exact .inl h
       · exact .inr (List.mem_cons_of_mem _ h)
theorem recK_congr {R : Type} (w : ByteArray) (tn : Int × Bool) (nr : Int × Int × Int × Int × ByteArray × Bool) (t3 : Int × Int × Int × Bool) (id now next : Int) (h : List (Int × Int × Int × Int × ByteArray)) (m : List (Int × Int × Int)) (b : List (Int × Int × Int × Int × ByteArray))
   (Y Y' : Int → Int → Int → List (Int × Int × Int × Int × ByteArray) → List (Int × Int × Int) → List (Int × Int × Int × Int × ByteArray) → R) (N : R) (hh : h.length ≤ 100) (hm : m.length ≤ 100) (hb : b.length ≤ 100) (th : ∀ e ∈ h, e.2.2.2.2.size ≤ 24) (tb : ∀ e ∈ b, e.2.2.2.2.size ≤ 24) (hn : nr.2.2.2.2.1.size ≤ 24)
   (hY : ∀ i n x (h' : List (Int × Int × Int × Int × ByteArray)) (m' : List (Int × Int × Int)) (b' : List (Int × Int × Int × Int × ByteArray)), h'.length ≤ 101 → m'.length ≤ 101 → b'.length ≤ 101 → (∀ e ∈ h', e.2.2.2.2.size ≤ 24) → (∀ e ∈ b', e.2.2.2.2.size ≤ 24) → Y i n x h' m' b' = Y' i n x h' m' b') :
   recK w tn nr t3 id now next h m b Y N = recK w tn nr t3 id now next h m b Y' N := by
 have f1 : ∀ t : Int, (h.filter fun e => decide (t < e.2.2.2.1)).length ≤ 101 := fun t => Nat.le_trans (List.length_filter_le _ _) (by omega)
 have f2 : ∀ t : Int, (m.filter fun e => decide (t < e.2.2)).length ≤ 101 := fun t => Nat.le_trans (List.length_filter_le _ _) (by omega)
 have i1 : ∀ (l : List (Int × Int × Int × Int × ByteArray)), l.length ≤ 100 → (inN (nr.1, nr.2.1, nr.2.2.1, nr.2.2.2.1, nr.2.2.2.2.1) l).length ≤ 101 := fun l hl => by rw [inN, ins_length]; omega
 have i2 : ∀ (l : List (Int × Int × Int × Int × ByteArray)), (∀ e ∈ l, e.2.2.2.2.size ≤ 24) → ∀ e ∈ inN (nr.1, nr.2.1, nr.2.2.1, nr.2.2.2.1, nr.2.2.2.2.1) l, e.2.2.2.2.size ≤ 24 := fun l hl e he => by
   rcases mem_ins he with rfl | he
   · exact hn
   · exact hl e he
 have i3 : ∀ a : Int × Int × Int, (inM a m).length ≤ 101 := fun a => by rw [inM, ins_length]; omega
 have d1 : ∀ (l : List (Int × Int × Int × Int × ByteArray)) (i : Nat), l.length ≤ 100 → (l.take i ++ l.drop (i + 1)).length ≤ 101 := fun l i hl => by simp; omega
 have d2 : ∀ (l : List (Int × Int × Int × Int × ByteArray)) (i : Nat), (∀ e ∈ l, e.2.2.2.2.size ≤ 24) → ∀ e ∈ l.take i ++ l.drop (i + 1), e.2.2.2.2.size ≤ 24 := fun l i hl e he => by
   rcases List.mem_append.1 he with he | he
   · exact hl e (List.mem_of_mem_take he)
   · exact hl e (List.mem_of_mem_drop he)
 unfold recK
 refine cond_congr (cond_congr (cond_congr (hY _ _ _ _ _ _ (f1 _) (f2 _) (by omega) (fun e he => th e (List.mem_filter.1 he).1) tb) rfl) rfl) ?_
 refine cond_congr (cond_congr (cond_congr (hY _ _ _ _ _ _ (by omega) (by omega) (by omega) th tb) rfl) rfl) ?_
 refine cond_congr (cond_congr (cond_congr (cond_congr (cond_congr (cond_congr (hY _ _ _ _ _ _ (by omega) (i3 _) (i1 _ hb) th (i2 _ tb)) (hY _ _ _ _ _ _ (i1 _ hh) (by omega) (by omega) (i2 _ th) tb)) rfl) rfl) rfl) rfl) ?_
 refine cond_congr (cond_congr (cond_congr rfl (cond_congr (cond_congr (hY _ _ _ _ _ _ (by omega) (i3 _) (i1 _ hb) th (i2 _ tb)) (hY _ _ _ _ _ _ (i1 _ hh) (by omega) (by omega) (i2 _ th) tb)) rfl)) rfl) ?_
 refine cond_congr (cond_congr (cond_congr rfl (cond_congr rfl (hY _ _ _ _ _ _ (i1 _ hh) (by omega) (by omega) (i2 _ th) tb))) rfl) ?_
 refine cond_congr (cond_congr (cond_congr rfl (cond_congr rfl (hY _ _ _ _ _ _ (by omega) (by omega) (i1 _ hb) th (i2 _ tb)))) rfl) ?_
 refine cond_congr (cond_congr (cond_congr (cond_congr (hY _ _ _ _ _ _ (d1 _ _ hh) (i3 _) (by omega) (d2 _ _ th) tb) rfl) rfl) rfl) ?_
 refine cond_congr (cond_congr (cond_congr (cond_congr (hY _ _ _ _ _ _ (by omega) (by omega) (d1 _ _ hb) th (d2 _ _ tb)) rfl) rfl) rfl) ?_
 exact cond_congr (cond_congr (cond_congr rfl (hY _ _ _ _ _ _ (by omega) (i3 _) (by omega) th tb)) rfl) rfl
/-- What a keeper is after a record. -/
def doK {R : Type} (id now next : Int) (h : List (Int × Int × Int × Int × ByteArray)) (m : List (Int × Int × Int)) (b : List (Int × Int × Int × Int × ByteArray)) (s : ByteArray)
   (K : Int → Int → Int → List (Int × Int × Int × Int × ByteArray) → List (Int × Int × Int) → List (Int × Int × Int × Int × ByteArray) → Bool → R) : R :=
 cond (keepB id now next h m b) (recK (ba (wordL (tx s)).1) (resNat (numL 5 (wordL (tx s)).2)) (implR (ba (wordL (tx s)).2)) (t3I (ba (wordL (tx s)).2)) id now next h m b (fun i n x h' m' b' => cond (keepB i n x h' m' b') (K i n x h' m' b' true) (K id now next h m b false)) (K id now next h m b false)) (K 0 0 0 [] [] [] false)
def doV (id now next : Int) (h : List (Int × Int × Int × Int × ByteArray)) (m : List (Int × Int × Int)) (b : List (Int × Int × Int × Int × ByteArray)) (s : ByteArray) : Int × Int × Int × List (Int × Int × Int × Int × ByteArray) × List (Int × Int × Int) × List (Int × Int × Int × Int × ByteArray) × Bool :=
 doK id now next h m b s (fun i n x h m b o => (i, n, x, h, m, b, o))
theorem doK_doV {R : Type} (id now next : Int) (h : List (Int × Int × Int × Int × ByteArray)) (m : List (Int × Int × Int)) (b : List (Int × Int × Int × Int × ByteArray)) (s : ByteArray)
   (K : Int → Int → Int → List (Int × Int × Int × Int × ByteArray) → List (Int × Int × Int) → List (Int × Int × Int × Int × ByteArray) → Bool → R) : doK id now next h m b s K = K (doV id now next h m b s).1 (doV id now next h m b s).2.1 (doV id now next h m b s).2.2.1 (doV id now next h m b s).2.2.2.1 (doV id now next h m b s).2.2.2.2.1 (doV id now next h m b s).2.2.2.2.2.1 (doV id now next h m b s).2.2.2.2.2.2 := by
 have hf : ∀ f : (Int × Int × Int × List (Int × Int × Int × Int × ByteArray) × List (Int × Int × Int) × List (Int × Int × Int × Int × ByteArray) × Bool) → R, f (doV id now next h m b s) = doK id now next h m b s (fun i n x h m b o => f (i, n, x, h, m, b, o)) := by
   intro f
   have hc : ∀ (c : Bool) x y, f (cond c x y) = cond c (f x) (f y) := fun c x y => by cases c <;> rfl
   unfold doV doK
   rw [hc, recK_map f]
   simp only [hc]
 exact (hf (fun v => K v.1 v.2.1 v.2.2.1 v.2.2.2.1 v.2.2.2.2.1 v.2.2.2.2.2.1 v.2.2.2.2.2.2)).symm
/-- A keeper that holds little. -/
def smallK (v : Int × Int × Int × List (Int × Int × Int × Int × ByteArray) × List (Int × Int × Int) × List (Int × Int × Int × Int × ByteArray) × Bool) : Prop :=
 v.2.2.2.1.length ≤ 12 ∧ v.2.2.2.2.1.length ≤ 12 ∧ v.2.2.2.2.2.1.length ≤ 12 ∧ (∀ e ∈ v.2.2.2.1, e.2.2.2.2.size ≤ 24) ∧ (∀ e ∈ v.2.2.2.2.2.1, e.2.2.2.2.size ≤ 24)
theorem keepB_small {id now next : Int} {h : List (Int × Int × Int × Int × ByteArray)} {m : List (Int × Int × Int)} {b : List (Int × Int × Int × Int × ByteArray)} (hk : keepB id now next h m b = true) (o : Bool) : smallK (id, now, next, h, m, b, o) := by
 obtain ⟨g1, g2, g3, g4, g5, g6⟩ := keepB_some hk
 obtain ⟨k1, k2⟩ := keepB_held hk
 exact ⟨by show h.length ≤ 12; omega, g4, by show b.length ≤ 12; omega, fun e he => (ntOk_some (k1 e he).1).2.2.2.2.1.2, fun e he => (ntOk_some (k2 e he)).2.2.2.2.1.2⟩
theorem doV_small (id now next : Int) (h : List (Int × Int × Int × Int × ByteArray)) (m : List (Int × Int × Int)) (b : List (Int × Int × Int × Int × ByteArray)) (s : ByteArray) : smallK (doV id now next h m b s) := by
 unfold doV doK
 cases hk : keepB id now next h m b with
 | false =>
   rw [cond_false]
   exact ⟨Nat.zero_le _, Nat.zero_le _, Nat.zero_le _, fun e he => absurd he (List.not_mem_nil), fun e he => absurd he (List.not_mem_nil)⟩
 | true =>
   rw [cond_true]
   refine recK_ind smallK _ _ _ _ _ _ _ _ _ _ _ _ (fun i n x h' m' b' => ?_) (keepB_small hk false)
   cases hk' : keepB i n x h' m' b' with
   | false => exact keepB_small hk false
   | true => exact keepB_small hk' true
/-- What a keeper is after records, one behind the other. -/
def kofV : Int → Int → Int → List (Int × Int × Int × Int × ByteArray) → List (Int × Int × Int) → List (Int × Int × Int × Int × ByteArray) → List ByteArray → Int × Int × Int × List (Int × Int × Int × Int × ByteArray) × List (Int × Int × Int) × List (Int × Int × Int × Int × ByteArray) × Bool
 | i, n, x, h, m, b, [] => (i, n, x, h, m, b, true)
 | i, n, x, h, m, b, r :: l => cond (doV i n x h m b r).2.2.2.2.2.2 (kofV (doV i n x h m b r).1 (doV i n x h m b r).2.1 (doV i n x h m b r).2.2.1 (doV i n x h m b r).2.2.2.1 (doV i n x h m b r).2.2.2.2.1 (doV i n x h m b r).2.2.2.2.2.1 l) (0, 0, 0, [], [], [], false)
def keepOf (a : Int) (l : List ByteArray) : Int × Int × Int × List (Int × Int × Int × Int × ByteArray) × List (Int × Int × Int) × List (Int × Int × Int × Int × ByteArray) × Bool :=
 cond (inB a 0 3) (kofV a 0 1 [] [] [] l) (0, 0, 0, [], [], [], false)
theorem small0 : smallK (0, 0, 0, [], [], [], false) := ⟨Nat.zero_le _, Nat.zero_le _, Nat.zero_le _, fun e he => absurd he (List.not_mem_nil), fun e he => absurd he (List.not_mem_nil)⟩
theorem small1 (i n x : Int) (o : Bool) : smallK (i, n, x, [], [], [], o) := ⟨Nat.zero_le _, Nat.zero_le _, Nat.zero_le _, fun e he => absurd he (List.not_mem_nil), fun e he => absurd he (List.not_mem_nil)⟩
theorem kofV_small : ∀ (l : List ByteArray) (i n x : Int) (h : List (Int × Int × Int × Int × ByteArray)) (m : List (Int × Int × Int)) (b : List (Int × Int × Int × Int × ByteArray)), smallK (i, n, x, h, m, b, true) → smallK (kofV i n x h m b l)
 | [], i, n, x, h, m, b, hs => hs
 | r :: l, i, n, x, h, m, b, hs => by
   unfold kofV
   exact cond_ind (kofV_small l _ _ _ _ _ _ (doV_small i n x h m b r)) small0
theorem keepOf_small (a : Int) (l : List ByteArray) : smallK (keepOf a l) := cond_ind (kofV_small l _ _ _ _ _ _ (small1 _ _ _ _)) small0
theorem kof_loop {R : Type} (l : List ByteArray) (X : Int → Int → Int → List (Int × Int × Int × Int × ByteArray) → List (Int × Int × Int) → List (Int × Int × Int × Int × ByteArray) → Option R) (Q : Option R)
   (L : Nat → Int → Int → Int → Int → List (Int × Int × Int × Int × ByteArray) → List (Int × Int × Int) → List (Int × Int × Int × Int × ByteArray) → Option R)
   (hs : ∀ (n i : Nat) (i0 i1 i2 : Int) h m b, i < l.length → smallK (i0, i1, i2, h, m, b, true) → L (n + 1) (i : Int) i0 i1 i2 h m b = cond (doV i0 i1 i2 h m b (l.getD i ByteArray.empty)).2.2.2.2.2.2 (L n ((i + 1 : Nat) : Int) (doV i0 i1 i2 h m b (l.getD i ByteArray.empty)).1 (doV i0 i1 i2 h m b (l.getD i ByteArray.empty)).2.1 (doV i0 i1 i2 h m b (l.getD i ByteArray.empty)).2.2.1 (doV i0 i1 i2 h m b (l.getD i ByteArray.empty)).2.2.2.1 (doV i0 i1 i2 h m b (l.getD i ByteArray.empty)).2.2.2.2.1 (doV i0 i1 i2 h m b (l.getD i ByteArray.empty)).2.2.2.2.2.1) Q)
   (he : ∀ n (i0 i1 i2 : Int) h m b, L (n + 1) (l.length : Int) i0 i1 i2 h m b = X i0 i1 i2 h m b) (n : Nat) (hn : l.length < n) (i0 i1 i2 : Int) (h : List (Int × Int × Int × Int × ByteArray)) (m : List (Int × Int × Int)) (b : List (Int × Int × Int × Int × ByteArray)) (hk : smallK (i0, i1, i2, h, m, b, true)) :
   L n ((0 : Nat) : Int) i0 i1 i2 h m b = cond (kofV i0 i1 i2 h m b l).2.2.2.2.2.2 (X (kofV i0 i1 i2 h m b l).1 (kofV i0 i1 i2 h m b l).2.1 (kofV i0 i1 i2 h m b l).2.2.1 (kofV i0 i1 i2 h m b l).2.2.2.1 (kofV i0 i1 i2 h m b l).2.2.2.2.1 (kofV i0 i1 i2 h m b l).2.2.2.2.2.1) Q := by
 have key : ∀ (d i n : Nat) (i0 i1 i2 : Int) (h : List (Int × Int × Int × Int × ByteArray)) (m : List (Int × Int × Int)) (b : List (Int × Int × Int × Int × ByteArray)), i + d = l.length → d < n → smallK (i0, i1, i2, h, m, b, true) →
     L n (i : Int) i0 i1 i2 h m b = cond (kofV i0 i1 i2 h m b (l.drop i)).2.2.2.2.2.2 (X (kofV i0 i1 i2 h m b (l.drop i)).1 (kofV i0 i1 i2 h m b (l.drop i)).2.1 (kofV i0 i1 i2 h m b (l.drop i)).2.2.1 (kofV i0 i1 i2 h m b (l.drop i)).2.2.2.1 (kofV i0 i1 i2 h m b (l.drop i)).2.2.2.2.1 (kofV i0 i1 i2 h m b (l.drop i)).2.2.2.2.2.1) Q := by
   intro d
   induction d with
   | zero =>
     intro i n i0 i1 i2 h m b h1 h2 h3
     obtain ⟨n, rfl⟩ := Nat.exists_eq_succ_of_ne_zero (n := n) (by omega)
     have : i = l.length := by omega
     subst this
     rw [he, List.drop_length]
     rfl
   | succ d ih =>
     intro i n i0 i1 i2 h m b h1 h2 h3
     obtain ⟨n, rfl⟩ := Nat.exists_eq_succ_of_ne_zero (n := n) (by omega)
     rw [hs n i i0 i1 i2 h m b (by omega) h3, List.drop_eq_getElem_cons (show i < l.length by omega), getD_at (show i < l.length by omega)]
     unfold kofV
     have hD := doV_small i0 i1 i2 h m b l[i]
     generalize doV i0 i1 i2 h m b l[i] = D at hD
     cases D.2.2.2.2.2.2 with
     | true => rw [cond_true, cond_true]; exact ih (i + 1) n _ _ _ _ _ _ (by omega) (by omega) hD
     | false => rfl
 have := key l.length 0 n i0 i1 i2 h m b (by omega) hn hk
 rw [List.drop_zero] at this
 exact this
theorem kofV_cons (i n x : Int) (h : List (Int × Int × Int × Int × ByteArray)) (m : List (Int × Int × Int)) (b : List (Int × Int × Int × Int × ByteArray)) (r : ByteArray) (l : List ByteArray) : kofV i n x h m b (r :: l) = cond (doV i n x h m b r).2.2.2.2.2.2 (kofV (doV i n x h m b r).1 (doV i n x h m b r).2.1 (doV i n x h m b r).2.2.1 (doV i n x h m b r).2.2.2.1 (doV i n x h m b r).2.2.2.2.1 (doV i n x h m b r).2.2.2.2.2.1 l) (0, 0, 0, [], [], [], false) := rfl
theorem kofV_append : ∀ (l l' : List ByteArray) (i n x : Int) (h : List (Int × Int × Int × Int × ByteArray)) (m : List (Int × Int × Int)) (b : List (Int × Int × Int × Int × ByteArray)), kofV i n x h m b (l ++ l') = cond (kofV i n x h m b l).2.2.2.2.2.2 (kofV (kofV i n x h m b l).1 (kofV i n x h m b l).2.1 (kofV i n x h m b l).2.2.1 (kofV i n x h m b l).2.2.2.1 (kofV i n x h m b l).2.2.2.2.1 (kofV i n x h m b l).2.2.2.2.2.1 l') (0, 0, 0, [], [], [], false)
 | [], l', i, n, x, h, m, b => rfl
 | r :: l, l', i, n, x, h, m, b => by
   rw [List.cons_append, kofV_cons i n x h m b r (l ++ l'), kofV_cons i n x h m b r l]
   generalize doV i n x h m b r = D
   cases D.2.2.2.2.2.2 with
   | true =>
     simp only [cond_true]
     exact kofV_append l l' _ _ _ _ _ _
   | false => rfl
theorem keepB_start {a : Int} (h : inB a 0 3 = true) : keepB a 0 1 [] [] [] = true := by
 unfold keepB
 rw [h]
 rfl
theorem doV_inv (id now next : Int) (h : List (Int × Int × Int × Int × ByteArray)) (m : List (Int × Int × Int)) (b : List (Int × Int × Int × Int × ByteArray)) (s : ByteArray) : (∃ i n x h' m' b' o, doV id now next h m b s = (i, n, x, h', m', b', o) ∧ keepB i n x h' m' b' = true) ∨ doV id now next h m b s = (0, 0, 0, [], [], [], false) := by
 unfold doV doK
 cases hk : keepB id now next h m b with
 | false => exact .inr (by rw [cond_false])
 | true =>
   left
   rw [cond_true]
   refine recK_ind (fun v => ∃ i n x h' m' b' o, v = (i, n, x, h', m', b', o) ∧ keepB i n x h' m' b' = true) _ _ _ _ _ _ _ _ _ _ _ _ (fun i n x h' m' b' => ?_) ⟨_, _, _, _, _, _, _, rfl, hk⟩
   cases hk' : keepB i n x h' m' b' with
   | false => exact ⟨_, _, _, _, _, _, _, rfl, hk⟩
   | true => exact ⟨_, _, _, _, _, _, _, rfl, hk'⟩
theorem kofV_fail : ∀ (l : List ByteArray) (i n x : Int) (h : List (Int × Int × Int × Int × ByteArray)) (m : List (Int × Int × Int)) (b : List (Int × Int × Int × Int × ByteArray)), (kofV i n x h m b l).2.2.2.2.2.2 = false → kofV i n x h m b l = (0, 0, 0, [], [], [], false)
 | [], i, n, x, h, m, b, hf => by cases hf
 | r :: l, i, n, x, h, m, b, hf => by
   rw [kofV_cons] at hf ⊢
   generalize doV i n x h m b r = D at hf ⊢
   cases hD : D.2.2.2.2.2.2 with
   | true =>
     rw [hD, cond_true] at hf
     rw [cond_true]
     exact kofV_fail l _ _ _ _ _ _ hf
   | false => rfl
/-- A keeper as one is drawn: an ok one, or none. -/
def invK (id now next : Int) (h : List (Int × Int × Int × Int × ByteArray)) (m : List (Int × Int × Int)) (b : List (Int × Int × Int × Int × ByteArray)) : Prop := keepB id now next h m b = true ∨ (id = 0 ∧ now = 0 ∧ next = 0 ∧ h = [] ∧ m = [] ∧ b = [])
theorem invK_some {id now next : Int} {h : List (Int × Int × Int × Int × ByteArray)} {m : List (Int × Int × Int)} {b : List (Int × Int × Int × Int × ByteArray)} (hk : invK id now next h m b) : (0 ≤ now ∧ now ≤ 999) ∧ (h.length ≤ 12 ∧ m.length ≤ 12 ∧ b.length ≤ 12) ∧ 0 ≤ next ∧ (∀ e ∈ h, ntOk e.1 e.2.1 e.2.2.1 e.2.2.2.1 e.2.2.2.2 = true) ∧ (∀ e ∈ b, ntOk e.1 e.2.1 e.2.2.1 e.2.2.2.1 e.2.2.2.2 = true) := by
 rcases hk with hk | ⟨_, rfl, rfl, rfl, rfl, rfl⟩
 · obtain ⟨g1, g2, g3, g4, g5, g6⟩ := keepB_some hk
   obtain ⟨k1, k2⟩ := keepB_held hk
   exact ⟨g1, ⟨by omega, g4, by omega⟩, by omega, fun e he => (k1 e he).1, k2⟩
 · exact ⟨⟨by omega, by omega⟩, ⟨Nat.zero_le _, Nat.zero_le _, Nat.zero_le _⟩, by omega, fun e he => absurd he (List.not_mem_nil), fun e he => absurd he (List.not_mem_nil)⟩
theorem doV_invK (id now next : Int) (h : List (Int × Int × Int × Int × ByteArray)) (m : List (Int × Int × Int)) (b : List (Int × Int × Int × Int × ByteArray)) (s : ByteArray) : invK (doV id now next h m b s).1 (doV id now next h m b s).2.1 (doV id now next h m b s).2.2.1 (doV id now next h m b s).2.2.2.1 (doV id now next h m b s).2.2.2.2.1 (doV id now next h m b s).2.2.2.2.2.1 := by
 rcases doV_inv id now next h m b s with ⟨i, n, x, h', m', b', o, e, hk⟩ | e
 · rw [e]; exact .inl hk
 · rw [e]; exact .inr ⟨rfl, rfl, rfl, rfl, rfl, rfl⟩
end Go.Ev
