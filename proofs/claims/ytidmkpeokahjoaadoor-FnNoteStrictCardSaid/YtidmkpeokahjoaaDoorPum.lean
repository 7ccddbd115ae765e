/- More words for mixed blocks: plain facts, with no Go in sight. No condition beyond those that stand in each. -/
import Derived.Test.YtidmkpeokahjoaaDoorPur
namespace Go.Ev
set_option linter.unusedVariables false
set_option linter.unusedSimpArgs false
theorem getD_xr {a b : ByteArray} (ha : a.size = 4) (hb : b.size = 4) (i : Nat) : (tx (xr a b)).getD i 0 = (tx a).getD i 0 ^^^ (tx b).getD i 0 := by
  obtain ⟨a0, a1, a2, a3, rfl⟩ := four ha
  obtain ⟨b0, b1, b2, b3, rfl⟩ := four hb
  simp only [tx_xr, tx_ba, List.zipWith_cons_cons, List.zipWith_nil_left]
  match i with
  | 0 => rfl
  | 1 => rfl
  | 2 => rfl
  | 3 => rfl
  | i + 4 => simp
/-- One byte of all of these. -/
def bx (bs : List ByteArray) (i : Nat) : List Int → UInt8
  | [] => 0
  | k :: l => (tx (bs.getD k.toNat ByteArray.empty)).getD i 0 ^^^ bx bs i l
theorem xrAll_byte {bs : List ByteArray} (h : ∀ b ∈ bs, b.size = 4) (i : Nat) : ∀ (l : List Int) (y : ByteArray), y.size = 4 → (∀ k ∈ l, 0 ≤ k ∧ k < (bs.length : Int)) → (tx (xrAll bs y l)).getD i 0 = (tx y).getD i 0 ^^^ bx bs i l
  | [], y, _, _ => by simp [xrAll, bx]
  | k :: l, y, hy, hl => by
    have hk := getD_four h (hl k (by simp)).1 (hl k (by simp)).2
    show (tx (xrAll bs (xr y (bs.getD k.toNat ByteArray.empty)) l)).getD i 0 = _
    rw [xrAll_byte h i l _ (xr_four hy hk) (fun z hz => hl z (by simp [hz])), getD_xr hy hk, UInt8.xor_assoc]
    rfl
theorem xrAll_congr {bs cs : List ByteArray} : ∀ (l : List Int) (y : ByteArray), (∀ k ∈ l, bs.getD k.toNat ByteArray.empty = cs.getD k.toNat ByteArray.empty) → xrAll bs y l = xrAll cs y l
  | [], y, _ => rfl
  | k :: l, y, h => by
    show xrAll bs (xr y (bs.getD k.toNat ByteArray.empty)) l = xrAll cs (xr y (cs.getD k.toNat ByteArray.empty)) l
    rw [h k (by simp)]
    exact xrAll_congr l _ fun z hz => h z (by simp [hz])
theorem mixD_congr {bs cs : List ByteArray} {l : List Int} (h : ∀ k ∈ l, bs.getD k.toNat ByteArray.empty = cs.getD k.toNat ByteArray.empty) : mixD bs l = mixD cs l := by
  cases l with
  | nil => rfl
  | cons k l =>
    show xrAll bs (bs.getD k.toNat ByteArray.empty) l = xrAll cs (cs.getD k.toNat ByteArray.empty) l
    rw [h k (by simp)]
    exact xrAll_congr l _ fun z hz => h z (by simp [hz])
theorem bx_same {bs cs : List ByteArray} (i : Nat) : ∀ (l : List Int), (∀ k ∈ l, (tx (bs.getD k.toNat ByteArray.empty)).getD i 0 = (tx (cs.getD k.toNat ByteArray.empty)).getD i 0) → bx bs i l = bx cs i l
  | [], _ => rfl
  | k :: l, h => by
    unfold bx
    rw [h k (by simp), bx_same i l fun z hz => h z (by simp [hz])]
theorem bx_one {bs cs : List ByteArray} (i : Nat) (q : Int) (c : UInt8) (hq : (tx (cs.getD q.toNat ByteArray.empty)).getD i 0 = (tx (bs.getD q.toNat ByteArray.empty)).getD i 0 ^^^ c) (ho : ∀ k : Int, 0 ≤ k → k ≠ q → cs.getD k.toNat ByteArray.empty = bs.getD k.toNat ByteArray.empty) :
    ∀ (l : List Int), l.Nodup → (∀ k ∈ l, 0 ≤ k) → q ∈ l → bx cs i l = bx bs i l ^^^ c
  | [], _, _, h => by cases h
  | k :: l, hn, h0, h => by
    rw [List.nodup_cons] at hn
    unfold bx
    by_cases hk : k = q
    · subst hk
      rw [hq, bx_same (bs := cs) (cs := bs) i l fun z hz => by rw [ho z (h0 z (by simp [hz])) (fun e => by subst e; exact hn.1 hz)]]
      rw [UInt8.xor_assoc, UInt8.xor_comm c, ← UInt8.xor_assoc]
    · have hl : q ∈ l := by
        rcases List.mem_cons.1 h with e | e
        · exact absurd e.symm hk
        · exact e
      rw [ho k (h0 k (by simp)) hk, bx_one i q c hq ho l hn.2 (fun z hz => h0 z (by simp [hz])) hl, UInt8.xor_assoc]
theorem xor_ne {a c : UInt8} (h : c ≠ 0) : a ^^^ c ≠ a := by
  intro e
  apply h
  have : a ^^^ (a ^^^ c) = a ^^^ a := by rw [e]
  rw [← UInt8.xor_assoc, UInt8.xor_self, UInt8.zero_xor] at this
  exact this
/-! ### peeling -/
theorem getD_set' {α : Type} (l : List α) (i j : Nat) (x d : α) (h : i < l.length) : (l.set i x).getD j d = if i = j then x else l.getD j d := by
  rw [List.getD_eq_getElem?_getD, List.getElem?_set, List.getD_eq_getElem?_getD]
  by_cases e : i = j
  · rw [if_pos e, if_pos h, if_pos e]; rfl
  · rw [if_neg e, if_neg e]
theorem xrAll_four' {bs : List ByteArray} : ∀ (l : List Int) (x : ByteArray), x.size = 4 → (∀ k ∈ l, (bs.getD k.toNat ByteArray.empty).size = 4) → (xrAll bs x l).size = 4
  | [], x, hx, _ => hx
  | k :: l, x, hx, hl => xrAll_four' l _ (xr_four hx (hl k (by simp))) (fun y hy => hl y (by simp [hy]))
theorem xrAll_out' {bs : List ByteArray} : ∀ (l : List Int) (x : ByteArray), x.size = 4 → (∀ k ∈ l, (bs.getD k.toNat ByteArray.empty).size = 4) → xrAll bs x l = xr x (xrAll bs zero4 l)
  | [], x, hx, _ => by
    show x = xr x zero4
    rw [xr_comm, xr_zero hx]
  | k :: l, x, hx, hl => by
    have hk := hl k (by simp)
    have hl' : ∀ y ∈ l, (bs.getD y.toNat ByteArray.empty).size = 4 := fun y hy => hl y (by simp [hy])
    show xrAll bs (xr x (bs.getD k.toNat ByteArray.empty)) l = xr x (xrAll bs (xr zero4 (bs.getD k.toNat ByteArray.empty)) l)
    rw [xrAll_out' l _ (xr_four hx hk) hl', xr_zero hk, xrAll_out' l (bs.getD k.toNat ByteArray.empty) hk hl', xr_assoc hx hk (xrAll_four' l zero4 rfl hl')]
/-- Two parts of a list. -/
theorem xrAll_part {bs : List ByteArray} (p : Int → Bool) : ∀ (l : List Int), (∀ k ∈ l, (bs.getD k.toNat ByteArray.empty).size = 4) → xrAll bs zero4 l = xr (xrAll bs zero4 (l.filter fun k => !p k)) (xrAll bs zero4 (l.filter p))
  | [], _ => (xr_zero (a := zero4) rfl).symm
  | k :: l, h => by
    have hk := h k (by simp)
    have hl : ∀ y ∈ l, (bs.getD y.toNat ByteArray.empty).size = 4 := fun y hy => h y (by simp [hy])
    have hf : ∀ q : Int → Bool, ∀ y ∈ l.filter q, (bs.getD y.toNat ByteArray.empty).size = 4 := fun q y hy => hl y (List.mem_filter.1 hy).1
    have z4 : ∀ q : Int → Bool, (xrAll bs zero4 (l.filter q)).size = 4 := fun q => xrAll_four' _ zero4 rfl (hf q)
    have e1 : xrAll bs zero4 (k :: l) = xr (bs.getD k.toNat ByteArray.empty) (xrAll bs zero4 l) := by
      show xrAll bs (xr zero4 _) l = _
      rw [xr_zero hk, xrAll_out' l _ hk hl]
    have e2 : ∀ q : Int → Bool, xrAll bs zero4 (k :: l.filter q) = xr (bs.getD k.toNat ByteArray.empty) (xrAll bs zero4 (l.filter q)) := by
      intro q
      show xrAll bs (xr zero4 _) _ = _
      rw [xr_zero hk, xrAll_out' _ _ hk (hf q)]
    rw [e1, xrAll_part p l hl]
    cases hp : p k with
    | true =>
      rw [List.filter_cons_of_neg (by simp [hp]), List.filter_cons_of_pos hp, e2, ← xr_assoc hk (z4 _) (z4 _), xr_comm (a := bs.getD k.toNat ByteArray.empty), xr_assoc (z4 _) hk (z4 _)]
    | false =>
      rw [List.filter_cons_of_pos (by simp [hp]), List.filter_cons_of_neg (by simp [hp]), e2, xr_assoc hk (z4 _) (z4 _)]
def isUn (kn : List ByteArray) (k : Int) : Bool := decide (kn.getD k.toNat ByteArray.empty = ByteArray.mk #[])
def unk (kn : List ByteArray) (l : List Int) : List Int := l.filter (isUn kn)
def resL (kn : List ByteArray) (x : ByteArray) (l : List Int) : ByteArray := xrAll kn x (l.filter fun k => !isUn kn k)
def inR (m : Int × ByteArray) : Bool := inB m.1 0 999 && decide ((m.2.size : Int) = 4)
theorem inR_iff {m : Int × ByteArray} : inR m = true ↔ (0 ≤ m.1 ∧ m.1 ≤ 999) ∧ m.2.size = 4 := by
  unfold inR
  rw [Bool.and_eq_true, inB_iff, decide_eq_true_eq]
  omega
def fire (of : Int → List Int) (s : Bool × List ByteArray) (m : Int × ByteArray) : List Int → Bool × List ByteArray
  | [u] => (true, s.2.set u.toNat (resL s.2 m.2 (of m.1)))
  | _ => s
/-- One mixed block. -/
def stepP (of : Int → List Int) (s : Bool × List ByteArray) (m : Int × ByteArray) : Bool × List ByteArray := cond (inR m) (fire of s m (unk s.2 (of m.1))) s
def passP (of : Int → List Int) (l : List (Int × ByteArray)) (s : Bool × List ByteArray) : Bool × List ByteArray := l.foldl (stepP of) s
def peelN (of : Int → List Int) (l : List (Int × ByteArray)) : Nat → List ByteArray → List ByteArray
  | 0, kn => kn
  | n + 1, kn => cond (passP of l (false, kn)).1 (peelN of l n (passP of l (false, kn)).2) (passP of l (false, kn)).2
def KnOk (b : Nat) (kn : List ByteArray) : Prop := kn.length = b ∧ ∀ x ∈ kn, x = ByteArray.mk #[] ∨ x.size = 4
def OfOk (b : Nat) (of : Int → List Int) : Prop := ∀ n, (∀ k ∈ of n, 0 ≤ k ∧ k < (b : Int)) ∧ (of n).Nodup ∧ (of n).length ≤ 6
def cntU (kn : List ByteArray) : Nat := (kn.filter fun x => decide (x = ByteArray.mk #[])).length
theorem cntU_set : ∀ (kn : List ByteArray) (i : Nat) (x : ByteArray), i < kn.length → kn.getD i ByteArray.empty = ByteArray.mk #[] → x ≠ ByteArray.mk #[] → cntU (kn.set i x) + 1 = cntU kn
  | [], i, x, h, _, _ => by simp at h
  | y :: kn, 0, x, h, hy, hx => by
    simp only [List.getD_cons_zero] at hy
    subst hy
    unfold cntU
    rw [List.set_cons_zero, List.filter_cons_of_neg (by simpa using hx), List.filter_cons_of_pos (by simp)]
    rfl
  | y :: kn, i + 1, x, h, hy, hx => by
    have := cntU_set kn i x (by simpa using h) (by simpa using hy) hx
    unfold cntU at this ⊢
    rw [List.set_cons_succ]
    by_cases e : y = ByteArray.mk #[]
    · rw [List.filter_cons_of_pos (by simpa using e), List.filter_cons_of_pos (by simpa using e)]
      simp only [List.length_cons]
      omega
    · rw [List.filter_cons_of_neg (by simpa using e), List.filter_cons_of_neg (by simpa using e)]
      exact this
theorem cntU_le (kn : List ByteArray) : cntU kn ≤ kn.length := List.length_filter_le _ _
theorem KnOk.get {b : Nat} {kn : List ByteArray} (h : KnOk b kn) {k : Int} (h0 : 0 ≤ k) (h1 : k < (b : Int)) (hu : isUn kn k = false) : (kn.getD k.toNat ByteArray.empty).size = 4 := by
  have hl : k.toNat < kn.length := by rw [h.1]; omega
  have hm : kn.getD k.toNat ByteArray.empty ∈ kn := by rw [getD_at hl]; exact List.getElem_mem hl
  rcases h.2 _ hm with e | e
  · unfold isUn at hu
    rw [e] at hu
    simp at hu
  · exact e
section
variable {b : Nat} {of : Int → List Int}
theorem res_four (ho : OfOk b of) {kn : List ByteArray} (hk : KnOk b kn) (n : Int) {x : ByteArray} (hx : x.size = 4) : (resL kn x (of n)).size = 4 :=
  xrAll_four' _ x hx fun k hm => by
    obtain ⟨h1, h2⟩ := List.mem_filter.1 hm
    exact hk.get ((ho n).1 k h1).1 ((ho n).1 k h1).2 (by simpa using h2)
theorem unk_mem {kn : List ByteArray} {l : List Int} {u : Int} (h : u ∈ unk kn l) : u ∈ l ∧ isUn kn u = true := List.mem_filter.1 h
/-- A step either leaves all as it was, or finds one. -/
theorem step_cases (s : Bool × List ByteArray) (m : Int × ByteArray) : stepP of s m = s ∧ (inR m = true → ∀ u, unk s.2 (of m.1) ≠ [u]) ∨ ∃ u, inR m = true ∧ unk s.2 (of m.1) = [u] ∧ stepP of s m = (true, s.2.set u.toNat (resL s.2 m.2 (of m.1))) := by
  unfold stepP
  cases hr : inR m with
  | false => exact .inl ⟨rfl, fun h => by cases h⟩
  | true =>
    match hu : unk s.2 (of m.1) with
    | [] => exact .inl ⟨rfl, fun _ u e => by cases e⟩
    | [u] => exact .inr ⟨u, rfl, rfl, rfl⟩
    | u :: v :: l => exact .inl ⟨rfl, fun _ u e => by cases e⟩
theorem step_ok (ho : OfOk b of) {s : Bool × List ByteArray} (hk : KnOk b s.2) (m : Int × ByteArray) : KnOk b (stepP of s m).2 ∧ (stepP of s m = s ∨ (stepP of s m).1 = true ∧ cntU (stepP of s m).2 + 1 = cntU s.2) := by
  rcases step_cases (of := of) s m with ⟨e, _⟩ | ⟨u, hr, hu, e⟩
  · rw [e]; exact ⟨hk, .inl rfl⟩
  · obtain ⟨h1, h2⟩ := unk_mem (show u ∈ unk s.2 (of m.1) by rw [hu]; simp)
    obtain ⟨u0, u1⟩ := (ho m.1).1 u h1
    have hx := res_four ho hk m.1 (inR_iff.1 hr).2
    rw [e]
    refine ⟨⟨by rw [List.length_set]; exact hk.1, fun y hy => ?_⟩, .inr ⟨rfl, cntU_set s.2 u.toNat _ (by rw [hk.1]; omega) (by simpa [isUn] using h2) (fun e => by rw [e] at hx; cases hx)⟩⟩
    rcases List.mem_or_eq_of_mem_set hy with h | h
    · exact hk.2 y h
    · rw [h]; exact .inr hx
theorem pass_ok (ho : OfOk b of) : ∀ (l : List (Int × ByteArray)) (s : Bool × List ByteArray), KnOk b s.2 → KnOk b (passP of l s).2 ∧ (passP of l s = s ∨ (passP of l s).1 = true ∧ cntU (passP of l s).2 < cntU s.2)
  | [], s, h => ⟨h, .inl rfl⟩
  | m :: l, s, h => by
    obtain ⟨h1, h2⟩ := step_ok ho h m
    obtain ⟨h3, h4⟩ := pass_ok ho l (stepP of s m) h1
    refine ⟨h3, ?_⟩
    show passP of l (stepP of s m) = s ∨ (passP of l (stepP of s m)).1 = true ∧ cntU (passP of l (stepP of s m)).2 < cntU s.2
    rcases h2 with h2 | ⟨h2, h2'⟩
    · rw [h2] at h4 ⊢; exact h4
    · right
      rcases h4 with h4 | ⟨h4, h4'⟩
      · rw [h4]; exact ⟨h2, by omega⟩
      · exact ⟨h4, by omega⟩
/-- Nothing more is found with this. -/
def ClosedP (of : Int → List Int) (l : List (Int × ByteArray)) (kn : List ByteArray) : Prop := ∀ m ∈ l, inR m = true → ∀ u, unk kn (of m.1) ≠ [u]
theorem pass_true : ∀ (l : List (Int × ByteArray)) (s : Bool × List ByteArray), s.1 = true → (passP of l s).1 = true
  | [], s, h => h
  | m :: l, s, h => by
    refine pass_true l (stepP of s m) ?_
    rcases step_cases (of := of) s m with ⟨e, _⟩ | ⟨u, _, _, e⟩
    · rw [e]; exact h
    · rw [e]
theorem pass_still : ∀ (l : List (Int × ByteArray)) (kn : List ByteArray), (passP of l (false, kn)).1 = false → (passP of l (false, kn)).2 = kn ∧ ClosedP of l kn
  | [], kn, _ => ⟨rfl, fun m hm => by cases hm⟩
  | m :: l, kn, h => by
    rcases step_cases (of := of) (false, kn) m with ⟨e, hc⟩ | ⟨u, _, _, e⟩
    · have e' : passP of (m :: l) (false, kn) = passP of l (false, kn) := by show passP of l (stepP of (false, kn) m) = _; rw [e]
      rw [e'] at h ⊢
      obtain ⟨h1, h2⟩ := pass_still l kn h
      refine ⟨h1, fun x hx => ?_⟩
      rcases List.mem_cons.1 hx with rfl | hx
      · exact hc
      · exact h2 x hx
    · have : (passP of (m :: l) (false, kn)).1 = true := by
        show (passP of l (stepP of (false, kn) m)).1 = true
        rw [e]
        exact pass_true l _ rfl
      rw [this] at h
      cases h
theorem peel_ok (ho : OfOk b of) (l : List (Int × ByteArray)) : ∀ (f : Nat) (kn : List ByteArray), cntU kn < f → KnOk b kn → KnOk b (peelN of l f kn) ∧ ClosedP of l (peelN of l f kn)
  | 0, kn, h, _ => by omega
  | f + 1, kn, h, hk => by
    obtain ⟨h1, h2⟩ := pass_ok ho l (false, kn) hk
    unfold peelN
    cases hp : (passP of l (false, kn)).1 with
    | false =>
      obtain ⟨e, hc⟩ := pass_still l kn hp
      rw [cond_false, e]
      exact ⟨hk, hc⟩
    | true =>
      rw [cond_true]
      refine peel_ok ho l f _ ?_ h1
      rcases h2 with h2 | ⟨_, h2⟩
      · rw [h2] at hp; cases hp
      · have : cntU (passP of l (false, kn)).2 < cntU kn := h2
        omega
/-- What is known here is known there. -/
def Sub (kn c : List ByteArray) : Prop := ∀ k : Int, isUn c k = true → isUn kn k = true
theorem step_sub (ho : OfOk b of) {l : List (Int × ByteArray)} {c : List ByteArray} (hc : ClosedP of l c) {s : Bool × List ByteArray} (hk : KnOk b s.2) (hs : Sub s.2 c) {m : Int × ByteArray} (hm : m ∈ l) : Sub (stepP of s m).2 c := by
  rcases step_cases (of := of) s m with ⟨e, _⟩ | ⟨u, hr, hu, e⟩
  · rw [e]; exact hs
  · rw [e]
    obtain ⟨h1, h2⟩ := unk_mem (show u ∈ unk s.2 (of m.1) by rw [hu]; simp)
    obtain ⟨u0, u1⟩ := (ho m.1).1 u h1
    intro k hkc
    unfold isUn
    rw [getD_set' _ _ _ _ _ (by rw [hk.1]; omega)]
    by_cases hku : u.toNat = k.toNat
    · exfalso
      have hun : isUn c u = true := by unfold isUn at hkc ⊢; rw [hku]; exact hkc
      -- then 'u' alone is unknown there
      have hsub : unk c (of m.1) = [u] := by
        have hall : ∀ v ∈ of m.1, isUn c v = true → v = u := by
          intro v hv hvc
          have : v ∈ unk s.2 (of m.1) := List.mem_filter.2 ⟨hv, hs v hvc⟩
          rw [hu] at this
          simpa using this
        have hnd := (ho m.1).2.1
        revert h1 hall hnd
        generalize of m.1 = o
        intro h1 hall hnd
        induction o with
        | nil => cases h1
        | cons v o ih =>
          rw [List.nodup_cons] at hnd
          by_cases hv : v = u
          · subst hv
            unfold unk
            rw [List.filter_cons_of_pos hun]
            have : o.filter (isUn c) = [] := by
              rw [List.filter_eq_nil_iff]
              intro w hw hwc
              have := hall w (by simp [hw]) hwc
              subst this
              exact hnd.1 hw
            rw [this]
          · have hvc : isUn c v = false := by
              cases e : isUn c v with
              | false => rfl
              | true => exact absurd (hall v (by simp) e) hv
            unfold unk
            rw [List.filter_cons_of_neg (by rw [hvc]; simp)]
            refine ih ?_ (fun w hw => hall w (by simp [hw])) hnd.2
            rcases List.mem_cons.1 h1 with e | e
            · exact absurd e.symm hv
            · exact e
      exact hc m hm hr u hsub
    · rw [if_neg hku]
      exact hs k hkc
theorem pass_sub (ho : OfOk b of) {l : List (Int × ByteArray)} {c : List ByteArray} (hc : ClosedP of l c) : ∀ (l' : List (Int × ByteArray)) (s : Bool × List ByteArray), (∀ m ∈ l', m ∈ l) → KnOk b s.2 → Sub s.2 c → Sub (passP of l' s).2 c
  | [], s, _, _, h => h
  | m :: l', s, hm, hk, h => pass_sub ho hc l' (stepP of s m) (fun x hx => hm x (by simp [hx])) (step_ok ho hk m).1 (step_sub ho hc hk h (hm m (by simp)))
theorem peel_sub (ho : OfOk b of) {l l' : List (Int × ByteArray)} {c : List ByteArray} (hc : ClosedP of l c) (hm : ∀ m ∈ l', m ∈ l) : ∀ (f : Nat) (kn : List ByteArray), KnOk b kn → Sub kn c → Sub (peelN of l' f kn) c
  | 0, kn, _, h => h
  | f + 1, kn, hk, h => by
    unfold peelN
    cases (passP of l' (false, kn)).1 with
    | false => rw [cond_false]; exact pass_sub ho hc l' (false, kn) hm hk h
    | true => rw [cond_true]; exact peel_sub ho hc hm f _ (pass_ok ho l' (false, kn) hk).1 (pass_sub ho hc l' (false, kn) hm hk h)
/-- What is known is right. -/
def Rght (bs kn : List ByteArray) : Prop := kn.length = bs.length ∧ ∀ k : Int, isUn kn k = false → kn.getD k.toNat ByteArray.empty = bs.getD k.toNat ByteArray.empty
theorem step_cons {bs : List ByteArray} (hb : bs.length = b) (h4 : ∀ x ∈ bs, x.size = 4) (ho : OfOk b of) {s : Bool × List ByteArray} (hk : KnOk b s.2) (hc : Rght bs s.2) {m : Int × ByteArray} (hm : inR m = true → m.2 = mixD bs (of m.1)) : Rght bs (stepP of s m).2 := by
  rcases step_cases (of := of) s m with ⟨e, _⟩ | ⟨u, hr, hu, e⟩
  · rw [e]; exact hc
  · rw [e]
    obtain ⟨h1, h2⟩ := unk_mem (show u ∈ unk s.2 (of m.1) by rw [hu]; simp)
    obtain ⟨u0, u1⟩ := (ho m.1).1 u h1
    have hin : ∀ k ∈ of m.1, 0 ≤ k ∧ k < (bs.length : Int) := fun k hk => by rw [hb]; exact (ho m.1).1 k hk
    have g4 : ∀ k ∈ of m.1, (bs.getD k.toNat ByteArray.empty).size = 4 := fun k hk => getD_four h4 (hin k hk).1 (hin k hk).2
    have hu4 := g4 u h1
    have hne : of m.1 ≠ [] := fun e => by rw [e] at h1; cases h1
    have hval : resL s.2 m.2 (of m.1) = bs.getD u.toNat ByteArray.empty := by
      have hg4 : ∀ q : Int → Bool, ∀ y ∈ (of m.1).filter q, (bs.getD y.toNat ByteArray.empty).size = 4 := fun q y hy => g4 y (List.mem_filter.1 hy).1
      unfold resL
      rw [xrAll_congr (cs := bs) _ _ (fun k hk => hc.2 k (by simpa using (List.mem_filter.1 hk).2)), hm hr, mixD_eq h4 hne hin]
      have hpart := xrAll_part (bs := bs) (isUn s.2) (of m.1) g4
      have hA : (xrAll bs zero4 ((of m.1).filter fun k => !isUn s.2 k)).size = 4 := xrAll_four' _ zero4 rfl (hg4 _)
      have hU : xrAll bs zero4 ((of m.1).filter (isUn s.2)) = bs.getD u.toNat ByteArray.empty := by
        have : (of m.1).filter (isUn s.2) = [u] := hu
        rw [this]
        show xr zero4 _ = _
        exact xr_zero hu4
      rw [hU] at hpart
      rw [xrAll_out' _ _ (by rw [hpart]; exact xr_four hA hu4) (hg4 _), hpart, xr_assoc hA hu4 hA, xr_comm (a := bs.getD u.toNat ByteArray.empty), ← xr_assoc hA hA hu4, xr_self hA, xr_zero hu4]
    refine ⟨by rw [List.length_set]; exact hc.1, fun k hkn => ?_⟩
    unfold isUn at hkn
    rw [getD_set' _ _ _ _ _ (by rw [hk.1]; omega)] at hkn ⊢
    by_cases hku : u.toNat = k.toNat
    · rw [if_pos hku, hval, hku]
    · rw [if_neg hku] at hkn ⊢
      exact hc.2 k hkn
theorem pass_cons {bs : List ByteArray} (hb : bs.length = b) (h4 : ∀ x ∈ bs, x.size = 4) (ho : OfOk b of) : ∀ (l : List (Int × ByteArray)) (s : Bool × List ByteArray), KnOk b s.2 → Rght bs s.2 → (∀ m ∈ l, inR m = true → m.2 = mixD bs (of m.1)) → Rght bs (passP of l s).2
  | [], s, _, h, _ => h
  | m :: l, s, hk, h, hm => pass_cons hb h4 ho l (stepP of s m) (step_ok ho hk m).1 (step_cons hb h4 ho hk h (hm m (by simp))) fun x hx => hm x (by simp [hx])
theorem peel_cons {bs : List ByteArray} (hb : bs.length = b) (h4 : ∀ x ∈ bs, x.size = 4) (ho : OfOk b of) {l : List (Int × ByteArray)} (hm : ∀ m ∈ l, inR m = true → m.2 = mixD bs (of m.1)) : ∀ (f : Nat) (kn : List ByteArray), KnOk b kn → Rght bs kn → Rght bs (peelN of l f kn)
  | 0, kn, _, h => h
  | f + 1, kn, hk, h => by
    unfold peelN
    cases (passP of l (false, kn)).1 with
    | false => rw [cond_false]; exact pass_cons hb h4 ho l (false, kn) hk h hm
    | true => rw [cond_true]; exact peel_cons hb h4 ho hm f _ (pass_ok ho l (false, kn) hk).1 (pass_cons hb h4 ho l (false, kn) hk h hm)
end
theorem isUn_out {kn : List ByteArray} {k : Int} (h : kn.length ≤ k.toNat) : isUn kn k = true := by
  unfold isUn
  rw [List.getD_eq_getElem?_getD, List.getElem?_eq_none h]
  rfl
theorem cons_eq {bs x y : List ByteArray} (hx : Rght bs x) (hy : Rght bs y) (h1 : Sub x y) (h2 : Sub y x) : x = y := by
  apply List.ext_getElem (hx.1.trans hy.1.symm)
  intro i i1 i2
  have ex : x[i] = x.getD (i : Int).toNat ByteArray.empty := by rw [Int.toNat_natCast, getD_at i1]
  have ey : y[i] = y.getD (i : Int).toNat ByteArray.empty := by rw [Int.toNat_natCast, getD_at i2]
  rw [ex, ey]
  cases hu : isUn x (i : Int) with
  | true =>
    have hv := h2 _ hu
    have a1 : x.getD (i : Int).toNat ByteArray.empty = ByteArray.mk #[] := by simpa [isUn] using hu
    have a2 : y.getD (i : Int).toNat ByteArray.empty = ByteArray.mk #[] := by simpa [isUn] using hv
    rw [a1, a2]
  | false =>
    have hv : isUn y (i : Int) = false := by
      cases e : isUn y (i : Int) with
      | false => rfl
      | true => have := h1 _ e; rw [this] at hu; cases hu
    rw [hx.2 _ hu, hy.2 _ hv]
theorem cons_all {bs x : List ByteArray} (hx : Rght bs x) (h : ∀ i : Nat, i < bs.length → isUn x (i : Int) = false) : x = bs := by
  apply List.ext_getElem hx.1
  intro i i1 i2
  have ex : x[i] = x.getD (i : Int).toNat ByteArray.empty := by rw [Int.toNat_natCast, getD_at i1]
  have eb : bs[i] = bs.getD (i : Int).toNat ByteArray.empty := by rw [Int.toNat_natCast, getD_at i2]
  rw [ex, eb]
  exact hx.2 _ (h i i2)
/-- At the beginning nothing is known. -/
def kn0 (b : Nat) : List ByteArray := List.replicate b ByteArray.empty
theorem kn0_un (b : Nat) (k : Int) : isUn (kn0 b) k = true := by
  unfold isUn kn0
  rw [List.getD_eq_getElem?_getD, List.getElem?_replicate]
  split <;> rfl
theorem kn0_ok (b : Nat) : KnOk b (kn0 b) := ⟨by simp [kn0], fun x hx => .inl (by simp [kn0] at hx; rw [hx.2]; rfl)⟩
theorem kn0_cons (bs : List ByteArray) : Rght bs (kn0 bs.length) := ⟨by simp [kn0], fun k h => by rw [kn0_un] at h; cases h⟩
theorem kn0_sub (b : Nat) (c : List ByteArray) : Sub (kn0 b) c := fun k _ => kn0_un b k
theorem kn0_cnt (b : Nat) : cntU (kn0 b) ≤ b := by
  have := cntU_le (kn0 b)
  simpa [kn0] using this
/-! ### the text of the blocks -/
def lastI (u : Int) : List Int → Int
  | [] => u
  | k :: l => lastI k l
def joinA (acc : ByteArray) : List ByteArray → ByteArray
  | [] => acc
  | b :: l => joinA (acc ++ b) l
theorem joinA_snoc (b : ByteArray) : ∀ (l : List ByteArray) (acc : ByteArray), joinA acc (l ++ [b]) = joinA acc l ++ b
  | [], _ => rfl
  | c :: l, acc => joinA_snoc b l (acc ++ c)
theorem joinA_size {l : List ByteArray} : ∀ (acc : ByteArray), (∀ b ∈ l, b.size = 4) → (joinA acc l).size = acc.size + 4 * l.length := by
  induction l with
  | nil => intro acc _; rfl
  | cons c l ih =>
    intro acc h
    have := ih (acc ++ c) (fun b hb => h b (by simp [hb]))
    show (joinA (acc ++ c) l).size = _
    rw [this, sz_append, h c (by simp)]
    simp only [List.length_cons]
    omega
def hasU (kn : List ByteArray) : Bool := kn.any fun x => decide (x = ByteArray.mk #[])
def zeroFrom (s : ByteArray) (i : Nat) : Bool := ((tx s).drop i).all fun c => decide (c = 0)
def mixX (n : Nat) (kn : List ByteArray) : ByteArray × Bool := cond (hasU kn) (ByteArray.mk #[], false) (cond (zeroFrom (joinA (ByteArray.mk #[]) kn) n) ((joinA (ByteArray.mk #[]) kn).extract 0 n, true) (ByteArray.mk #[], false))
/-- The first n blocks of a text, one behind the other. -/
def joinTo (t : ByteArray) (n : Nat) : ByteArray := ba ((List.range (4 * n)).map fun j => (tx t).getD j 0)
theorem joinTo_succ (t : ByteArray) (n : Nat) : joinTo t n ++ ba (blk t n) = joinTo t (n + 1) := by
  apply tx_inj
  rw [tx_append, joinTo, joinTo, tx_ba, tx_ba, tx_ba, show 4 * (n + 1) = 4 * n + 1 + 1 + 1 + 1 by omega, List.range_succ, List.range_succ, List.range_succ, List.range_succ]
  simp only [blk, List.map_append, List.map_cons, List.map_nil, List.append_assoc]
  rfl
theorem joinA_blks (t : ByteArray) : ∀ n, joinA (ByteArray.mk #[]) (blksTo t n) = joinTo t n
  | 0 => rfl
  | n + 1 => by rw [blksTo_succ, joinA_snoc, joinA_blks t n, joinTo_succ]
theorem joinTo_take (t : ByteArray) (n : Nat) (h : t.size ≤ 4 * n) : (joinTo t n).extract 0 t.size = t := by
  apply tx_inj
  rw [tx_extract0, joinTo, tx_ba]
  apply List.ext_getElem?
  intro j
  rw [List.getElem?_take]
  rcases Nat.lt_or_ge j t.size with hj | hj
  · rw [if_pos hj, List.getElem?_map, List.getElem?_range (by omega)]
    have : j < (tx t).length := by rw [tx_length]; exact hj
    simp [List.getD_eq_getElem?_getD, List.getElem?_eq_getElem this]
  · rw [if_neg (by omega), List.getElem?_eq_none (by rw [tx_length]; exact hj)]
theorem joinTo_zero (t : ByteArray) (n : Nat) : zeroFrom (joinTo t n) t.size = true := by
  unfold zeroFrom
  rw [List.all_eq_true]
  intro c hc
  obtain ⟨i, hi, rfl⟩ := List.mem_iff_getElem.1 hc
  have hi2 : i < (tx (joinTo t n)).length - t.size := by simpa using hi
  rw [List.getElem_drop, decide_eq_true_eq]
  have hlen : (tx (joinTo t n)).length = 4 * n := by rw [joinTo, tx_ba]; simp
  have : (tx (joinTo t n))[t.size + i]'(by omega) = (tx t).getD (t.size + i) 0 := by
    simp [joinTo, tx_ba]
  rw [this, List.getD_eq_getElem?_getD, List.getElem?_eq_none (by rw [tx_length]; omega)]
  rfl
theorem mixX_blks {t : ByteArray} (h : 1 ≤ t.size ∧ t.size ≤ 24) : mixX t.size (blks t) = (t, true) := by
  have hu : hasU (blks t) = false := by
    unfold hasU
    rw [List.any_eq_false]
    intro b hb
    have := blks_four t b hb
    rw [decide_eq_true_eq]
    intro e
    rw [e] at this
    cases this
  unfold mixX
  rw [hu, cond_false, blks_in h, joinA_blks, joinTo_zero, cond_true, joinTo_take t _ (by unfold blkN; omega)]
theorem hasU_not {kn : List ByteArray} (h : hasU kn = false) : ∀ i : Nat, i < kn.length → isUn kn (i : Int) = false := by
  intro i hi
  unfold hasU at h
  rw [List.any_eq_false] at h
  have := h kn[i] (List.getElem_mem hi)
  unfold isUn
  rw [Int.toNat_natCast, getD_at hi]
  simpa using this
theorem hasU_yes {kn : List ByteArray} {i : Nat} (hi : i < kn.length) (h : isUn kn (i : Int) = true) : hasU kn = true := by
  cases e : hasU kn with
  | true => rfl
  | false => have := hasU_not e i hi; rw [this] at h; cases h
end Go.Ev
