/- That the machine does what the evaluator says: a part of the proof. No condition beyond those that stand in each. -/
import Derived.Test.YtmeeloeielallaaGreatDoorEv
import Derived.Laws.Cells
import Derived.Laws.Sem
import Derived.Below
import Derived.Tactics
import Derived.Laws.Strings
import Derived.Laws.StructEq
import Derived.Laws.Tables
import Derived.Laws.BytesArg
import Derived.Laws.IdiomStrings
import Derived.Laws.MakeOwn
namespace Go.Ev
universe u
set_option linter.unusedVariables false
set_option linter.unusedSimpArgs false
/-! ### The evaluator's states and the machine's: when the one tells of the other; what a step keeps. No condition beyond those that stand in each. -/

structure Place where
 r : Nat
 off : Nat
 cap : Nat
 /-- how many cells an element has -/
 st : Nat
abbrev Lay := Nat → Option Place
/-- What the call began with: the blocks that are handed to be written, those that are handed at all; the places and the lengths of the rows that came in. -/
structure Fr where
 ids : List Nat
 all : List Nat
 lo : Nat
 lo_le : lo ≤ 1000
 pl : Lay
 ln : Nat → Nat
def SlOk (m : Option Place) (len : Nat) (x : Value) : Prop :=
 match m with
 | none => len = 0 ∧ x = .slice none 0 0
 | some m => len ≤ m.cap ∧ x = .slice (some ⟨m.r, m.off, none⟩) len m.cap
def SubOk (m : Option Place) (o n : Nat) (x : Value) : Prop :=
 ∃ a c, x = .slice a n c ∧ n ≤ c ∧ (0 < n → ∃ p, m = some p ∧ a = some ⟨p.r, p.off + o * p.st, none⟩) ∧ (a = none → n = 0 ∧ c = 0) ∧ ∀ ad, a = some ad → ad.spot = none ∧ ∃ p, m = some p ∧ ad.block = p.r
def RC (bl : Nat → Option Blk) (μ : Lay) : Cell → Value → Prop
 | .s v, x => x = v ∧ isAggV v = false
 | .ptr id i j, x => ∃ b m, bl id = some b ∧ μ id = some m ∧ x = .pointer (some ⟨m.r, m.off + i * m.st + j, none⟩) ∧ (∀ k cs xs, b = .row k cs xs → i < xs.length) ∧ (∀ ys, b = .box ys → i = 0)
 | .sl id, x => ∃ b len, bl id = some b ∧ SlOk (μ id) len x ∧ ∀ k cs xs, b = .row k cs xs → len = xs.length
 | .sub id o n, x => ∃ b, bl id = some b ∧ SubOk (μ id) o n x ∧ ∀ k cs xs, b = .row k cs xs → o + n ≤ xs.length
 | .any, _ => True
inductive All2 {α β : Type} (R : α → β → Prop) : List α → List β → Prop
 | nil : All2 R [] []
 | cons {a b l m} : R a b → All2 R l m → All2 R (a :: l) (b :: m)
def RP (bl : Nat → Option Blk) (μ : Lay) (p : Bool × List Cell) (x : Value) : Prop :=
 match p with
 | (true, ys) => ∃ vs, x = .agg vs ∧ All2 (RC bl μ) ys vs.toList
 | (false, ys) => ∃ y, ys = [y] ∧ RC bl μ y x
def RL (bl : Nat → Option Blk) (μ : Lay) : LV → Value → Prop
 | .c y, x => RC bl μ y x
 | .agg ys, x => ∃ vs, x = .agg vs ∧ All2 (RC bl μ) ys vs.toList
 | .arr cs xs, x => x = .agg (xs.flatMap (enc cs)).toArray
 | .tup l, x => ∃ vs, x = .tuple vs ∧ All2 (RP bl μ) l vs.toList
def Thaw (cells : Array Value) (fr : Nat × Nat) : Prop := ∀ o, o < cells.size → ¬ (fr.1 ≤ o ∧ o < fr.2)
def BR (w : World) (bl : Nat → Option Blk) (μ : Lay) (id : Nat) : Blk → Prop
 | .box ys => ∃ m cells t fr, μ id = some m ∧ m.off = 0 ∧ w.heap[m.r]? = some (.cells cells t fr) ∧ Thaw cells fr ∧ All2 (RC bl μ) ys cells.toList
 | .row k cs xs => cs ≠ [] ∧ (match μ id with
   | none => xs = []
   | some m => xs.length ≤ m.cap ∧ m.st = cs.length ∧ ∃ cells t fr, w.heap[m.r]? = some (.cells cells t fr) ∧ (∀ j v, (xs.flatMap (enc cs))[j]? = some v → cells[m.off + j]? = some v) ∧ (k = .own → m.off = 0 ∧ cells.size = m.cap * cs.length) ∧ (k ≠ .ro → Thaw cells fr))
 | .gone => True
def Wr : Blk → Prop
 | .box _ => True
 | .row k _ _ => k ≠ .ro
 | .gone => False
structure Apart (bl : Nat → Option Blk) (μ : Lay) (n0 : Nat) (M : Fr) : Prop where
 two : ∀ id id' b b' m m', id ≠ id' → bl id = some b → bl id' = some b' → Wr b → b' ≠ .gone → μ id = some m → μ id' = some m' → m.r ≠ m'.r
 new : ∀ id b m, bl id = some b → Wr b → μ id = some m → n0 ≤ m.r ∨ m.r ∈ M.ids
 old : ∀ id b m, bl id = some b → b ≠ .gone → μ id = some m → n0 ≤ m.r ∨ m.r ∈ M.all
/-- What has become of the world since the call began: blocks that were there and are not handed to be written are as they were. -/
structure Since (W0 : World) (M : List Nat) (w : World) : Prop where
 os : w.os = W0.os
 tape : w.tape = W0.tape
 output : w.output = W0.output
 size : W0.heap.size ≤ w.heap.size
 block : ∀ k, k < W0.heap.size → k ∉ M → w.heap[k]? = W0.heap[k]?
 shape : ∀ k cells t fr, k < W0.heap.size → W0.heap[k]? = some (.cells cells t fr) → ∃ cells', w.heap[k]? = some (.cells cells' t fr) ∧ cells'.size = cells.size
structure Inv (N : Nat) (W0 : World) (M : Fr) (st : St) (μ : Lay) (a : Act) (w : World) : Prop where
 tm : ∀ t, RL st.bl μ (st.tm t) (a.tmps.getD t undef)
 bl : ∀ id b, st.bl id = some b → BR w st.bl μ id b
 ap : Apart st.bl μ W0.heap.size M
 since : Since W0 M.ids w
 size : N ≤ a.tmps.size
 defers : a.defers = []
 ent : ∀ id b, id < M.lo → st.bl id = some b → μ id = M.pl id ∧ ∀ k cs xs, b = .row k cs xs → xs.length = M.ln id

-- lists
theorem All2.len {α β : Type} {R : α → β → Prop} {l : List α} {m : List β} (h : All2 R l m) : l.length = m.length := by
 induction h with
 | nil => rfl
 | cons _ _ ih => simp [ih]
theorem All2.imp {α β : Type} {R S : α → β → Prop} {l : List α} {m : List β} (h : All2 R l m) (f : ∀ a b, R a b → S a b) : All2 S l m := by
 induction h with
 | nil => exact .nil
 | cons h _ ih => exact .cons (f _ _ h) ih
theorem All2.get {α β : Type} {R : α → β → Prop} {l : List α} {m : List β} (h : All2 R l m) : ∀ (i : Nat) (a : α), l[i]? = some a → ∃ b, m[i]? = some b ∧ R a b := by
 induction h with
 | nil => intro i a hi; simp at hi
 | cons h _ ih =>
   intro i a hi
   cases i with
   | zero => simp at hi; subst hi; exact ⟨_, by simp, h⟩
   | succ i => simpa using ih i a (by simpa using hi)
theorem All2.drop {α β : Type} {R : α → β → Prop} {l : List α} {m : List β} (h : All2 R l m) : ∀ n, All2 R (l.drop n) (m.drop n) := by
 induction h with
 | nil => intro n; simp; exact .nil
 | cons h hl ih =>
   intro n
   cases n with
   | zero => exact .cons h hl
   | succ n => simpa using ih n
theorem All2.take {α β : Type} {R : α → β → Prop} {l : List α} {m : List β} (h : All2 R l m) : ∀ n, All2 R (l.take n) (m.take n) := by
 induction h with
 | nil => intro n; simp; exact .nil
 | cons h hl ih =>
   intro n
   cases n with
   | zero => exact .nil
   | succ n => simpa using All2.cons h (ih n)
theorem All2.setAt {α β : Type} {R : α → β → Prop} {l : List α} {m : List β} (h : All2 R l m) : ∀ (j : Nat) {ys : List α} {zs : List β}, All2 R ys zs → All2 R (setAt l j ys) (Go.Ev.setAt m j zs) := by
 induction h with
 | nil =>
   intro j ys zs hy
   cases j <;> cases hy <;> exact .nil
 | cons h hl ih =>
   intro j ys zs hy
   cases j with
   | zero =>
     cases hy with
     | nil => exact .cons h hl
     | cons hh ht => exact .cons hh (ih 0 ht)
   | succ j => exact .cons h (ih j hy)
theorem setAt_length {α : Type} : ∀ (l : List α) (j : Nat) (ys : List α), (setAt l j ys).length = l.length
 | [], 0, [] => rfl
 | [], 0, _ :: _ => rfl
 | [], _ + 1, [] => rfl
 | [], _ + 1, _ :: _ => rfl
 | _ :: _, 0, [] => rfl
 | _ :: xs, 0, _ :: ys => by simp [setAt, setAt_length xs 0 ys]
 | _ :: xs, j + 1, [] => by simp [setAt, setAt_length xs j []]
 | _ :: xs, j + 1, y :: ys => by simp [setAt, setAt_length xs j (y :: ys)]
theorem setAt_get {α : Type} : ∀ (l : List α) (j : Nat) (ys : List α) (i : Nat), (setAt l j ys)[i]? = if j ≤ i ∧ i < j + ys.length ∧ i < l.length then ys[i - j]? else l[i]?
 | [], 0, [], i => by simp [setAt]
 | [], 0, _ :: _, i => by simp [setAt]
 | [], _ + 1, [], i => by simp [setAt]
 | [], _ + 1, _ :: _, i => by simp [setAt]
 | x :: xs, 0, [], i => by simp [setAt]
 | x :: xs, 0, y :: ys, i => by
   cases i with
   | zero => simp [setAt]
   | succ i => simp [setAt, setAt_get xs 0 ys i]
 | x :: xs, j + 1, [], i => by
   cases i with
   | zero => simp [setAt]
   | succ i => simp only [setAt, List.getElem?_cons_succ, setAt_get xs j [] i]; simp
 | x :: xs, j + 1, y :: ys, i => by
   cases i with
   | zero => simp [setAt]
   | succ i =>
     simp only [setAt, List.getElem?_cons_succ, setAt_get xs j (y :: ys) i, List.length_cons]
     simp only [Nat.add_le_add_iff_right, Nat.add_sub_add_right]
     congr 1
     simp only [eq_iff_iff]
     omega

-- maps
theorem upd_same {α : Type u} (f : Nat → α) (n : Nat) (v : α) : upd f n v n = v := by simp [upd]
theorem upd_ne {α : Type u} (f : Nat → α) {n t : Nat} (v : α) (h : t ≠ n) : upd f n v t = f t := by
 unfold upd
 cases hb : Nat.beq t n with
 | true => exact absurd (Nat.eq_of_beq_eq_true hb) h
 | false => rfl
theorem upd_cases {α : Type u} (f : Nat → α) (n t : Nat) (v : α) : (t = n ∧ upd f n v t = v) ∨ (t ≠ n ∧ upd f n v t = f t) := by
 by_cases h : t = n
 · subst h; exact .inl ⟨rfl, upd_same _ _ _⟩
 · exact .inr ⟨h, upd_ne _ _ h⟩

-- blocks that look alike from outside
def Like : Blk → Blk → Prop
 | _, .gone => True
 | .box xs, .box ys => True
 | .row _ cs xs, .row _ ds ys => cs = ds ∧ xs.length = ys.length
 | _, _ => False
theorem Like.refl : ∀ b, Like b b
 | .box _ => trivial
 | .row _ _ _ => ⟨rfl, rfl⟩
 | .gone => trivial
theorem Like.row {b b' : Blk} (h : Like b b') {k : Kind} {cs : List Sc} {ys : List (RowT cs)} (e : b' = .row k cs ys) : ∃ k' xs, b = .row k' cs xs ∧ xs.length = ys.length := by
 subst e
 cases b with
 | box _ => exact h.elim
 | gone => exact h.elim
 | row k' ds xs => obtain ⟨rfl, hl⟩ := h; exact ⟨k', xs, rfl, hl⟩
theorem RC.mono {bl bl' : Nat → Option Blk} {μ μ' : Lay} {y : Cell} {x : Value} (h : RC bl μ y x) (hb : ∀ id b, bl id = some b → ∃ b', bl' id = some b' ∧ Like b b' ∧ μ' id = μ id) : RC bl' μ' y x := by
 cases y with
 | s v => exact h
 | any => trivial
 | ptr id i j =>
   obtain ⟨b, m, h1, h2, h3, h4, h5⟩ := h
   obtain ⟨b', g1, g2, g3⟩ := hb id b h1
   refine ⟨b', m, g1, by rw [g3]; exact h2, h3, fun k cs ys e => ?_, fun ys e => ?_⟩
   · obtain ⟨k', xs, e', hl⟩ := g2.row e
     rw [← hl]; exact h4 k' cs xs e'
   · subst e
     cases b with
     | box xs => exact h5 xs rfl
     | row _ _ _ => exact g2.elim
     | gone => exact g2.elim
 | sl id =>
   obtain ⟨b, len, h1, h2, h3⟩ := h
   obtain ⟨b', g1, g2, g3⟩ := hb id b h1
   refine ⟨b', len, g1, by rw [g3]; exact h2, fun k cs ys e => ?_⟩
   obtain ⟨k', xs, e', hl⟩ := g2.row e
   rw [← hl]; exact h3 k' cs xs e'
 | sub id o n =>
   obtain ⟨b, h1, h2, h3⟩ := h
   obtain ⟨b', g1, g2, g3⟩ := hb id b h1
   refine ⟨b', g1, by rw [g3]; exact h2, fun k cs ys e => ?_⟩
   obtain ⟨k', xs, e', hl⟩ := g2.row e
   rw [← hl]; exact h3 k' cs xs e'
theorem RP.mono {bl bl' : Nat → Option Blk} {μ μ' : Lay} {p : Bool × List Cell} {x : Value} (h : RP bl μ p x) (hb : ∀ id b, bl id = some b → ∃ b', bl' id = some b' ∧ Like b b' ∧ μ' id = μ id) : RP bl' μ' p x := by
 obtain ⟨agg, ys⟩ := p
 cases agg with
 | true => obtain ⟨vs, rfl, h⟩ := h; exact ⟨vs, rfl, h.imp fun _ _ h => h.mono hb⟩
 | false => obtain ⟨y, rfl, h⟩ := h; exact ⟨y, rfl, h.mono hb⟩
theorem RL.mono {bl bl' : Nat → Option Blk} {μ μ' : Lay} {v : LV} {x : Value} (h : RL bl μ v x) (hb : ∀ id b, bl id = some b → ∃ b', bl' id = some b' ∧ Like b b' ∧ μ' id = μ id) : RL bl' μ' v x := by
 cases v with
 | c y => exact RC.mono h hb
 | agg ys => obtain ⟨vs, rfl, h⟩ := h; exact ⟨vs, rfl, h.imp fun _ _ h => h.mono hb⟩
 | arr cs xs => exact h
 | tup l => obtain ⟨vs, rfl, h⟩ := h; exact ⟨vs, rfl, h.imp fun _ _ h => h.mono hb⟩

-- the world
theorem Since.refl (W : World) (M : List Nat) : Since W M W := ⟨rfl, rfl, rfl, Nat.le_refl _, fun _ _ _ => rfl, fun _ cells _ _ _ h => ⟨cells, h, rfl⟩⟩
theorem Since.drew {W w : World} {M : List Nat} (h : Since W M w) (n : Nat) : Since W M { w with drawn := n } := ⟨h.os, h.tape, h.output, h.size, h.block, h.shape⟩
theorem push_lt (w : World) (o : Obj) (k : Nat) (h : k < w.heap.size) : (w.heap.push o)[k]? = w.heap[k]? := by
 rw [Array.getElem?_push]; simp [Nat.ne_of_lt h]
theorem lt_of_some {w : World} {r : Nat} {o : Obj} (h : w.heap[r]? = some o) : r < w.heap.size := by
 rcases Nat.lt_or_ge r w.heap.size with g | g
 · exact g
 · rw [Array.getElem?_eq_none g] at h; cases h
theorem Since.push {W w : World} {M : List Nat} (h : Since W M w) (o : Obj) : Since W M { w with heap := w.heap.push o } :=
 ⟨h.os, h.tape, h.output, by simp; have := h.size; omega, fun k hk hm => by
   show (w.heap.push o)[k]? = _
   rw [push_lt w o k (Nat.lt_of_lt_of_le hk h.size)]; exact h.block k hk hm, fun k cells t fr hk hc => by
   show ∃ cells', (w.heap.push o)[k]? = _ ∧ _
   rw [push_lt w o k (Nat.lt_of_lt_of_le hk h.size)]; exact h.shape k cells t fr hk hc⟩
/-- Nothing that a block tells hangs on other blocks. -/
theorem BR.keep {w w' : World} {bl bl' : Nat → Option Blk} {μ μ' : Lay} {id : Nat} {b : Blk} (h : BR w bl μ id b) (hb : ∀ id b, bl id = some b → ∃ b', bl' id = some b' ∧ Like b b' ∧ μ' id = μ id)
   (hμ : μ' id = μ id) (hw : b ≠ .gone → ∀ m, μ id = some m → ∀ o, w.heap[m.r]? = some o → w'.heap[m.r]? = some o) : BR w' bl' μ' id b := by
 cases b with
 | box ys =>
   obtain ⟨m, cells, t, fr, h1, h2, h3, h4, h5⟩ := h
   exact ⟨m, cells, t, fr, by rw [hμ]; exact h1, h2, hw (by simp) m h1 _ h3, h4, h5.imp fun _ _ h => h.mono hb⟩
 | row k cs xs =>
   obtain ⟨h0, h⟩ := h
   refine ⟨h0, ?_⟩
   rw [hμ]
   cases hm : μ id with
   | none => rw [hm] at h; exact h
   | some m =>
     rw [hm] at h
     obtain ⟨h1, h1', cells, t, fr, h2, h3⟩ := h
     exact ⟨h1, h1', cells, t, fr, hw (by simp) m hm _ h2, h3⟩
 | gone => trivial
/-! ### What each kind of change does to the tie between the evaluator's state and the machine's. No condition beyond those that stand in each. -/

theorem put_tmps (a : Act) (d : Nat) (x : Value) : (a.put (some d) x).tmps = a.tmps.setIfInBounds d x := rfl
theorem getD_set (xs : Array Value) (d t : Nat) (x : Value) (h : d < xs.size) : (xs.setIfInBounds d x).getD t undef = if t = d then x else xs.getD t undef := by
 simp only [Array.getD_eq_getD_getElem?, Array.getElem?_setIfInBounds]
 by_cases e : t = d
 · subst e; simp [h]
 · have : ¬ d = t := fun h => e h.symm
   simp [e, this]
theorem Inv.put {N : Nat} {W0 : World} {M : Fr} {st : St} {μ : Lay} {a : Act} {w : World} (h : Inv N W0 M st μ a w) {dst : Option Nat} (hd : ∀ d, dst = some d → d < N) {v : LV} {x : Value} (hv : RL st.bl μ v x) :
   Inv N W0 M ⟨updO st.tm dst v, st.bl⟩ μ (a.put dst x) w := by
 cases dst with
 | none => exact ⟨h.tm, h.bl, h.ap, h.since, h.size, h.defers, h.ent⟩
 | some d =>
   have hlt : d < a.tmps.size := Nat.lt_of_lt_of_le (hd d rfl) h.size
   refine ⟨fun t => ?_, h.bl, h.ap, h.since, by rw [put_tmps]; simpa using h.size, h.defers, h.ent⟩
   rw [put_tmps, getD_set _ _ _ _ hlt]
   show RL st.bl μ (upd st.tm d v t) _
   by_cases e : t = d
   · subst e; rw [upd_same, if_pos rfl]; exact hv
   · rw [upd_ne _ _ e, if_neg e]; exact h.tm t
theorem Inv.drew {N : Nat} {W0 : World} {M : Fr} {st : St} {μ : Lay} {a : Act} {w : World} (h : Inv N W0 M st μ a w) (n : Nat) : Inv N W0 M st μ a { w with drawn := n } :=
 ⟨h.tm, fun id b hb => (h.bl id b hb).keep (fun id b hb => ⟨b, hb, Like.refl b, rfl⟩) rfl (fun _ _ _ _ h => h), h.ap, h.since.drew n, h.size, h.defers, h.ent⟩
theorem old_like {bl : Nat → Option Blk} {μ : Lay} {id : Nat} {b : Option Blk} {m : Option Place} (hn : bl id = none) :
   ∀ i c, bl i = some c → ∃ c', upd bl id b i = some c' ∧ Like c c' ∧ upd μ id m i = μ i := by
 intro i c hc
 have : i ≠ id := fun e => by rw [e, hn] at hc; cases hc
 exact ⟨c, by rw [upd_ne _ _ this]; exact hc, Like.refl c, upd_ne _ _ this⟩
theorem new_ent {bl : Nat → Option Blk} {μ : Lay} {M : Fr} {id : Nat} {b : Option Blk} {m : Option Place} (h : ∀ id b, id < M.lo → bl id = some b → μ id = M.pl id ∧ ∀ k cs xs, b = .row k cs xs → xs.length = M.ln id) (hid : M.lo ≤ id) :
   ∀ i c, i < M.lo → upd bl id b i = some c → upd μ id m i = M.pl i ∧ ∀ k cs xs, c = .row k cs xs → xs.length = M.ln i := by
 intro i c hi hc
 have ne : i ≠ id := by omega
 rw [upd_ne _ _ ne] at hc ⊢
 exact h i c hi hc
theorem like_ent {bl : Nat → Option Blk} {μ : Lay} {M : Fr} {id : Nat} {b b' : Blk} (h : ∀ id b, id < M.lo → bl id = some b → μ id = M.pl id ∧ ∀ k cs xs, b = .row k cs xs → xs.length = M.ln id) (hb : bl id = some b) (hl : Like b b') :
   ∀ i c, i < M.lo → upd bl id (some b') i = some c → μ i = M.pl i ∧ ∀ k cs xs, c = .row k cs xs → xs.length = M.ln i := by
 intro i c hi hc
 rcases upd_cases bl id i (some b') with ⟨rfl, e⟩ | ⟨ne, e⟩
 · rw [e] at hc; cases hc
   have := h i b hi hb
   refine ⟨this.1, fun k cs xs e => ?_⟩
   obtain ⟨k', ys, e', hl'⟩ := hl.row e
   rw [← hl']; exact this.2 k' cs ys e'
 · rw [e] at hc; exact h i c hi hc
/-- A new block. -/
theorem Inv.add {N : Nat} {W0 : World} {M : Fr} {st : St} {μ : Lay} {a : Act} {w : World} (h : Inv N W0 M st μ a w) {id : Nat} (hn : st.bl id = none) (hid : M.lo ≤ id) {b : Blk} {m : Place} {o : Obj} (hm : m.r = w.heap.size)
   (hb : BR { w with heap := w.heap.push o } (upd st.bl id (some b)) (upd μ id (some m)) id b) : Inv N W0 M ⟨st.tm, upd st.bl id (some b)⟩ (upd μ id (some m)) a { w with heap := w.heap.push o } := by
 have hl := old_like (bl := st.bl) (μ := μ) (b := some b) (m := some m) hn
 have hlt : ∀ i c p, st.bl i = some c → c ≠ .gone → μ i = some p → p.r < w.heap.size := by
   intro i c p hc hg hp
   have := h.bl i c hc
   cases c with
   | box ys => obtain ⟨q, _, _, _, h1, _, h3, _⟩ := this; rw [hp] at h1; cases h1; exact lt_of_some h3
   | row k cs xs => obtain ⟨_, g⟩ := this; rw [hp] at g; obtain ⟨_, _, _, _, _, h3, _⟩ := g; exact lt_of_some h3
   | gone => exact absurd rfl hg
 refine ⟨fun t => (h.tm t).mono hl, fun i c hc => ?_, ⟨?_, ?_, ?_⟩, h.since.push o, h.size, h.defers, new_ent h.ent hid⟩
 · rcases upd_cases st.bl id i (some b) with ⟨rfl, e⟩ | ⟨ne, e⟩
   · have hc' : upd st.bl i (some b) i = some c := hc
     rw [e] at hc'; cases hc'; exact hb
   · have hc' : upd st.bl id (some b) i = some c := hc
     rw [e] at hc'
     refine (h.bl i c hc').keep hl (upd_ne _ _ ne) (fun hg p hp q hq => ?_)
     show (w.heap.push o)[p.r]? = some q
     rw [push_lt w o p.r (hlt i c p hc' hg hp)]; exact hq
 · intro i j c d p q hij hc hd hw hg hp hq
   change upd st.bl id (some b) i = some c at hc
   change upd st.bl id (some b) j = some d at hd
   rcases upd_cases st.bl id i (some b) with ⟨rfl, e⟩ | ⟨ne, e⟩
   · have hj : j ≠ i := fun x => hij x.symm
     rw [upd_ne _ _ hj] at hd hq
     rw [upd_same] at hp; cases hp
     have := hlt j d q hd hg hq
     omega
   · rw [e] at hc
     rw [upd_ne _ _ ne] at hp
     rcases upd_cases st.bl id j (some b) with ⟨rfl, e'⟩ | ⟨ne', e'⟩
     · rw [upd_same] at hq; cases hq
       have hcg : c ≠ .gone := by intro x; subst x; exact hw
       have := hlt i c p hc hcg hp
       omega
     · rw [e'] at hd; rw [upd_ne _ _ ne'] at hq
       exact h.ap.two i j c d p q hij hc hd hw hg hp hq
 · intro i c p hc hw hp
   change upd st.bl id (some b) i = some c at hc
   rcases upd_cases st.bl id i (some b) with ⟨rfl, e⟩ | ⟨ne, e⟩
   · rw [upd_same] at hp; cases hp; left; have := h.since.size; omega
   · rw [e] at hc; rw [upd_ne _ _ ne] at hp; exact h.ap.new i c p hc hw hp
 · intro i c p hc hg hp
   change upd st.bl id (some b) i = some c at hc
   rcases upd_cases st.bl id i (some b) with ⟨rfl, e⟩ | ⟨ne, e⟩
   · rw [upd_same] at hp; cases hp; left; have := h.since.size; omega
   · rw [e] at hc; rw [upd_ne _ _ ne] at hp; exact h.ap.old i c p hc hg hp
/-- A new row that is nil. -/
theorem Inv.addNil {N : Nat} {W0 : World} {M : Fr} {st : St} {μ : Lay} {a : Act} {w : World} (h : Inv N W0 M st μ a w) {id : Nat} (hn : st.bl id = none) (hid : M.lo ≤ id) {k : Kind} {cs : List Sc} (hc : cs ≠ []) :
   Inv N W0 M ⟨st.tm, upd st.bl id (some (.row k cs []))⟩ (upd μ id none) a w := by
 have hl := old_like (bl := st.bl) (μ := μ) (b := some (.row k cs [])) (m := none) hn
 refine ⟨fun t => (h.tm t).mono hl, fun i c hc' => ?_, ⟨?_, ?_, ?_⟩, h.since, h.size, h.defers, new_ent h.ent hid⟩
 · change upd st.bl id _ i = some c at hc'
   rcases upd_cases st.bl id i (some (.row k cs [])) with ⟨rfl, e⟩ | ⟨ne, e⟩
   · rw [e] at hc'; cases hc'; exact ⟨hc, by rw [upd_same]⟩
   · rw [e] at hc'
     exact (h.bl i c hc').keep hl (upd_ne _ _ ne) (fun _ _ _ _ h => h)
 · intro i j c d p q hij hc1 hd hw hg hp hq
   change upd st.bl id _ i = some c at hc1
   change upd st.bl id _ j = some d at hd
   rcases upd_cases st.bl id i (some (.row k cs [])) with ⟨rfl, e⟩ | ⟨ne, e⟩
   · rw [upd_same] at hp; cases hp
   · rcases upd_cases st.bl id j (some (.row k cs [])) with ⟨rfl, e'⟩ | ⟨ne', e'⟩
     · rw [upd_same] at hq; cases hq
     · rw [e] at hc1; rw [e'] at hd; rw [upd_ne _ _ ne] at hp; rw [upd_ne _ _ ne'] at hq
       exact h.ap.two i j c d p q hij hc1 hd hw hg hp hq
 · intro i c p hc1 hw hp
   change upd st.bl id _ i = some c at hc1
   rcases upd_cases st.bl id i (some (.row k cs [])) with ⟨rfl, e⟩ | ⟨ne, e⟩
   · rw [upd_same] at hp; cases hp
   · rw [e] at hc1; rw [upd_ne _ _ ne] at hp; exact h.ap.new i c p hc1 hw hp
 · intro i c p hc1 hg hp
   change upd st.bl id _ i = some c at hc1
   rcases upd_cases st.bl id i (some (.row k cs [])) with ⟨rfl, e⟩ | ⟨ne, e⟩
   · rw [upd_same] at hp; cases hp
   · rw [e] at hc1; rw [upd_ne _ _ ne] at hp; exact h.ap.old i c p hc1 hg hp
theorem shape_turn {W0 w w' : World} {M : List Nat} {r : Nat} (h : Since W0 M w) (ho : ∀ k, k ≠ r → w'.heap[k]? = w.heap[k]?)
   (hsh : ∀ cells t fr, w.heap[r]? = some (.cells cells t fr) → ∃ cells', w'.heap[r]? = some (.cells cells' t fr) ∧ cells'.size = cells.size) :
   ∀ k cells t fr, k < W0.heap.size → W0.heap[k]? = some (.cells cells t fr) → ∃ cells', w'.heap[k]? = some (.cells cells' t fr) ∧ cells'.size = cells.size := by
 intro k cells t fr hk hc
 obtain ⟨c1, h1, h2⟩ := h.shape k cells t fr hk hc
 by_cases e : k = r
 · subst e
   obtain ⟨c2, h3, h4⟩ := hsh c1 t fr h1
   exact ⟨c2, h3, h4.trans h2⟩
 · exact ⟨c1, by rw [ho k e]; exact h1, h2⟩
/-- A block that is ours to write is turned; nothing else. -/
theorem Inv.turn {N : Nat} {W0 : World} {M : Fr} {st : St} {μ : Lay} {a : Act} {w : World} (h : Inv N W0 M st μ a w) {id : Nat} {b b' : Blk} {m : Place} (hb : st.bl id = some b) (hw : Wr b) (hm : μ id = some m)
   {w' : World} (hs : w'.heap.size = w.heap.size) (ho : ∀ k, k ≠ m.r → w'.heap[k]? = w.heap[k]?) (hos : w'.os = w.os) (htape : w'.tape = w.tape) (hout : w'.output = w.output) (hl : Like b b')
   (hsh : ∀ cells t fr, w.heap[m.r]? = some (.cells cells t fr) → ∃ cells', w'.heap[m.r]? = some (.cells cells' t fr) ∧ cells'.size = cells.size)
   (hr : BR w' (upd st.bl id (some b')) μ id b') : Inv N W0 M ⟨st.tm, upd st.bl id (some b')⟩ μ a w' := by
 have hlk : ∀ i c, st.bl i = some c → ∃ c', upd st.bl id (some b') i = some c' ∧ Like c c' ∧ μ i = μ i := by
   intro i c hc
   rcases upd_cases st.bl id i (some b') with ⟨rfl, e⟩ | ⟨ne, e⟩
   · rw [hb] at hc; cases hc; exact ⟨b', e, hl, rfl⟩
   · exact ⟨c, by rw [e]; exact hc, Like.refl c, rfl⟩
 refine ⟨fun t => (h.tm t).mono hlk, fun i c hc => ?_, ⟨?_, ?_, ?_⟩, ⟨hos.trans h.since.os, htape.trans h.since.tape, hout.trans h.since.output, by rw [hs]; exact h.since.size, fun k hk hM => ?_, shape_turn h.since ho hsh⟩, h.size, h.defers, like_ent h.ent hb hl⟩
 · change upd st.bl id (some b') i = some c at hc
   rcases upd_cases st.bl id i (some b') with ⟨rfl, e⟩ | ⟨ne, e⟩
   · rw [e] at hc; cases hc; exact hr
   · rw [e] at hc
     refine (h.bl i c hc).keep hlk rfl (fun hg p hp o ho' => ?_)
     have := h.ap.two id i b c m p (fun x => ne x.symm) hb hc hw hg hm hp
     rw [ho p.r (fun x => this x.symm)]; exact ho'
 · intro i j c d p q hij hc1 hd hwc hg hp hq
   change upd st.bl id _ i = some c at hc1
   change upd st.bl id _ j = some d at hd
   have e1 : ∃ c0, st.bl i = some c0 ∧ Wr c0 := by
     rcases upd_cases st.bl id i (some b') with ⟨rfl, e⟩ | ⟨ne, e⟩
     · exact ⟨b, hb, hw⟩
     · rw [e] at hc1; exact ⟨c, hc1, hwc⟩
   have e2 : ∃ d0, st.bl j = some d0 ∧ d0 ≠ .gone := by
     rcases upd_cases st.bl id j (some b') with ⟨rfl, e⟩ | ⟨ne, e⟩
     · exact ⟨b, hb, by intro x; subst x; exact hw⟩
     · rw [e] at hd; exact ⟨d, hd, hg⟩
   obtain ⟨c0, f1, f2⟩ := e1
   obtain ⟨d0, f3, f4⟩ := e2
   exact h.ap.two i j c0 d0 p q hij f1 f3 f2 f4 hp hq
 · intro i c p hc1 hwc hp
   change upd st.bl id _ i = some c at hc1
   rcases upd_cases st.bl id i (some b') with ⟨rfl, e⟩ | ⟨ne, e⟩
   · exact h.ap.new i b p hb hw hp
   · rw [e] at hc1; exact h.ap.new i c p hc1 hwc hp
 · intro i c p hc1 hg hp
   change upd st.bl id _ i = some c at hc1
   rcases upd_cases st.bl id i (some b') with ⟨rfl, e⟩ | ⟨ne, e⟩
   · exact h.ap.old i b p hb (by intro x; subst x; exact hw) hp
   · rw [e] at hc1; exact h.ap.old i c p hc1 hg hp
 · rcases h.ap.new id b m hb hw hm with g | g
   · rw [ho k (by omega)]; exact h.since.block k hk hM
   · by_cases e : k = m.r
     · subst e; exact absurd g hM
     · rw [ho k e]; exact h.since.block k hk hM
/-- A block is no longer written (it becomes shared, or is gone). -/
theorem Inv.calm {N : Nat} {W0 : World} {M : Fr} {st : St} {μ : Lay} {a : Act} {w : World} (h : Inv N W0 M st μ a w) {id : Nat} {b b' : Blk} (hb : st.bl id = some b) (hw : ¬ Wr b') (hl : Like b b') (hg : b' ≠ .gone → b ≠ .gone)
   (hr : BR w st.bl μ id b → BR w (upd st.bl id (some b')) μ id b') : Inv N W0 M ⟨st.tm, upd st.bl id (some b')⟩ μ a w := by
 have hlk : ∀ i c, st.bl i = some c → ∃ c', upd st.bl id (some b') i = some c' ∧ Like c c' ∧ μ i = μ i := by
   intro i c hc
   rcases upd_cases st.bl id i (some b') with ⟨rfl, e⟩ | ⟨ne, e⟩
   · rw [hb] at hc; cases hc; exact ⟨b', e, hl, rfl⟩
   · exact ⟨c, by rw [e]; exact hc, Like.refl c, rfl⟩
 refine ⟨fun t => (h.tm t).mono hlk, fun i c hc => ?_, ⟨?_, ?_, ?_⟩, h.since, h.size, h.defers, like_ent h.ent hb hl⟩
 · change upd st.bl id (some b') i = some c at hc
   rcases upd_cases st.bl id i (some b') with ⟨rfl, e⟩ | ⟨ne, e⟩
   · rw [e] at hc; cases hc; exact hr (h.bl i b hb)
   · rw [e] at hc; exact (h.bl i c hc).keep hlk rfl (fun _ _ _ _ h => h)
 · intro i j c d p q hij hc1 hd hwc hgd hp hq
   change upd st.bl id _ i = some c at hc1
   change upd st.bl id _ j = some d at hd
   rcases upd_cases st.bl id i (some b') with ⟨rfl, e⟩ | ⟨ne, e⟩
   · rw [e] at hc1; cases hc1; exact absurd hwc hw
   · rw [e] at hc1
     rcases upd_cases st.bl id j (some b') with ⟨rfl, e'⟩ | ⟨ne', e'⟩
     · rw [e'] at hd; cases hd; exact h.ap.two i j c b p q hij hc1 hb hwc (hg hgd) hp hq
     · rw [e'] at hd; exact h.ap.two i j c d p q hij hc1 hd hwc hgd hp hq
 · intro i c p hc1 hwc hp
   change upd st.bl id _ i = some c at hc1
   rcases upd_cases st.bl id i (some b') with ⟨rfl, e⟩ | ⟨ne, e⟩
   · rw [e] at hc1; cases hc1; exact absurd hwc hw
   · rw [e] at hc1; exact h.ap.new i c p hc1 hwc hp
 · intro i c p hc1 hgd hp
   change upd st.bl id _ i = some c at hc1
   rcases upd_cases st.bl id i (some b') with ⟨rfl, e⟩ | ⟨ne, e⟩
   · rw [e] at hc1; cases hc1; exact h.ap.old i b p hb (hg hgd) hp
   · rw [e] at hc1; exact h.ap.old i c p hc1 hgd hp
/-! ### Loads, stores, appends: what the machine's own words on cells do. No condition beyond those that stand in each. -/

theorem enc_length : ∀ (cs : List Sc) (x : RowT cs), (enc cs x).length = cs.length
 | [], _ => rfl
 | [_], _ => rfl
 | c :: d :: cs, x => by simp only [enc, List.length_cons, enc_length (d :: cs) x.2]
theorem Sc.v_one (c : Sc) (x : c.T) : (c.v x).oneCell' = true := by cases c <;> rfl
theorem enc_one : ∀ (cs : List Sc) (x : RowT cs), ∀ v ∈ enc cs x, v.oneCell' = true
 | [], _ => fun v h => by simp [enc] at h
 | [c], x => fun v h => by
   simp only [enc, List.mem_singleton] at h; subst h; exact c.v_one x
 | c :: d :: cs, x => fun v h => by
   simp only [enc, List.mem_cons] at h
   rcases h with rfl | h
   · exact c.v_one _
   · exact enc_one (d :: cs) x.2 v (by simpa [enc] using h)
theorem Sc.un_v (c : Sc) (v : Value) (x : c.T) (h : c.un v = some x) : c.v x = v := by
 cases c with
 | int k =>
   cases v <;> simp only [Sc.un] at h <;> first | cases h | skip
   rename_i k' n
   by_cases e : k = k'
   · rw [if_pos e] at h; cases h; subst e; rfl
   · rw [if_neg e] at h; cases h
 | bool => cases v <;> simp only [Sc.un] at h <;> first | cases h; done | (cases h; rfl)
 | str => cases v <;> simp only [Sc.un] at h <;> first | cases h; done | (cases h; rfl)
theorem dec_enc : ∀ (cs : List Sc) (vs : List Value) (x : RowT cs), dec cs vs = some x → enc cs x = vs
 | [], [], _, _ => rfl
 | [], _ :: _, _, h => by simp [dec] at h
 | [c], [v], x, h => by
   have := c.un_v v x h
   simp only [enc, this]
 | [c], [], _, h => by simp [dec] at h
 | [c], _ :: _ :: _, _, h => by simp [dec] at h
 | c :: d :: cs, [], _, h => by simp [dec] at h
 | c :: d :: cs, v :: vs, x, h => by
   simp only [dec] at h
   cases hu : c.un v with
   | none => rw [hu] at h; cases h
   | some a =>
     rw [hu] at h
     cases hd : dec (d :: cs) vs with
     | none => rw [hd] at h; cases h
     | some b =>
       rw [hd] at h
       cases h
       show c.v a :: enc (d :: cs) b = v :: vs
       rw [c.un_v v a hu, dec_enc (d :: cs) vs b hd]
theorem flat_length {α β : Type} (f : α → List β) (n : Nat) (h : ∀ x, (f x).length = n) : ∀ l : List α, (l.flatMap f).length = l.length * n
 | [] => by simp
 | x :: l => by simp [h x, flat_length f n h l, Nat.succ_mul, Nat.add_comm]
theorem flat_get {α β : Type} (f : α → List β) (n : Nat) (h : ∀ x, (f x).length = n) : ∀ (l : List α) (i j : Nat) (x : α), l[i]? = some x → j < n → (l.flatMap f)[i * n + j]? = (f x)[j]?
 | [], i, j, x, hx, _ => by simp at hx
 | y :: l, 0, j, x, hx, hj => by
   simp at hx; subst hx
   simp only [List.flatMap_cons, Nat.zero_mul, Nat.zero_add]
   rw [List.getElem?_append_left (by rw [h]; exact hj)]
 | y :: l, i + 1, j, x, hx, hj => by
   simp only [List.flatMap_cons]
   rw [List.getElem?_append_right (by rw [h, Nat.succ_mul]; omega), h]
   have : (i + 1) * n + j - n = i * n + j := by rw [Nat.succ_mul]; omega
   rw [this]
   exact flat_get f n h l i j x (by simpa using hx) hj
theorem cellOf {w : World} {r : Nat} {cells : Array Value} {t : TypeId} {fr : Nat × Nat} (h : w.heap[r]? = some (.cells cells t fr)) (o : Nat) : w.cell? ⟨r, o, none⟩ = cells[o]? := by
 simp [World.cell?, h]
theorem frozenOf {w : World} {r : Nat} {cells : Array Value} {t : TypeId} {fr : Nat × Nat} (h : w.heap[r]? = some (.cells cells t fr)) (o : Nat) : w.frozen? ⟨r, o, none⟩ = (decide (fr.1 ≤ o) && decide (o < fr.2)) := by
 simp [World.frozen?, h]
theorem add_off (r o n : Nat) : (⟨r, o, none⟩ : Addr).add n = ⟨r, o + n, none⟩ := by
 unfold Addr.add; split
 · subst_vars; simp
 · rfl
theorem setCell_heap {w : World} {r : Nat} {cells : Array Value} {t : TypeId} {fr : Nat × Nat} (h : w.heap[r]? = some (.cells cells t fr)) (o : Nat) (v : Value) :
   (w.setCell ⟨r, o, none⟩ v).heap[r]? = some (.cells (cells.setIfInBounds o v) t fr) := by
 have hlt := lt_of_some h
 simp only [World.setCell, Array.getElem?_modify, if_pos, h, Option.map_some]
 simp
theorem setCell_else {w : World} {r o : Nat} {v : Value} {k : Nat} (h : k ≠ r) : (w.setCell ⟨r, o, none⟩ v).heap[k]? = w.heap[k]? := by
 simp only [World.setCell, Array.getElem?_modify]
 rw [if_neg (fun e => h e.symm)]
/-- A world that differs in one block's cells alone. -/
structure Turned (w w' : World) (r : Nat) (cells' : Array Value) (t : TypeId) (fr : Nat × Nat) : Prop where
 here : w'.heap[r]? = some (.cells cells' t fr)
 size : w'.heap.size = w.heap.size
 else_ : ∀ k, k ≠ r → w'.heap[k]? = w.heap[k]?
 os : w'.os = w.os
 tape : w'.tape = w.tape
 output : w'.output = w.output
theorem Turned.shape {w w' : World} {r : Nat} {cells cells' : Array Value} {t : TypeId} {fr : Nat × Nat} (T : Turned w w' r cells' t fr) (h : w.heap[r]? = some (.cells cells t fr)) {o : Nat} {vs : List Value} (hs : cells'.toList = setAt cells.toList o vs) :
   ∀ cells₁ t₁ fr₁, w.heap[r]? = some (.cells cells₁ t₁ fr₁) → ∃ cells₂, w'.heap[r]? = some (.cells cells₂ t₁ fr₁) ∧ cells₂.size = cells₁.size := by
 intro c1 t1 f1 h1
 rw [h] at h1; cases h1
 refine ⟨cells', T.here, ?_⟩
 have := congrArg List.length hs
 rw [setAt_length] at this
 simpa using this
theorem array_set_toList (a : Array Value) (o : Nat) (v : Value) : (a.setIfInBounds o v).toList = a.toList.set o v := by simp
theorem setAt_cons_set : ∀ (l : List Value) (o : Nat) (v : Value) (vs : List Value), setAt (l.set o v) (o + 1) vs = setAt l o (v :: vs)
 | [], 0, v, [] => rfl
 | [], 0, v, _ :: _ => rfl
 | [], o + 1, v, [] => rfl
 | [], o + 1, v, _ :: _ => rfl
 | x :: l, 0, v, [] => by cases l <;> rfl
 | x :: l, 0, v, w :: ws => by cases l <;> rfl
 | x :: l, o + 1, v, [] => by
   show x :: setAt (l.set o v) (o + 1) [] = x :: setAt l o [v]
   rw [setAt_cons_set l o v []]
 | x :: l, o + 1, v, w :: ws => by
   show x :: setAt (l.set o v) (o + 1) (w :: ws) = x :: setAt l o (v :: w :: ws)
   rw [setAt_cons_set l o v (w :: ws)]
theorem setAt_nil : ∀ (l : List Value) (o : Nat), setAt l o [] = l
 | [], 0 => rfl
 | [], _ + 1 => rfl
 | _ :: _, 0 => rfl
 | x :: l, o + 1 => by show x :: setAt l o [] = _; rw [setAt_nil l o]
theorem run_storeCells {P : Program} {r : Nat} {t : TypeId} {fr : Nat × Nat} : ∀ (vs : List Value) (o i : Nat) (cells : Array Value) (w : World), w.heap[r]? = some (.cells cells t fr) → o + i + vs.length ≤ cells.size → Thaw cells fr → (∀ v ∈ vs, v.oneCell' = true) →
   ∃ w' cells', (storeCells ⟨r, o, none⟩ vs i).run P w = .ok () w' ∧ cells'.toList = setAt cells.toList (o + i) vs ∧ Turned w w' r cells' t fr
 | [], o, i, cells, w, h, _, _, _ => ⟨w, cells, rfl, by rw [setAt_nil], h, rfl, fun _ _ => rfl, rfl, rfl, rfl⟩
 | v :: vs, o, i, cells, w, h, hs, hf, hv => by
   simp only [List.length_cons] at hs
   have hc : w.cell? ((⟨r, o, none⟩ : Addr).add i) = some (cells[o + i]'(by omega)) := by
     rw [add_off, cellOf h]; exact Array.getElem?_eq_getElem (by omega)
   have hz : w.frozen? ((⟨r, o, none⟩ : Addr).add i) = false := by
     rw [add_off, frozenOf h]
     have := hf (o + i) (by omega)
     by_cases g1 : fr.1 ≤ o + i
     · have g2 : ¬ o + i < fr.2 := fun g2 => this ⟨g1, g2⟩
       simp [g2]
     · simp [g1]
   have h1 : (w.setCell ((⟨r, o, none⟩ : Addr).add i) v).heap[r]? = some (.cells (cells.setIfInBounds (o + i) v) t fr) := by rw [add_off]; exact setCell_heap h _ _
   obtain ⟨w', cells', e1, e2, e3⟩ := run_storeCells (P := P) vs o (i + 1) _ _ h1 (by simp; omega) (fun q hq => hf q (by simpa using hq)) (fun u hu => hv u (by simp [hu]))
   refine ⟨w', cells', ?_, ?_, ?_⟩
   · simp only [storeCells, Sem.run_bind]
     rw [run_store P w _ v .plain (hv v (by simp)), hc]
     simp only [hz, Bool.false_eq_true, if_false, Result.andThen]
     exact e1
   · rw [e2, array_set_toList, ← setAt_cons_set]; rfl
   · refine ⟨e3.here, ?_, fun k hk => ?_, e3.os, e3.tape, e3.output⟩
     · rw [e3.size]; simp [World.setCell]
     · rw [e3.else_ k hk, add_off]; exact setCell_else hk
theorem run_loadCells_at {P : Program} {w : World} {r o n : Nat} {cells : Array Value} {t : TypeId} {fr : Nat × Nat} (h : w.heap[r]? = some (.cells cells t fr)) (vs : List Value) (hn : vs.length = n) (hv : ∀ j v, vs[j]? = some v → cells[o + j]? = some v) :
   (loadCells ⟨r, o, none⟩ n).run P w = .ok vs.toArray w := by
 subst hn
 exact run_loadCells_list w _ vs (fun j v hj => by rw [add_off, cellOf h]; exact hv j v hj)
theorem size_info {P : Program} {t : TypeId} {d : TypeDesc} (h : P.underlying t = some d) : ∃ i, P.info? t = some i ∧ sizeOf? P t = i.size := by
 unfold Program.underlying at h
 cases hi : P.info? t with
 | none => rw [hi] at h; cases h
 | some i => exact ⟨i, rfl, by simp [sizeOf?, hi]⟩
theorem run_sizeOf' {P : Program} {t : TypeId} {d : TypeDesc} (h : P.underlying t = some d) (w : World) : (sizeOf t).run P w = .ok (sizeOf? P t) w := by
 obtain ⟨i, hi, hs⟩ := size_info h
 simp [sizeOf, typeInfo, hi, hs]
theorem run_und {P : Program} {t : TypeId} {d : TypeDesc} (h : P.underlying t = some d) (w : World) : (underlying t).run P w = .ok d w := by
 simp [underlying, h]
/-! ### The plain operations: what the evaluator's plan says of each is what the machine does. No condition beyond those that stand in each. -/

theorem All2.map_s (bl : Nat → Option Blk) (μ : Lay) : ∀ l : List Value, (l.all fun v => !isAggV v) = true → All2 (RC bl μ) (l.map .s) l
 | [], _ => .nil
 | v :: l, h => by
   simp only [List.all_cons, Bool.and_eq_true] at h
   exact .cons ⟨rfl, by simpa using h.1⟩ (All2.map_s bl μ l h.2)
theorem RL.const (bl : Nat → Option Blk) (μ : Lay) (v : Value) : RL bl μ (ofConst v) v := by
 cases v with
 | agg cs =>
   simp only [ofConst]
   split
   · rename_i h; exact ⟨cs, rfl, All2.map_s bl μ _ h⟩
   · trivial
 | tuple _ => trivial
 | _ => exact ⟨rfl, rfl⟩
section
variable {N : Nat} {W0 : World} {M : Fr} {st : St} {μ : Lay} {a : Act} {w : World} {E : Env}
theorem Inv.val (h : Inv N W0 M st μ a w) (x : Operand) : RL st.bl μ (st.val x) (a.eval x) := by
 cases x with
 | tmp t => exact h.tm t
 | const v => exact RL.const _ _ v
 | global _ => trivial
 | func _ => trivial
def OpOk (N : Nat) (W0 : World) (M : Fr) (P : Program) (st : St) (μ : Lay) (a : Act) (w : World) (s : Sem Next) (v : LV) (wr : List (Nat × Blk)) : Prop :=
 ∃ nx x w' μ', s.run P w = .ok nx w' ∧ (nx = .value x ∨ (nx = .skip ∧ x = undef)) ∧ Inv N W0 M ⟨st.tm, updL st.bl wr⟩ μ' a w' ∧ RL (updL st.bl wr) μ' v x
theorem opStill {P : Program} {s : Sem Value} {x : Value} {v : LV} (h : Inv N W0 M st μ a w) (hr : s.run P w = .ok x w) (hv : RL st.bl μ v x) :
   OpOk N W0 M P st μ a w (do pure (.value (← s))) v [] :=
 ⟨.value x, x, w, μ, by simp [hr], .inl rfl, h, hv⟩
theorem opV {P : Program} {s : Sem Value} {x : Value} {v : LV} {wr : List (Nat × Blk)} {w' : World} {μ' : Lay} (hr : s.run P w = .ok x w') (h : Inv N W0 M ⟨st.tm, updL st.bl wr⟩ μ' a w') (hv : RL (updL st.bl wr) μ' v x) :
   OpOk N W0 M P st μ a w (do pure (.value (← s))) v wr :=
 ⟨.value x, x, w', μ', by simp [hr], .inl rfl, h, hv⟩
theorem still_eq {v : LV} {ids : List Nat} {f : List (Option Blk) → Option Out} (h : still v = some (ids, f)) : ids = [] ∧ f = fun _ => some (true, v, []) := by
 unfold still at h; cases h; exact ⟨rfl, rfl⟩
theorem when_eq {g : Bool} {v : LV} {ids : List Nat} {f : List (Option Blk) → Option Out} (h : when_ g v = some (ids, f)) : ids = [] ∧ f = fun _ => some (g, v, []) := by
 unfold when_ at h; cases h; exact ⟨rfl, rfl⟩
/-- What a value operation is to show. -/
def Does (N : Nat) (W0 : World) (M : Fr) (P : Program) (st : St) (μ : Lay) (a : Act) (w : World) (s : Sem Value) (p : Option Plan) : Prop :=
 ∀ ids f v wr, p = some (ids, f) → f (ids.map st.bl) = some (true, v, wr) → OpOk N W0 M P st μ a w (do pure (.value (← s))) v wr
theorem Does.still {P : Program} {s : Sem Value} {x : Value} {u : LV} (h : Inv N W0 M st μ a w) (hr : s.run P w = .ok x w) (hu : RL st.bl μ u x) : Does N W0 M P st μ a w s (Go.Ev.still u) := by
 intro ids f v wr hp hf
 obtain ⟨rfl, rfl⟩ := still_eq hp
 cases hf
 exact opStill h hr hu
theorem Does.when {P : Program} {s : Sem Value} {g : Bool} {u : LV} (h : Inv N W0 M st μ a w) (hr : g = true → ∃ x, s.run P w = .ok x w ∧ RL st.bl μ u x) : Does N W0 M P st μ a w s (when_ g u) := by
 intro ids f v wr hp hf
 obtain ⟨rfl, rfl⟩ := when_eq hp
 simp only [Option.some.injEq, Prod.mk.injEq] at hf
 obtain ⟨rfl, rfl, rfl⟩ := hf
 obtain ⟨x, h1, h2⟩ := hr rfl
 exact opStill h h1 h2
theorem Does.none {P : Program} {s : Sem Value} : Does N W0 M P st μ a w s none := fun _ _ _ _ hp => by cases hp
-- numbers, strings, bools
theorem RL.int' {bl : Nat → Option Blk} {k : IntKind} {n : Int} {x : Value} (h : RL bl μ (.c (.s (.int k n))) x) : x = .int k n := h.1
theorem RL.str' {bl : Nat → Option Blk} {s : ByteArray} {x : Value} (h : RL bl μ (.c (.s (.string s))) x) : x = .string s := h.1
theorem RL.bool' {bl : Nat → Option Blk} {b : Bool} {x : Value} (h : RL bl μ (.c (.s (.bool b))) x) : x = .bool b := h.1
theorem bytes_eq (x y : ByteArray) : (x.toList == y.toList) = decide (x = y) := by
 by_cases e : x = y
 · subst e; simp
 · simp only [e, decide_false, beq_eq_false_iff_ne, ne_eq]
   intro h
   apply e
   have h1 : x.data.toList = y.data.toList := by
     have := h
     simpa [ByteArray.toList_eq] using this
   cases x; cases y
   simp only [ByteArray.mk.injEq]
   exact Array.ext' h1
-- comparisons and sums
theorem guard_int (op : BinOp) (t : TypeId) (x y : Operand) (k k' : IntKind) (m n : Int) (P : Program) (w : World) : (eqGuard op t x y (.int k m) (.int k' n)).run P w = .ok () w := by cases op <;> rfl
theorem guard_str (op : BinOp) (t : TypeId) (x y : Operand) (m n : ByteArray) (P : Program) (w : World) : (eqGuard op t x y (.string m) (.string n)).run P w = .ok () w := by cases op <;> rfl
theorem guard_bool (op : BinOp) (t : TypeId) (x y : Operand) (m n : Bool) (P : Program) (w : World) : (eqGuard op t x y (.bool m) (.bool n)).run P w = .ok () w := by cases op <;> rfl
theorem beq_dec (a b : Int) : (a == b) = decide (a = b) := by
 by_cases h : a = b <;> simp [h]
theorem bne_dec (a b : Int) : (a != b) = !decide (a = b) := by
 by_cases h : a = b <;> simp [h]
theorem run_intBin {op : BinOp} {k : IntKind} {m n : Int} {g : Bool} {v : Value} (h : intBin op k m n = some (g, v)) (hg : g = true) (t : TypeId) (P : Program) (w : World) : (binOp op t (.int k m) (.int k n)).run P w = .ok v w := by
 subst hg
 cases op <;> simp only [intBin, Option.some.injEq, Prod.mk.injEq, reduceCtorEq, Bool.not_eq_true', decide_eq_false_iff_not, true_and] at h
 case quo =>
   obtain ⟨h1, rfl⟩ := h
   simp [binOp, Op.intDiv, h1]
 case rem =>
   obtain ⟨h1, rfl⟩ := h
   simp [binOp, Op.intDiv, h1]
 all_goals
   subst h
   first
     | (simp [binOp, Op.intArith]; done)
     | (simp [binOp, Op.intBits]; done)
     | (simp [binOp, Op.intCmp, beq_dec, bne_dec]; done)
     | (simp [binOp, Op.intCmp]; done)
theorem run_strBin {op : BinOp} {m n : ByteArray} {g : Bool} {v : Value} (h : strBin op m n = some (g, v)) (hg : g = true) (t : TypeId) (P : Program) (w : World) : (binOp op t (.string m) (.string n)).run P w = .ok v w := by
 subst hg
 cases op <;> simp only [strBin, Option.some.injEq, Prod.mk.injEq, reduceCtorEq, decide_eq_true_eq, true_and] at h
 case add =>
   obtain ⟨h1, rfl⟩ := h
   have : ¬ (((m.size + n.size : Nat) : Int) > IntKind.i64.max) := by rw [IntKind.max_i64]; omega
   simp only [binOp, Op.stringOp]
   rw [if_neg this]; rfl
 all_goals
   subst h
   simp [binOp, Op.stringOp, bytes_eq]
theorem intBin_flat {op : BinOp} {k : IntKind} {m n : Int} {g : Bool} {v : Value} (h : intBin op k m n = some (g, v)) : isAggV v = false := by
 cases op <;> simp only [intBin, Option.some.injEq, Prod.mk.injEq, reduceCtorEq] at h <;> (obtain ⟨_, rfl⟩ := h; rfl)
theorem strBin_flat {op : BinOp} {m n : ByteArray} {g : Bool} {v : Value} (h : strBin op m n = some (g, v)) : isAggV v = false := by
 cases op <;> simp only [strBin, Option.some.injEq, Prod.mk.injEq, reduceCtorEq] at h <;> (obtain ⟨_, rfl⟩ := h; rfl)
def eqVals : List Sc → List Value → List Value → Option Bool
 | [], [], [] => some true
 | [c], [a], [b] => eqVal c a b
 | c :: cs, a :: xs, b :: ys =>
   match eqVal c a b, eqVals cs xs ys with
   | some p, some q => some (p && q)
   | _, _ => none
 | _, _, _ => none
theorem eqCells_vals {bl : Nat → Option Blk} : ∀ (cs : List Sc) (xs ys : List Cell) (l m : List Value) (b : Bool), eqCells cs xs ys = some b → All2 (RC bl μ) xs l → All2 (RC bl μ) ys m → eqVals cs l m = some b
 | [], [], [], _, _, b, h, .nil, .nil => h
 | [c], [.s u], [.s v], _, _, b, h, .cons h1 .nil, .cons h2 .nil => by
   rw [h1.1, h2.1]
   exact h
 | c :: d :: cs, .s u :: xs, .s v :: ys, _, _, b, h, .cons h1 h5, .cons h2 h6 => by
   rw [h1.1, h2.1]
   simp only [eqCells] at h
   cases he : eqVal c u v with
   | none => rw [he] at h; cases h
   | some p =>
     rw [he] at h
     cases hc : eqCells (d :: cs) xs ys with
     | none => rw [hc] at h; cases h
     | some q =>
       rw [hc] at h
       have := eqCells_vals (d :: cs) xs ys _ _ q hc h5 h6
       simp only [eqVals, he, this]
       exact h
 | [c], .s u :: x :: xs, .s v :: ys, _, _, b, h, _, _ => by
   simp only [eqCells] at h; split at h <;> simp_all [eqCells]
 | [c], [.s u], .s v :: y :: ys, _, _, b, h, _, _ => by
   simp only [eqCells] at h; split at h <;> simp_all [eqCells]
 | [], _ :: _, _, _, _, _, h, _, _ => by simp [eqCells] at h
 | [], [], _ :: _, _, _, _, h, _, _ => by simp [eqCells] at h
 | c :: _, [], _, _, _, _, h, _, _ => by simp [eqCells] at h
 | c :: _, .s _ :: _, [], _, _, _, h, _, _ => by simp [eqCells] at h
 | c :: _, .ptr .. :: _, _, _, _, _, h, _, _ => by simp [eqCells] at h
 | c :: _, .sl _ :: _, _, _, _, _, h, _, _ => by simp [eqCells] at h
 | c :: _, .sub .. :: _, _, _, _, _, h, _, _ => by simp [eqCells] at h
 | c :: _, .any :: _, _, _, _, _, h, _, _ => by simp [eqCells] at h
 | c :: _, .s _ :: _, .ptr .. :: _, _, _, _, h, _, _ => by simp [eqCells] at h
 | c :: _, .s _ :: _, .sl _ :: _, _, _, _, h, _, _ => by simp [eqCells] at h
 | c :: _, .s _ :: _, .sub .. :: _, _, _, _, h, _, _ => by simp [eqCells] at h
 | c :: _, .s _ :: _, .any :: _, _, _, _, h, _, _ => by simp [eqCells] at h
theorem flatScs_cons {P : Program} {i : Nat} {f : Field} {fs : List Field} {cs : List Sc} (h : flatScs P i (f :: fs) = some cs) : f.offset = i ∧ ∃ c ds, cs = c :: ds ∧ flatScs P (i + 1) fs = some ds ∧ (∀ v u b, eqVal c v u = some b → ∀ (d : Nat) (w : World), (Op.equalIn (d + 1) f.type v u).run P w = .ok b w) ∧ ∀ (xs : Array Value) (v : Value) (w : World), xs[f.offset]? = some v → (Go.part f.type xs f.offset).run P w = .ok v w := by
 simp only [flatScs] at h
 split at h
 · rename_i k ds h1 h2 h3
   cases h
   refine ⟨Nat.eq_of_beq_eq_true h1, _, _, rfl, h3, fun v u b hv d w => ?_, fun xs v w hx => by simp [Go.part, isAgg, run_underlying h2, hx]⟩
   cases v <;> cases u <;> simp only [eqVal, reduceCtorEq] at hv
   rename_i k1 x k2 y
   split at hv
   · rename_i e1; subst e1
     split at hv
     · rename_i e2; subst e2
       cases hv
       rw [run_equalIn_int w d f.type k k x y h2, beq_dec]
     · cases hv
   · cases hv
 · rename_i ds h1 h2 h3
   cases h
   refine ⟨Nat.eq_of_beq_eq_true h1, _, _, rfl, h3, fun v u b hv d w => ?_, fun xs v w hx => by simp [Go.part, isAgg, run_underlying h2, hx]⟩
   cases v <;> cases u <;> simp only [eqVal, reduceCtorEq] at hv
   rename_i x y
   cases hv
   exact run_equalIn_bool' w d f.type x y h2
 · rename_i ds h1 h2 h3
   cases h
   refine ⟨Nat.eq_of_beq_eq_true h1, _, _, rfl, h3, fun v u b hv d w => ?_, fun xs v w hx => by simp [Go.part, isAgg, run_underlying h2, hx]⟩
   cases v <;> cases u <;> simp only [eqVal, reduceCtorEq] at hv
   rename_i x y
   cases hv
   rw [run_equalIn_string w d f.type x y h2, bytes_eq]
 · cases h
theorem eqVals_cons {c : Sc} {cs : List Sc} {l m : List Value} {b : Bool} (h : eqVals (c :: cs) l m = some b) : ∃ x xs y ys p q, l = x :: xs ∧ m = y :: ys ∧ eqVal c x y = some p ∧ eqVals cs xs ys = some q ∧ b = (p && q) := by
 cases l with
 | nil => simp [eqVals] at h
 | cons x xs =>
   cases m with
   | nil => simp [eqVals] at h
   | cons y ys =>
     have key : ∀ p q, eqVal c x y = some p → eqVals cs xs ys = some q → b = (p && q) → ∃ x' xs' y' ys' p q, x :: xs = x' :: xs' ∧ y :: ys = y' :: ys' ∧ eqVal c x' y' = some p ∧ eqVals cs xs' ys' = some q ∧ b = (p && q) := fun p q h1 h2 h3 => ⟨_, _, _, _, p, q, rfl, rfl, h1, h2, h3⟩
     cases cs with
     | nil =>
       cases xs with
       | nil =>
         cases ys with
         | nil => exact key b true h rfl (by simp)
         | cons _ _ => simp only [eqVals] at h; split at h <;> simp_all [eqVals]
       | cons _ _ => simp only [eqVals] at h; split at h <;> simp_all [eqVals]
     | cons d cs =>
       simp only [eqVals] at h
       split at h
       · rename_i p q h1 h2; cases h; exact key p q h1 h2 rfl
       · cases h
theorem run_eqFields {P : Program} : ∀ (fs : List Field) (i : Nat) (cs : List Sc) (l m : Array Value) (b : Bool) (d : Nat) (w : World), flatScs P i fs = some cs → (fs.all fun f => f.name != "_") = true → eqVals cs (l.toList.drop i) (m.toList.drop i) = some b →
   (Op.eqFields (d + 1) l m fs).run P w = .ok b w
 | [], i, cs, l, m, b, d, w, h, _, hv => by
   simp only [flatScs, Option.some.injEq] at h
   subst h
   have : b = true := by
     generalize l.toList.drop i = x at hv
     generalize m.toList.drop i = y at hv
     cases x <;> cases y <;> simp [eqVals] at hv
     exact hv
   subst this
   rfl
 | f :: fs, i, cs, l, m, b, d, w, h, hn, hv => by
   obtain ⟨h1, c, ds, rfl, h2, h3, h4⟩ := flatScs_cons h
   subst h1
   obtain ⟨x, xs, y, ys, p, q, e1, e2, e3, e4, rfl⟩ := eqVals_cons hv
   simp only [List.all_cons, Bool.and_eq_true] at hn
   have hname : f.name ≠ "_" := by simpa using hn.1
   have g1 : l[f.offset]? = some x := by
     have : (l.toList.drop f.offset)[0]? = some x := by rw [e1]; rfl
     rw [List.getElem?_drop] at this; simpa using this
   have g2 : m[f.offset]? = some y := by
     have : (m.toList.drop f.offset)[0]? = some y := by rw [e2]; rfl
     rw [List.getElem?_drop] at this; simpa using this
   have g3 : l.toList.drop (f.offset + 1) = xs := by
     rw [← List.drop_drop, e1]; rfl
   have g4 : m.toList.drop (f.offset + 1) = ys := by
     rw [← List.drop_drop, e2]; rfl
   have ih := run_eqFields fs (f.offset + 1) ds l m q d w h2 hn.2 (by rw [g3, g4]; exact e4)
   simp only [Op.eqFields, if_pos hname, Sem.run_bind, h4 l x w g1, h4 m y w g2, h3 x y p e3 d w, Result.andThen_ok]
   cases p with
   | true => simpa using ih
   | false => simp
/-- Structs of this type are compared cell by cell. -/
theorem eq_ok {P : Program} {t : TypeId} (hf : eqFree P t = true) {cs : List Sc} (hs : eqScs P t = some cs) (l m : Array Value) (b : Bool) (hv : eqVals cs l.toList m.toList = some b) (x y : Operand) (w : World) :
   (eqGuard .eql t x y (.agg l) (.agg m)).run P w = .ok () w ∧ (eqGuard .neq t x y (.agg l) (.agg m)).run P w = .ok () w ∧ (Op.equal t (.agg l) (.agg m)).run P w = .ok b w := by
 simp only [eqFree, Bool.and_eq_true, Bool.not_eq_true'] at hf
 obtain ⟨⟨h1, h2⟩, h3⟩ := hf
 refine ⟨run_eqGuard_agg w _ _ _ _ _ _ h2, run_eqGuard_agg w _ _ _ _ _ _ h2, ?_⟩
 unfold eqScs at hs
 split at hs
 · rename_i fs hu
   rw [hu] at h3
   have hfs : P.fieldsOf t = fs := by simp [Program.fieldsOf, hu]
   show (Op.equalIn (9999 + 1) t (.agg l) (.agg m)).run P w = _
   rw [run_equalIn_agg w 9999 t l m (by rw [hfs]; exact hu) h1, hfs]
   exact run_eqFields fs.toList 0 cs l m b 9998 w hs h3 (by simpa using hv)
 · cases hs
theorem run_equalInBool {P : Program} {t : TypeId} (hT : P.underlying t = some .bool) (m n : Bool) (w : World) (d : Nat) : (Op.equalIn (d + 1) t (.bool m) (.bool n)).run P w = .ok (m == n) w := by
 simp only [Op.equalIn, Sem.run_bind, run_und hT, Result.andThen_ok]
 rfl
theorem run_equalBool {P : Program} {t : TypeId} (hT : P.underlying t = some .bool) (m n : Bool) (w : World) : (Op.equal t (.bool m) (.bool n)).run P w = .ok (m == n) w := run_equalInBool hT m n w 9999
theorem run_eqlBool {P : Program} {t : TypeId} (hT : P.underlying t = some .bool) (m n : Bool) (w : World) : (binOp .eql t (.bool m) (.bool n)).run P w = .ok (.bool (m == n)) w := by
 show (do pure (Value.bool (← Op.equal t (.bool m) (.bool n))) : Sem Value).run P w = _
 simp only [Sem.run_bind, run_equalBool hT, Result.andThen_ok, Sem.run_pure]
theorem run_neqBool {P : Program} {t : TypeId} (hT : P.underlying t = some .bool) (m n : Bool) (w : World) : (binOp .neq t (.bool m) (.bool n)).run P w = .ok (.bool (!(m == n))) w := by
 show (do pure (Value.bool (!(← Op.equal t (.bool m) (.bool n)))) : Sem Value).run P w = _
 simp only [Sem.run_bind, run_equalBool hT, Result.andThen_ok, Sem.run_pure]
theorem run_eqlAgg {P : Program} {t : TypeId} {l m : Array Value} {b : Bool} {w : World} (h : (Op.equal t (.agg l) (.agg m)).run P w = .ok b w) : (binOp .eql t (.agg l) (.agg m)).run P w = .ok (.bool b) w := by
 show (do pure (Value.bool (← Op.equal t (.agg l) (.agg m))) : Sem Value).run P w = _
 simp only [Sem.run_bind, h, Result.andThen_ok, Sem.run_pure]
theorem run_neqAgg {P : Program} {t : TypeId} {l m : Array Value} {b : Bool} {w : World} (h : (Op.equal t (.agg l) (.agg m)).run P w = .ok b w) : (binOp .neq t (.agg l) (.agg m)).run P w = .ok (.bool (!b)) w := by
 show (do pure (Value.bool (!(← Op.equal t (.agg l) (.agg m)))) : Sem Value).run P w = _
 simp only [Sem.run_bind, h, Result.andThen_ok, Sem.run_pure]
theorem bin_does (hE : ∀ t ∈ E.eqs, eqFree E.P t = true) (h : Inv N W0 M st μ a w) (op : BinOp) (t : TypeId) (ox oy : Operand) {u v : LV} {x y : Value} (hu : RL st.bl μ u x) (hv : RL st.bl μ v y) :
   Does N W0 M E.P st μ a w (do eqGuard op t ox oy x y; binOp op t x y) (planBin E op t u v) := by
 unfold planBin
 split
 · rename_i k m k' n
   obtain rfl := RL.int' hu; obtain rfl := RL.int' hv
   split
   · refine Does.when (g := decide (0 ≤ n)) h fun hg => ⟨_, ?_, rfl, rfl⟩
     have hn : ¬ n < 0 := by have := of_decide_eq_true hg; omega
     simp [guard_int, binOp, Op.shift, hn]
   · refine Does.when (g := decide (0 ≤ n)) h fun hg => ⟨_, ?_, rfl, rfl⟩
     have hn : ¬ n < 0 := by have := of_decide_eq_true hg; omega
     simp [guard_int, binOp, Op.shift, hn]
   · split
     · rename_i hk; subst hk
       split
       · rename_i g z hz
         exact Does.when h fun hg => ⟨z, by simp [guard_int, run_intBin hz hg], rfl, intBin_flat hz⟩
       · exact Does.none
     · exact Does.none
 · rename_i m n
   obtain rfl := RL.str' hu; obtain rfl := RL.str' hv
   split
   · rename_i g z hz
     exact Does.when h fun hg => ⟨z, by simp [guard_str, run_strBin hz hg], rfl, strBin_flat hz⟩
   · exact Does.none
 · rename_i m n
   obtain rfl := RL.bool' hu; obtain rfl := RL.bool' hv
   split
   · rename_i hT
     refine Does.still h (x := .bool (m == n)) ?_ ⟨rfl, rfl⟩
     simp only [Sem.run_bind, guard_bool, Result.andThen_ok, run_eqlBool hT]
   · rename_i hT
     refine Does.still h (x := .bool (!(m == n))) ?_ ⟨rfl, rfl⟩
     simp only [Sem.run_bind, guard_bool, Result.andThen_ok, run_neqBool hT]
   · exact Does.none
 · rename_i xs ys
   obtain ⟨l, rfl, h1⟩ := hu; obtain ⟨m, rfl, h2⟩ := hv
   split
   · rename_i ht
     split
     · rename_i cs hcs
       split
       · rename_i b hb
         have hq := eq_ok (hE t (by simpa using ht)) hcs l m b (eqCells_vals cs xs ys _ _ b hb h1 h2) ox oy w
         split
         · refine Does.still h (x := .bool b) ?_ ⟨rfl, rfl⟩
           simp only [Sem.run_bind, hq.1, Result.andThen_ok, run_eqlAgg hq.2.2]
         · refine Does.still h (x := .bool (!b)) ?_ ⟨rfl, rfl⟩
           simp only [Sem.run_bind, hq.2.1, Result.andThen_ok, run_neqAgg hq.2.2]
         · exact Does.none
       · exact Does.none
     · exact Does.none
   · exact Does.none
 · exact Does.none
theorem un_does {P : Program} (h : Inv N W0 M st μ a w) (op : UnOp) {u : LV} {x : Value} (hu : RL st.bl μ u x) : Does N W0 M P st μ a w (Op.unary op x) (planUn op u) := by
 unfold planUn
 split
 · obtain rfl := RL.bool' hu
   split
   · exact Does.still h (x := .bool _) rfl ⟨rfl, rfl⟩
   · exact Does.none
 · obtain rfl := RL.int' hu
   split
   · exact Does.still h (x := .int _ _) rfl ⟨rfl, rfl⟩
   · exact Does.none
 · exact Does.none
theorem min_does {P : Program} (h : Inv N W0 M st μ a w) {u v : LV} {x y : Value} (ts : Array TypeId) (t : TypeId) (hu : RL st.bl μ u x) (hv : RL st.bl μ v y) : Does N W0 M P st μ a w (Builtin.min_ ts t #[x, y]) (planMin u v) := by
 unfold planMin
 split
 · obtain rfl := RL.int' hu; obtain rfl := RL.int' hv
   exact Does.still h (x := .int _ _) rfl ⟨rfl, rfl⟩
 · exact Does.none
theorem max_does {P : Program} (h : Inv N W0 M st μ a w) {u v : LV} {x y : Value} (ts : Array TypeId) (t : TypeId) (hu : RL st.bl μ u x) (hv : RL st.bl μ v y) : Does N W0 M P st μ a w (Builtin.max_ ts t #[x, y]) (planMax u v) := by
 unfold planMax
 split
 · obtain rfl := RL.int' hu; obtain rfl := RL.int' hv
   exact Does.still h (x := .int _ _) rfl ⟨rfl, rfl⟩
 · exact Does.none
end
/-! ### Operations on memory: addresses, loads, stores, what is made. No condition beyond those that stand in each. -/
section
variable {N : Nat} {W0 : World} {M : Fr} {st : St} {μ : Lay} {a : Act} {w : World} {P : Program}

theorem scs_some {t : TypeId} {cs : List Sc} (h : scs? P t = some cs) : cs ≠ [] ∧ sizeOf? P t = cs.length ∧ bytesOf? P t ≤ 64 ∧ ∃ i, P.info? t = some i ∧ i.size = cs.length ∧ i.bytes ≤ 64 := by
 unfold scs? at h
 split at h
 · rename_i c l hs
   split at h
   · rename_i hb
     cases h
     simp only [Bool.and_eq_true] at hb
     have h1 := Nat.eq_of_beq_eq_true hb.1
     have h2 := Nat.le_of_ble_eq_true hb.2
     refine ⟨by simp, by simpa using h1, h2, ?_⟩
     unfold sizeOf? at h1
     unfold bytesOf? at h2
     cases hi : P.info? t with
     | none => rw [hi] at h1; simp at h1
     | some i => rw [hi] at h1 h2; simp at h1 h2; exact ⟨i, rfl, by simpa using h1, h2⟩
   · cases h
 · cases h
theorem run_size_scs {t : TypeId} {cs : List Sc} (h : scs? P t = some cs) (w : World) : (sizeOf t).run P w = .ok cs.length w := by
 obtain ⟨_, _, _, i, hi, hs, _⟩ := scs_some h
 simp [sizeOf, typeInfo, hi, hs]
theorem All2.at {α β : Type} {R : α → β → Prop} {l : List α} {m : List β} (h : All2 R l m) {i : Nat} {x : α} {y : β} (hx : l[i]? = some x) (hy : m[i]? = some y) : R x y := by
 obtain ⟨z, hz, hr⟩ := h.get i x hx
 rw [hy] at hz; cases hz; exact hr
theorem RC.flat {bl : Nat → Option Blk} {y : Cell} {x : Value} (h : RC bl μ y x) (hy : y ≠ .any) : isAggV x = false := by
 cases y with
 | s v => obtain ⟨rfl, h⟩ := h; exact h
 | ptr id i j => obtain ⟨b, m, _, _, rfl, _⟩ := h; rfl
 | sl id =>
   obtain ⟨b, len, _, h, _⟩ := h
   unfold SlOk at h
   split at h
   · rw [h.2]; rfl
   · rw [h.2]; rfl
 | sub id o n => obtain ⟨b, _, ⟨_, _, rfl, _⟩, _⟩ := h; rfl
 | any => exact absurd rfl hy
theorem cells_flat {x : Value} (h : isAggV x = false) : x.cells = #[x] := by
 cases x <;> first | rfl | simp [isAggV] at h
theorem RL.cells {bl : Nat → Option Blk} {v : LV} {x : Value} {ys : List Cell} (h : RL bl μ v x) (hc : v.cells = some ys) : All2 (RC bl μ) ys x.cells.toList := by
 cases v with
 | c y =>
   have hy : y ≠ .any ∧ ys = [y] := by
     cases y <;> simp only [LV.cells, Option.some.injEq, reduceCtorEq] at hc <;> exact ⟨by simp, hc.symm⟩
   obtain ⟨hy, rfl⟩ := hy
   have h' : RC bl μ y x := h
   rw [cells_flat (RC.flat h' hy)]
   exact .cons h' .nil
 | agg zs => simp only [LV.cells, Option.some.injEq] at hc; subst hc; obtain ⟨vs, rfl, h⟩ := h; exact h
 | arr cs xs => simp [LV.cells] at hc
 | tup l => simp [LV.cells] at hc
-- addresses
theorem fieldAt_eq {t : TypeId} {f off : Nat} {ft : TypeId} (h : fieldAt? P t f = some (off, ft)) : ∃ fs fd, P.underlying t = some (.struct fs) ∧ fs[f]? = some fd ∧ fd.offset = off ∧ fd.type = ft := by
 unfold fieldAt? at h
 split at h
 · rename_i fs hu
   split at h
   · rename_i fd hf; cases h; exact ⟨fs, fd, hu, hf, rfl, rfl⟩
   · cases h
 · cases h
theorem run_size_pos {t : TypeId} {n : Nat} (h : sizeOf? P t = n + 1) (w : World) : (sizeOf t).run P w = .ok (n + 1) w := by
 unfold sizeOf? at h
 cases hi : P.info? t with
 | none => rw [hi] at h; simp at h
 | some i => rw [hi] at h; simp at h; simp [sizeOf, typeInfo, hi, h]
theorem fieldAddr_does (h : Inv N W0 M st μ a w) (t : TypeId) (f : Nat) {u : LV} {x : Value} (hu : RL st.bl μ u x) : Does N W0 M P st μ a w (Instr.fieldAt t x f) (planFieldAddr P t f u) := by
 unfold planFieldAddr
 split
 · rename_i id i j
   obtain ⟨b, m, hb, hm, rfl, hi, hx⟩ := hu
   split
   · rename_i off ft hf
     obtain ⟨fs, fd, h1, h2, rfl, rfl⟩ := fieldAt_eq hf
     split
     · exact Does.none
     · rename_i hs
       obtain ⟨n, hn⟩ : ∃ n, sizeOf? P fd.type = n + 1 := by
         cases hq : sizeOf? P fd.type with
         | zero => exact absurd hq hs
         | succ n => exact ⟨n, rfl⟩
       refine Does.still h (x := .pointer (some ⟨m.r, m.off + i * m.st + (j + fd.offset), none⟩)) ?_ ⟨b, m, hb, hm, rfl, hi, hx⟩
       simp [Instr.fieldAt, run_und h1, h2, Instr.sureAddr, fieldPlace, run_size_pos hn, add_off, Nat.add_assoc]
   · exact Does.none
 · exact Does.none
theorem run_isAgg_struct {t : TypeId} {fs : Array Field} (h : P.underlying t = some (.struct fs)) (w : World) : (isAgg t).run P w = .ok true w := by simp [isAgg, run_und h]
theorem run_isAgg_array {t : TypeId} {n : Nat} {e : TypeId} (h : P.underlying t = some (.array n e)) (w : World) : (isAgg t).run P w = .ok true w := by simp [isAgg, run_und h]
theorem run_isAgg_other {t : TypeId} {d : TypeDesc} (h : P.underlying t = some d) (h1 : ∀ fs, d ≠ .struct fs) (h2 : ∀ n e, d ≠ .array n e) (w : World) : (isAgg t).run P w = .ok false w := by
 simp only [isAgg, Sem.run_bind, run_und h, Result.andThen_ok]
 cases d <;> first | rfl | exact absurd rfl (h1 _) | exact absurd rfl (h2 _ _)
theorem extract_toList (vs : Array Value) (i n : Nat) : (vs.extract i (i + n)).toList = (vs.toList.drop i).take n := by simp
theorem field_does (h : Inv N W0 M st μ a w) (t : TypeId) (f : Nat) {u : LV} {x : Value} (hu : RL st.bl μ u x) : Does N W0 M P st μ a w (Instr.field t x f) (planField P t f u) := by
 unfold planField
 split
 · rename_i xs
   obtain ⟨vs, rfl, hv⟩ := hu
   split
   · rename_i off ft hf
     obtain ⟨fs, fd, h1, h2, rfl, rfl⟩ := fieldAt_eq hf
     split
     · rename_i gs l hg
       refine Does.when h fun hb => ⟨.agg (vs.extract fd.offset (fd.offset + sizeOf? P fd.type)), ?_, _, rfl, ?_⟩
       · simp [Instr.field, run_und h1, h2, asAgg, Go.part, run_isAgg_struct hg, run_sizeOf' hg]
       · rw [extract_toList]; exact (hv.drop _).take _
     · rename_i n e l hg
       refine Does.when h fun hb => ⟨.agg (vs.extract fd.offset (fd.offset + sizeOf? P fd.type)), ?_, _, rfl, ?_⟩
       · simp [Instr.field, run_und h1, h2, asAgg, Go.part, run_isAgg_array hg, run_sizeOf' hg]
       · rw [extract_toList]; exact (hv.drop _).take _
     · rename_i d c hn1 hn2 hg hl
       have hx : xs[fd.offset]? = some c := by
         have : ((xs.drop fd.offset).take (sizeOf? P fd.type))[0]? = some c := by rw [hl]; rfl
         rw [List.getElem?_take] at this
         split at this
         · simpa using this
         · cases this
       obtain ⟨v, hv1, hv2⟩ := hv.get _ _ hx
       refine Does.still h (x := v) ?_ hv2
       have hv3 : vs[fd.offset]? = some v := by simpa using hv1
       simp [Instr.field, run_und h1, h2, asAgg, Go.part, run_isAgg_other hg hn1 hn2, hv3]
     · exact Does.none
   · exact Does.none
 · exact Does.none
end
/-! ### Operations on memory: loads and stores. No condition beyond those that stand in each. -/
section
variable {N : Nat} {W0 : World} {M : Fr} {st : St} {μ : Lay} {a : Act} {w : World} {P : Program}
theorem getD_some {α : Type} {xs : List α} {i : Nat} {d : α} (h : i < xs.length) : xs[i]? = some (xs.getD i d) := by
 simp [List.getD, List.getElem?_eq_getElem h]
theorem run_loadVar_one {t : TypeId} {d : TypeDesc} (h : P.underlying t = some d) (h1 : ∀ fs, d = .struct fs → False) (h2 : ∀ n e, d = .array n e → False) {ad : Addr} {v : Value} {w : World} (hc : w.cell? ad = some v) : (loadVar t ad).run P w = .ok v w := by
 simp [loadVar, run_isAgg_other h h1 h2, hc]
theorem load_does (h : Inv N W0 M st μ a w) (t : TypeId) {u : LV} {x : Value} (hu : RL st.bl μ u x) : Does N W0 M P st μ a w (Instr.loadAt t x) (planLoad P t u) := by
 unfold planLoad
 split
 · rename_i id i j
   obtain ⟨b, m, hb, hm, rfl, hi, hz⟩ := hu
   intro ids f v wr hp hf
   simp only [Option.some.injEq, Prod.mk.injEq] at hp
   obtain ⟨rfl, rfl⟩ := hp
   simp only [List.map_cons, List.map_nil, hb] at hf
   have hB := h.bl id b hb
   split at hf
   · -- a box
     rename_i xs heq
     simp only [List.cons.injEq, Option.some.injEq, and_true] at heq
     subst heq
     obtain ⟨m', cells, ty, fr, h1, h2, h3, h4, h5⟩ := hB
     rw [hm] at h1; cases h1
     have hi0 := hz xs rfl
     subst hi0
     have hlen := h5.len
     split at hf
     · rename_i fs hg
       simp only [Option.some.injEq, Prod.mk.injEq] at hf
       obtain ⟨hg1, rfl, rfl⟩ := hf
       have hle := Nat.le_of_ble_eq_true hg1
       refine opStill h (x := .agg ((cells.toList.drop j).take (sizeOf? P t)).toArray) ?_ ⟨_, rfl, by simpa using (h5.drop j).take _⟩
       have := run_loadCells_at (P := P) (o := j) (n := sizeOf? P t) h3 ((cells.toList.drop j).take (sizeOf? P t)) (by simp at hlen ⊢; omega) (fun q v hq => by
         rw [List.getElem?_take] at hq
         split at hq
         · simpa using hq
         · cases hq)
       simp [Instr.loadAt, Instr.sureAddr, loadVar, run_isAgg_struct hg, run_sizeOf' hg, h2, this]
     · cases hf
     · cases hf
     · rename_i d hn1 hn2 hg
       split at hf
       · rename_i y hy
         simp only [Option.some.injEq, Prod.mk.injEq, true_and] at hf
         obtain ⟨rfl, rfl⟩ := hf
         obtain ⟨v, hv1, hv2⟩ := h5.get j y hy
         refine opStill h (x := v) ?_ hv2
         have : w.cell? ⟨m.r, m.off + 0 * m.st + j, none⟩ = some v := by
           rw [cellOf h3, h2]; simpa using hv1
         simp only [Instr.loadAt, Instr.sureAddr, Sem.run_bind, Sem.run_pure, Result.andThen_ok]
         exact run_loadVar_one hg hn1 hn2 this
       · cases hf
   · -- a row
     rename_i k cs xs heq
     simp only [List.cons.injEq, Option.some.injEq, and_true] at heq
     subst heq
     obtain ⟨hcs, hB⟩ := hB
     rw [hm] at hB
     obtain ⟨hcap, hst, cells, ty, fr, h3, h4, h5, h6⟩ := hB
     have hlt := hi k cs xs rfl
     have hx := getD_some (d := dfl cs) hlt
     have hcell : ∀ q v, (enc cs (xs.getD i (dfl cs)))[q]? = some v → cells[m.off + i * m.st + q]? = some v := by
       intro q v hq
       have hqlt : q < cs.length := by
         rw [← enc_length cs (xs.getD i (dfl cs))]
         rcases Nat.lt_or_ge q (enc cs (xs.getD i (dfl cs))).length with g | g
         · exact g
         · rw [List.getElem?_eq_none g] at hq; cases hq
       have := flat_get (enc cs) cs.length (enc_length cs) xs i q _ hx hqlt
       rw [hst, Nat.add_assoc]
       exact h4 _ _ (by rw [this]; exact hq)
     split at hf
     · rename_i n e hg
       split at hf
       · rename_i ds hds
         split at hf
         · rename_i hdc
           obtain ⟨hdc, hsz⟩ := hdc
           subst hdc
           simp only [Option.some.injEq, Prod.mk.injEq, Bool.and_eq_true] at hf
           obtain ⟨⟨⟨g1, g2⟩, g3⟩, rfl, rfl⟩ := hf
           have g1 := Nat.eq_of_beq_eq_true g1
           have g2 := Nat.eq_of_beq_eq_true g2
           have g3 := Nat.eq_of_beq_eq_true g3
           subst g1 g2
           have hfl := flat_length (enc ds) ds.length (enc_length ds) xs
           have := run_loadCells_at (P := P) (o := m.off) (n := sizeOf? P t) h3 (xs.flatMap (enc ds)) (by rw [hfl, hsz, g3]) h4
           refine opStill h (x := .agg (xs.flatMap (enc ds)).toArray) ?_ rfl
           simp [Instr.loadAt, Instr.sureAddr, loadVar, run_isAgg_array hg, run_sizeOf' hg, this]
         · cases hf
       · cases hf
     · rename_i fs hg
       split at hf
       · rename_i ds hds
         split at hf
         · rename_i hdc
           subst hdc
           simp only [Option.some.injEq, Prod.mk.injEq] at hf
           obtain ⟨g2, rfl, rfl⟩ := hf
           have g2 := Nat.eq_of_beq_eq_true g2
           subst g2
           obtain ⟨_, hsz, _⟩ := scs_some hds
           refine opStill h (x := .agg (enc ds (xs.getD i (dfl ds))).toArray) ?_ ⟨_, rfl, by
             simp only [List.toList_toArray]
             exact All2.map_s _ _ _ (by simp only [List.all_eq_true]; intro v hv; have := enc_one ds _ v hv; cases v <;> simp_all [Value.oneCell', isAggV])⟩
           have := run_loadCells_at (P := P) (o := m.off + i * m.st) (n := ds.length) h3 (enc ds (xs.getD i (dfl ds))) (enc_length ds _) hcell
           simp [Instr.loadAt, Instr.sureAddr, loadVar, run_isAgg_struct hg, run_sizeOf' hg, hsz, this]
         · cases hf
       · cases hf
     · cases hf
     · rename_i d hn1 hn2 hg
       split at hf
       · rename_i y hy
         simp only [Option.some.injEq, Prod.mk.injEq, true_and] at hf
         obtain ⟨rfl, rfl⟩ := hf
         have hone := enc_one cs _ y (List.mem_of_getElem? hy)
         refine opStill h (x := y) ?_ ⟨rfl, by cases y <;> simp_all [Value.oneCell', isAggV]⟩
         have : w.cell? ⟨m.r, m.off + i * m.st + j, none⟩ = some y := by rw [cellOf h3]; exact hcell j y hy
         simp only [Instr.loadAt, Instr.sureAddr, Sem.run_bind, Sem.run_pure, Result.andThen_ok]
         exact run_loadVar_one hg hn2 hn1 this
       · cases hf
   · cases hf
 · exact Does.none
theorem flat_set {cs : List Sc} : ∀ (xs : List (RowT cs)) (i : Nat) (y : RowT cs) (j : Nat) (vs : List Value), i < xs.length → j + vs.length ≤ cs.length → enc cs y = setAt (enc cs (xs.getD i (dfl cs))) j vs →
   (xs.set i y).flatMap (enc cs) = setAt (xs.flatMap (enc cs)) (i * cs.length + j) vs
 | [], i, _, _, _, h, _, _ => by simp at h
 | x :: xs, 0, y, j, vs, _, hj, he => by
   simp only [List.set_cons_zero, List.flatMap_cons, Nat.zero_mul, Nat.zero_add]
   have he' : enc cs y = setAt (enc cs x) j vs := by simpa using he
   rw [he']
   apply List.ext_getElem?
   intro q
   rw [setAt_get]
   simp only [List.length_append, enc_length]
   by_cases hq : q < cs.length
   · rw [List.getElem?_append_left (by rw [setAt_length, enc_length]; exact hq), List.getElem?_append_left (by rw [enc_length]; exact hq), setAt_get, enc_length]
     congr 1
     simp only [eq_iff_iff]; omega
   · rw [List.getElem?_append_right (by rw [setAt_length, enc_length]; omega), List.getElem?_append_right (by rw [enc_length]; omega), setAt_length, enc_length, if_neg (by omega)]
 | x :: xs, i + 1, y, j, vs, h, hj, he => by
   simp only [List.set_cons_succ, List.flatMap_cons]
   have ih := flat_set xs i y j vs (by simpa using h) hj (by simpa using he)
   rw [ih]
   apply List.ext_getElem?
   intro q
   rw [setAt_get]
   simp only [List.length_append, enc_length]
   have e : (i + 1) * cs.length + j = cs.length + (i * cs.length + j) := by rw [Nat.succ_mul]; omega
   by_cases hq : q < cs.length
   · rw [List.getElem?_append_left (by rw [enc_length]; exact hq), List.getElem?_append_left (by rw [enc_length]; exact hq), if_neg (by omega)]
   · rw [List.getElem?_append_right (by rw [enc_length]; omega), List.getElem?_append_right (by rw [enc_length]; omega), setAt_get, enc_length]
     rw [e]
     have e2 : q - cs.length - (i * cs.length + j) = q - (cs.length + (i * cs.length + j)) := by omega
     rw [e2]
     congr 1
     simp only [eq_iff_iff]; omega
theorem storable_one {bl : Nat → Option Blk} {y : Cell} {v : Value} (h : RC bl μ y v) (hs : storable y = true) : v.oneCell' = true := by
 cases y with
 | s u =>
   obtain ⟨rfl, _⟩ := h
   cases v <;> simp [storable] at hs <;> rfl
 | ptr id i j => obtain ⟨b, m, _, _, rfl, _⟩ := h; rfl
 | sl id =>
   obtain ⟨b, len, _, h, _⟩ := h
   unfold SlOk at h
   split at h
   · rw [h.2]; rfl
   · rw [h.2]; rfl
 | sub id o n => obtain ⟨b, _, ⟨_, _, rfl, _⟩, _⟩ := h; rfl
 | any => simp [storable] at hs
theorem All2.one {bl : Nat → Option Blk} {ys : List Cell} {vs : List Value} (h : All2 (RC bl μ) ys vs) (hs : ys.all storable = true) : ∀ v ∈ vs, v.oneCell' = true := by
 induction h with
 | nil => intro v hv; cases hv
 | cons h _ ih =>
   simp only [List.all_cons, Bool.and_eq_true] at hs
   intro v hv
   simp only [List.mem_cons] at hv
   rcases hv with rfl | hv
   · exact storable_one h hs.1
   · exact ih hs.2 v hv
theorem plainsOf_rel {bl : Nat → Option Blk} : ∀ {ys : List Cell} {vs us : List Value}, All2 (RC bl μ) ys vs → plainsOf ys = some us → vs = us
 | [], _, us, .nil, h => by simp [plainsOf] at h; exact h.symm
 | y :: ys, _, us, .cons h1 h2, h => by
   cases y with
   | s v =>
     simp only [plainsOf] at h
     cases hr : plainsOf ys with
     | none => rw [hr] at h; cases h
     | some l =>
       rw [hr] at h; cases h
       rw [h1.1, plainsOf_rel h2 hr]
   | ptr _ _ _ => simp [plainsOf] at h
   | sl _ => simp [plainsOf] at h
   | sub _ _ _ => simp [plainsOf] at h
   | any => simp [plainsOf] at h
theorem run_storeVar {t : TypeId} {n : Nat} {r o : Nat} {x : Value} {w : World} (hs : (sizeOf t).run P w = .ok n w) (hx : x.cells.size = n) {w' : World} (h : (storeCells ⟨r, o, none⟩ x.cells.toList).run P w = .ok () w') : (storeVar t ⟨r, o, none⟩ x).run P w = .ok () w' := by
 simp only [storeVar, Sem.run_bind, hs, Result.andThen_ok, hx, ne_eq, not_true_eq_false, if_false]
 exact h
theorem run_sizeOf_num {t : TypeId} {n : Nat} (h : sizeOf? P t = n) (hn : 0 < n) (w : World) : (sizeOf t).run P w = .ok n w := by
 obtain ⟨k, rfl⟩ : ∃ k, n = k + 1 := ⟨n - 1, by omega⟩
 exact run_size_pos h w
theorem opSkip {s : Sem Unit} {wr : List (Nat × Blk)} {w' : World} {μ' : Lay} (hr : s.run P w = .ok () w') (h : Inv N W0 M ⟨st.tm, updL st.bl wr⟩ μ' a w') :
   OpOk N W0 M P st μ a w (do s; pure .skip) (.c .any) wr :=
 ⟨.skip, undef, w', μ', by simp [hr], .inr ⟨rfl, rfl⟩, h, trivial⟩
theorem cells_size_rel {bl : Nat → Option Blk} {v : LV} {x : Value} {ys : List Cell} (h : RL bl μ v x) (hc : v.cells = some ys) : x.cells.size = ys.length := by
 have := (h.cells hc).len
 simpa using this.symm
theorem store_does (h : Inv N W0 M st μ a w) (t : TypeId) {u v : LV} {x y : Value} (hu : RL st.bl μ u x) (hv : RL st.bl μ v y) :
   ∀ ids f z wr, planStore P t u v = some (ids, f) → f (ids.map st.bl) = some (true, z, wr) → OpOk N W0 M P st μ a w (do Instr.storeAt t x y; pure .skip) z wr := by
 intro ids f z wr hp hf
 unfold planStore at hp
 split at hp
 · rename_i id i j
   obtain ⟨b, m, hb, hm, rfl, hi, hz⟩ := hu
   split at hp
   · rename_i ys hys
     simp only [Option.some.injEq, Prod.mk.injEq] at hp
     obtain ⟨rfl, rfl⟩ := hp
     simp only [List.map_cons, List.map_nil, hb] at hf
     have hB := h.bl id b hb
     have hsz := cells_size_rel hv hys
     have hcl := hv.cells hys
     split at hf
     · rename_i xs heq
       simp only [List.cons.injEq, Option.some.injEq, and_true] at heq
       subst heq
       split at hf
       · rename_i hc
         obtain ⟨hc1, hc2, hc3⟩ := hc
         simp only [Option.some.injEq, Prod.mk.injEq] at hf
         obtain ⟨hg, rfl, rfl⟩ := hf
         have hle := Nat.le_of_ble_eq_true hg
         obtain ⟨m', cells, ty, fr, h1, h2, h3, h4, h5⟩ := hB
         rw [hm] at h1; cases h1
         have hi0 := hz xs rfl
         subst hi0
         have hlen := h5.len
         simp at hlen
         · obtain ⟨w', cells', e1, e2, e3⟩ := run_storeCells (P := P) y.cells.toList (m.off + 0 * m.st + j) 0 cells w h3 (by rw [h2]; simp [hsz]; omega) h4 (All2.one hcl hc2)
           refine opSkip (w' := w') (μ' := μ) ?_ ?_
           · simp only [Instr.storeAt, Instr.sureAddr, Sem.run_bind, Sem.run_pure, Result.andThen_ok]
             exact run_storeVar (run_sizeOf_num hc1.symm (by omega) w) hsz e1
           · refine h.turn (b' := .box (setAt xs j ys)) hb trivial hm e3.size e3.else_ e3.os e3.tape e3.output trivial (e3.shape ‹_› ‹_›) ?_
             refine ⟨m, cells', ty, fr, hm, h2, e3.here, fun q hq => h4 q ?_, ?_⟩
             · have : cells'.size = cells.size := by
                 have := congrArg List.length e2
                 rw [setAt_length] at this
                 simpa using this
               omega
             · rw [e2, h2]
               have hlk : ∀ i c, st.bl i = some c → ∃ c', upd st.bl id (some (.box (setAt xs j ys))) i = some c' ∧ Like c c' ∧ μ i = μ i := by
                 intro i c hc
                 rcases upd_cases st.bl id i (some (.box (setAt xs j ys))) with ⟨rfl, e⟩ | ⟨ne, e⟩
                 · rw [hb] at hc; cases hc; exact ⟨_, e, trivial, rfl⟩
                 · exact ⟨c, by rw [e]; exact hc, Like.refl c, rfl⟩
               have := h5.setAt j hcl
               simpa using this.imp fun _ _ h => h.mono hlk
       · cases hf
     · rename_i k cs xs heq
       simp only [List.cons.injEq, Option.some.injEq, and_true] at heq
       subst heq
       split at hf
       · cases hf
       · rename_i hk
         split at hf
         · rename_i hc
           obtain ⟨hc1, hc2, hc3⟩ := hc
           split at hf
           · rename_i vs hvs
             split at hf
             · rename_i e he
               simp only [Option.some.injEq, Prod.mk.injEq, true_and] at hf
               obtain ⟨rfl, rfl⟩ := hf
               obtain ⟨hcs, hB⟩ := hB
               rw [hm] at hB
               obtain ⟨hcap, hst, cells, ty, fr, h3, h4, h5, h6⟩ := hB
               have hlt := hi k cs xs rfl
               have hkro : k ≠ .ro := fun e => hk e
               have hvs' := plainsOf_rel hcl hvs
               have hlen := flat_length (enc cs) cs.length (enc_length cs) xs
               have hvl : vs.length = ys.length := by rw [← hvs']; exact hcl.len.symm
               have hone : ∀ u ∈ y.cells.toList, u.oneCell' = true := by
                 rw [hvs']
                 intro u hu
                 have e1 := dec_enc cs _ e he
                 obtain ⟨q, hq⟩ := List.getElem?_of_mem hu
                 have : (enc cs e)[j + q]? = some u := by
                   rw [e1, setAt_get]
                   have : q < vs.length := by
                     rcases Nat.lt_or_ge q vs.length with g | g
                     · exact g
                     · rw [List.getElem?_eq_none g] at hq; cases hq
                   rw [if_pos ⟨by omega, by omega, by rw [enc_length]; omega⟩]
                   simpa using hq
                 exact enc_one cs e u (List.mem_of_getElem? this)
               have hend : m.off + i * m.st + j + ys.length ≤ cells.size := by
                 by_cases hy : ys.length = 0
                 · omega
                 · have hidx : i * cs.length + (j + ys.length - 1) < (xs.flatMap (enc cs)).length := by
                     rw [hlen]
                     have : (i + 1) * cs.length ≤ xs.length * cs.length := Nat.mul_le_mul_right _ hlt
                     rw [Nat.succ_mul] at this
                     omega
                   have := h4 _ _ (List.getElem?_eq_getElem hidx)
                   have := (Array.getElem?_eq_some_iff.1 this).1
                   rw [hst]; omega
               obtain ⟨w', cells', e1, e2, e3⟩ := run_storeCells (P := P) y.cells.toList (m.off + i * m.st + j) 0 cells w h3 (by simp [hsz]; omega) (h6 hkro) hone
               have hsize : cells'.size = cells.size := by
                 have := congrArg List.length e2
                 rw [setAt_length] at this
                 simpa using this
               have hrun : (Instr.storeAt t (.pointer (some ⟨m.r, m.off + i * m.st + j, none⟩)) y).run P w = .ok () w' := by
                 simp only [Instr.storeAt, Instr.sureAddr, Sem.run_bind, Sem.run_pure, Result.andThen_ok]
                 by_cases hy : ys.length = 0
                 · omega
                 · exact run_storeVar (run_sizeOf_num hc1.symm (by omega) w) hsz e1
               refine opSkip (w' := w') (μ' := μ) hrun ?_
               refine h.turn (b' := .row k cs (xs.set i e)) hb hkro hm e3.size e3.else_ e3.os e3.tape e3.output ⟨rfl, by simp⟩ (e3.shape ‹_› ‹_›) ?_
               refine ⟨hcs, ?_⟩
               rw [hm]
               refine ⟨by simpa using hcap, hst, cells', ty, fr, e3.here, ?_, fun hko => ⟨(h5 hko).1, by rw [hsize]; exact (h5 hko).2⟩, fun _ q hq => h6 hkro q (by omega)⟩
               intro q v hq
               have hfs := flat_set xs i e j vs hlt (by omega) (dec_enc cs _ e he)
               rw [hfs, setAt_get] at hq
               have hcc : cells'[m.off + q]? = (setAt cells.toList (m.off + i * m.st + j + 0) y.cells.toList)[m.off + q]? := by rw [← e2]; simp
               rw [hcc, setAt_get, hvs', hst]
               have hql : q < (xs.flatMap (enc cs)).length := by
                 split at hq
                 · rename_i g; exact g.2.2
                 · rcases Nat.lt_or_ge q (xs.flatMap (enc cs)).length with g | g
                   · exact g
                   · rw [List.getElem?_eq_none g] at hq; cases hq
               have hqc : m.off + q < cells.toList.length := by
                 have := h4 q _ (List.getElem?_eq_getElem hql)
                 simpa using (Array.getElem?_eq_some_iff.1 this).1
               by_cases g : i * cs.length + j ≤ q ∧ q < i * cs.length + j + vs.length ∧ q < (xs.flatMap (enc cs)).length
               · rw [if_pos g] at hq
                 rw [if_pos ⟨by omega, by omega, hqc⟩]
                 have : m.off + q - (m.off + i * cs.length + j + 0) = q - (i * cs.length + j) := by omega
                 rw [this]; exact hq
               · rw [if_neg g] at hq
                 rw [if_neg (by omega)]
                 simpa using h4 q v hq
             · cases hf
           · cases hf
         · cases hf
     · cases hf
   · cases hp
 · cases hp
end
/-! ### What is made: variables, boxes, literals, rows. No condition beyond those that stand in each. -/
section
variable {N : Nat} {W0 : World} {M : Fr} {st : St} {μ : Lay} {a : Act} {w : World} {P : Program}
theorem empty_size {s : ByteArray} (h : s.size = 0) : s = ⟨#[]⟩ := by
 cases s with
 | mk d =>
   have : d = #[] := Array.eq_empty_of_size_eq_zero h
   rw [this]
theorem sameVals_eq : ∀ {l m : List Value}, sameVals l m = true → l = m
 | [], [], _ => rfl
 | [], _ :: _, h => by simp [sameVals] at h
 | v :: l, [], h => by cases v <;> simp [sameVals] at h
 | v :: l, u :: m, h => by
   cases v <;> cases u <;> simp only [sameVals, Bool.and_eq_true, decide_eq_true_eq, beq_iff_eq, Bool.false_eq_true] at h
   · obtain ⟨rfl, h⟩ := h; rw [sameVals_eq h]
   · obtain ⟨⟨rfl, rfl⟩, h⟩ := h; rw [sameVals_eq h]
   · obtain ⟨⟨h1, h2⟩, h⟩ := h
     rw [empty_size (Nat.eq_of_beq_eq_true h1), empty_size (Nat.eq_of_beq_eq_true h2), sameVals_eq h]
theorem zeroIs_some {t : TypeId} {vs : List Value} (h : zeroIs P t vs = true) : ∃ i z, P.info? t = some i ∧ i.zero = some z ∧ z.cells.toList = vs := by
 unfold zeroIs at h
 cases hi : P.info? t with
 | none => rw [hi] at h; simp at h
 | some i =>
   rw [hi] at h
   cases hz : i.zero with
   | none => simp [hz] at h
   | some z => simp [hz] at h; exact ⟨i, z, rfl, hz, sameVals_eq h⟩
theorem run_zero {t : TypeId} {i : TypeInfo} {z : Value} (hi : P.info? t = some i) (hz : i.zero = some z) (w : World) : (zeroValue t).run P w = .ok z w := by
 simp [zeroValue, typeInfo, hi, hz]
theorem run_alloc {t : TypeId} {i : TypeInfo} {z : Value} (hi : P.info? t = some i) (hz : i.zero = some z) (w : World) :
   (Instr.alloc t true (.tuple #[])).run P w = .ok (.pointer (some ⟨w.heap.size, 0, none⟩)) { w with heap := w.heap.push (.cells z.cells t) } := by
 simp [Instr.alloc, run_zero hi hz, newVar, newRow]
theorem zeroCells_some {t : TypeId} {xs : List Cell} (h : zeroCells? P t = some xs) : ∃ i z, P.info? t = some i ∧ i.zero = some z ∧ ∀ (bl : Nat → Option Blk) (μ : Lay), All2 (RC bl μ) xs z.cells.toList := by
 unfold zeroCells? at h
 cases hi : P.info? t with
 | none => rw [hi] at h; simp at h
 | some i =>
   rw [hi] at h
   cases hz : i.zero with
   | none => simp [hz] at h
   | some z =>
     simp only [Option.bind_some, hz] at h
     refine ⟨i, z, rfl, hz, fun bl μ => ?_⟩
     cases z with
     | agg cs =>
       simp only at h
       split at h
       · rename_i hall; cases h; exact All2.map_s bl μ _ hall
       · cases h
     | tuple _ => cases h
     | _ => cases h; exact .cons ⟨rfl, rfl⟩ .nil
theorem updL_one {α : Type u} (f : Nat → Option α) (n : Nat) (v : α) : updL f [(n, v)] = upd f n (some v) := rfl
theorem thaw0 (cells : Array Value) : Thaw cells (0, 0) := fun o _ ⟨_, h⟩ => absurd h (Nat.not_lt_zero _)
/-- A new box. -/
theorem Inv.newBox (h : Inv N W0 M st μ a w) {id : Nat} (hn : st.bl id = none) (hid : M.lo ≤ id) {xs : List Cell} {cells : Array Value} (hc : All2 (RC st.bl μ) xs cells.toList) (t : TypeId) :
   Inv N W0 M ⟨st.tm, updL st.bl [(id, .box xs)]⟩ (upd μ id (some ⟨w.heap.size, 0, 0, 0⟩)) a { w with heap := w.heap.push (.cells cells t) } ∧
   RL (updL st.bl [(id, .box xs)]) (upd μ id (some ⟨w.heap.size, 0, 0, 0⟩)) (.c (.ptr id 0 0)) (.pointer (some ⟨w.heap.size, 0, none⟩)) := by
 rw [updL_one]
 constructor
 · refine h.add hn hid rfl ⟨⟨w.heap.size, 0, 0, 0⟩, cells, t, (0, 0), upd_same _ _ _, rfl, by simp, thaw0 _, ?_⟩
   exact hc.imp fun _ _ h => h.mono (old_like hn)
 · exact ⟨.box xs, _, upd_same _ _ _, upd_same _ _ _, by simp, (fun k cs ys e => by cases e), fun _ _ => rfl⟩
/-- A new row. -/
theorem Inv.newRow (h : Inv N W0 M st μ a w) {id : Nat} (hn : st.bl id = none) (hid : M.lo ≤ id) {k : Kind} {cs : List Sc} (hcs : cs ≠ []) {xs : List (RowT cs)} {cap : Nat} {cells : Array Value} (hl : xs.length ≤ cap)
   (hc : ∀ (j : Nat) (v : Value), (xs.flatMap (enc cs))[j]? = some v → cells[j]? = some v) (hcap : cells.size = cap * cs.length) (t : TypeId) {fr : Nat × Nat} (hf : Thaw cells fr) :
   Inv N W0 M ⟨st.tm, updL st.bl [(id, .row k cs xs)]⟩ (upd μ id (some ⟨w.heap.size, 0, cap, cs.length⟩)) a { w with heap := w.heap.push (.cells cells t fr) } := by
 rw [updL_one]
 refine h.add hn hid rfl ⟨hcs, ?_⟩
 rw [upd_same]
 exact ⟨hl, rfl, cells, t, fr, by simp, by simpa using hc, fun _ => ⟨rfl, hcap⟩, fun _ => hf⟩
theorem RL.newRow {id : Nat} {k : Kind} {cs : List Sc} {xs : List (RowT cs)} {cap n : Nat} (hl : xs.length ≤ cap) (r : Nat) :
   RL (updL st.bl [(id, .row k cs xs)]) (upd μ id (some ⟨r, 0, cap, n⟩)) (.c (.sl id)) (.slice (some ⟨r, 0, none⟩) xs.length cap) :=
 ⟨.row k cs xs, xs.length, upd_same _ _ _, by unfold SlOk; rw [upd_same]; exact ⟨hl, rfl⟩, fun k' ds ys e => by cases e; rfl⟩
theorem alloc_does (h : Inv N W0 M st μ a w) (t : TypeId) {nid : Nat} (hid : M.lo ≤ nid) : Does N W0 M P st μ a w (Instr.alloc t true (.tuple #[])) (planAlloc P t nid) := by
 intro ids f v wr hp hf
 unfold planAlloc at hp
 split at hp
 · rename_i n e hg
   split at hp
   · rename_i cs hcs
     split at hp
     · rename_i hz
       simp only [Option.some.injEq, Prod.mk.injEq] at hp
       obtain ⟨rfl, rfl⟩ := hp
       simp only [List.map_cons, List.map_nil] at hf
       split at hf
       · rename_i heq
         simp only [List.cons.injEq, and_true] at heq
         simp only [Option.some.injEq, Prod.mk.injEq, true_and] at hf
         obtain ⟨rfl, rfl⟩ := hf
         simp only [Bool.and_eq_true] at hz
         have hn0 := Nat.le_of_ble_eq_true hz.1
         obtain ⟨i, z, hi, hz1, hz2⟩ := zeroIs_some hz.2
         have hne := (scs_some hcs).1
         have hsz : z.cells.size = n * cs.length := by
           have := congrArg List.length hz2
           rw [flat_length (enc cs) cs.length (enc_length cs)] at this
           simpa using this
         have hinv := h.newRow (k := .fix) heq hid hne (xs := List.replicate n (dfl cs)) (cap := n) (cells := z.cells) (by simp) (fun j v hj => by rw [← hz2] at hj; simpa using hj) hsz t (thaw0 _)
         refine opV (run_alloc hi hz1 w) hinv ?_
         refine ⟨_, _, upd_same _ _ _, upd_same _ _ _, by simp, (fun k ds ys e => ?_), (fun ys e => by cases e)⟩
         cases e
         simp; omega
       · cases hf
     · cases hp
   · cases hp
 · split at hp
   · rename_i xs hx
     simp only [Option.some.injEq, Prod.mk.injEq] at hp
     obtain ⟨rfl, rfl⟩ := hp
     simp only [List.map_cons, List.map_nil] at hf
     split at hf
     · rename_i heq
       simp only [List.cons.injEq, and_true] at heq
       simp only [Option.some.injEq, Prod.mk.injEq, true_and] at hf
       obtain ⟨rfl, rfl⟩ := hf
       obtain ⟨i, z, hi, hz1, hz2⟩ := zeroCells_some hx
       obtain ⟨h1, h2⟩ := h.newBox heq hid (hz2 _ _) t
       exact opV (run_alloc hi hz1 w) h1 h2
     · cases hf
   · cases hp
theorem box_does (h : Inv N W0 M st μ a w) (t : TypeId) {nid : Nat} (hid : M.lo ≤ nid) {u : LV} {x : Value} (hu : RL st.bl μ u x) : Does N W0 M P st μ a w (Instr.box t x) (planBox nid u) := by
 intro ids f v wr hp hf
 unfold planBox at hp
 split at hp
 · rename_i xs hx
   simp only [Option.some.injEq, Prod.mk.injEq] at hp
   obtain ⟨rfl, rfl⟩ := hp
   simp only [List.map_cons, List.map_nil] at hf
   split at hf
   · rename_i heq
     simp only [List.cons.injEq, and_true] at heq
     simp only [Option.some.injEq, Prod.mk.injEq, true_and] at hf
     obtain ⟨rfl, rfl⟩ := hf
     obtain ⟨h1, h2⟩ := h.newBox heq hid (hu.cells hx) t
     exact opV (by simp [Instr.box, newVar, Go.newRow]) h1 h2
   · cases hf
 · cases hp
end
/-! ### Structs and rows written out; make; conversions between bytes and texts. No condition beyond those that stand in each. -/
section
variable {N : Nat} {W0 : World} {M : Fr} {st : St} {μ : Lay} {a : Act} {w : World} {P : Program}
theorem places_mapM : ∀ (fs : List Field) (ps : List (Nat × Nat)), places? P fs = some ps → fs.mapM (fun f => (P.info? f.type).map fun i => (f.offset, i.size)) = some ps
 | [], ps, h => by simp [places?] at h; simp [h]
 | f :: fs, ps, h => by
   simp only [places?] at h
   cases hi : P.info? f.type with
   | none => simp [hi] at h
   | some i =>
     cases hr : places? P fs with
     | none => simp [hi, hr] at h
     | some l =>
       simp [hi, hr] at h
       subst h
       simp [List.mapM_cons, hi, places_mapM fs l hr]
theorem zipIdx_set : ∀ (vs : List Value) (k off : Nat) (cells : Array Value), ((vs.zipIdx k).foldl (fun cs (p : Value × Nat) => cs.setIfInBounds (off + p.2) p.1) cells).toList = setAt cells.toList (off + k) vs
 | [], k, off, cells => by simp [setAt_nil]
 | v :: vs, k, off, cells => by
   simp only [List.zipIdx_cons, List.foldl_cons]
   rw [zipIdx_set vs (k + 1) off, array_set_toList]
   exact setAt_cons_set cells.toList (off + k) v vs
theorem zipIdx_arr (vs : Array Value) (off : Nat) (cells : Array Value) : (vs.zipIdx.foldl (fun cs (p : Value × Nat) => cs.setIfInBounds (off + p.2) p.1) cells).toList = setAt cells.toList off vs.toList := by
 rw [← Array.foldl_toList, Array.toList_zipIdx]
 exact zipIdx_set vs.toList 0 off cells
theorem fill_rel {bl : Nat → Option Blk} (place : Nat → Option (Nat × Nat)) : ∀ (parts : List (Nat × LV)) (vals : List (Nat × Value)) (zs xs : List Cell) (cells : Array Value),
   All2 (fun p q => p.1 = q.1 ∧ RL bl μ p.2 q.2) parts vals → fillC place zs parts = some xs → All2 (RC bl μ) zs cells.toList → ∃ cells', Instr.fill place cells vals = some cells' ∧ All2 (RC bl μ) xs cells'.toList
 | [], _, zs, xs, cells, .nil, h, hz => by simp [fillC] at h; subst h; exact ⟨cells, rfl, hz⟩
 | (i, v) :: parts, (_, x) :: vals, zs, xs, cells, .cons h1 h2, h, hz => by
   obtain ⟨rfl, hv⟩ := h1
   simp only [fillC] at h
   split at h
   · rename_i off size ys hp hc
     split at h
     · rename_i hq
       have hcl := hv.cells hc
       have hlen := hcl.len
       have hsz : x.cells.size = size := by rw [← hq.1]; simpa using hlen.symm
       have hzl := hz.len
       have hzs : zs.length = cells.size := by simpa using hzl
       have hstep : All2 (RC bl μ) (setAt zs off ys) (x.cells.zipIdx.foldl (fun cs (p : Value × Nat) => cs.setIfInBounds (off + p.2) p.1) cells).toList := by
         rw [zipIdx_arr]; exact hz.setAt off hcl
       obtain ⟨cells', e1, e2⟩ := fill_rel place parts vals _ xs _ h2 h hstep
       refine ⟨cells', ?_, e2⟩
       simp only [Instr.fill, hp]
       rw [if_neg (by simp only [Bool.or_eq_true, decide_eq_true_eq, not_or]; exact ⟨by omega, by omega⟩)]
       exact e1
     · cases h
   · cases h
theorem parts_rel {bl : Nat → Option Blk} {val : Operand → LV} {ρ : Operand → Value} (h : ∀ x, RL bl μ (val x) (ρ x)) : ∀ l : List (Nat × Operand), All2 (fun (p : Nat × LV) (q : Nat × Value) => p.1 = q.1 ∧ RL bl μ p.2 q.2) (l.map fun p => (p.1, val p.2)) (l.map fun p => (p.1, ρ p.2))
 | [] => .nil
 | p :: l => .cons ⟨rfl, h p.2⟩ (parts_rel h l)
theorem build_does (h : Inv N W0 M st μ a w) (t : TypeId) (parts : Array (Nat × Operand)) : Does N W0 M P st μ a w (Instr.build t (parts.map fun (i, x) => (i, a.eval x))) (planBuild P t (parts.toList.map fun p => (p.1, st.val p.2))) := by
 unfold planBuild
 split
 · rename_i fs zs hg hz
   split
   · rename_i ps hps
     split
     · rename_i xs hx
       obtain ⟨i, z, hi, hz1, hz2⟩ := zeroCells_some hz
       obtain ⟨cells, e1, e2⟩ := fill_rel (μ := μ) (bl := st.bl) _ _ _ _ _ z.cells (parts_rel h.val parts.toList) hx (hz2 _ _)
       refine Does.still h (x := .agg cells) ?_ ⟨cells, rfl, e2⟩
       refine run_build w t _ cells ?_
       unfold Program.built
       simp only [hi, hg, hz1, places_mapM _ _ hps]
       have : (parts.map fun (i, x) => (i, a.eval x)).toList = parts.toList.map fun p => (p.1, a.eval p.2) := by simp
       rw [this]
       have hpl : (fun i : Nat => ps.toArray[i]?) = fun i => ps[i]? := by funext i; simp
       rw [hpl]
       exact e1
     · exact Does.none
   · exact Does.none
 · exact Does.none
-- make
theorem made_get (z : Array Value) (n : Nat) (i : Nat) (hi : i < n) : ((Array.range n).map (fun i => z[i % z.size]!))[i]? = some z[i % z.size]! := by
 simp [hi]
theorem make_does (h : Inv N W0 M st μ a w) (t : TypeId) {nid : Nat} (hid : M.lo ≤ nid) {u v : LV} {x y : Value} (hu : RL st.bl μ u x) (hv : RL st.bl μ v y) : Does N W0 M P st μ a w (Instr.makeSlice t x y) (planMake P t nid u v) := by
 intro ids f z wr hp hf
 unfold planMake at hp
 split at hp
 · rename_i k n k' m
   obtain rfl := RL.int' hu; obtain rfl := RL.int' hv
   split at hp
   · rename_i e hg
     split at hp
     · rename_i cs hcs
       split at hp
       · rename_i hz
         simp only [Option.some.injEq, Prod.mk.injEq] at hp
         obtain ⟨rfl, rfl⟩ := hp
         simp only [List.map_cons, List.map_nil] at hf
         split at hf
         · rename_i heq
           simp only [List.cons.injEq, and_true] at heq
           simp only [Option.some.injEq, Prod.mk.injEq, Bool.and_eq_true, decide_eq_true_eq] at hf
           obtain ⟨⟨⟨g1, rfl⟩, g3⟩, rfl, rfl⟩ := hf
           have g3 := Nat.le_of_ble_eq_true g3
           unfold lim at g3
           obtain ⟨hne, hsz, hb, i, hi, hi1, hi2⟩ := scs_some hcs
           obtain ⟨i', zv, hi', hz1, hz2⟩ := zeroIs_some hz
           rw [hi] at hi'; cases hi'
           have hbn : (i.bytes : Int) * n ≤ 281474976710656 := by
             have h1 : (i.bytes : Int) * n ≤ 64 * n := Int.mul_le_mul_of_nonneg_right (by omega) g1
             omega
           have hr := run_make (P := P) w t e i zv hg hi hz1 k k' n n g1 (Int.le_refl _) hbn (by omega)
           have hcs0 : zv.cells.size = cs.length := by
             have := congrArg List.length hz2
             rw [enc_length] at this; simpa using this
           have hcpos : 0 < cs.length := List.length_pos_iff.2 hne
           have hinv := h.newRow (k := .own) heq hid hne (xs := List.replicate n.toNat (dfl cs)) (cap := n.toNat) (cells := madeCells zv.cells (n.toNat * i.size)) (by simp) (fun j v hj => by
             have hjl : j < n.toNat * cs.length := by
               rcases Nat.lt_or_ge j (n.toNat * cs.length) with g | g
               · exact g
               · rw [List.getElem?_eq_none (by rw [flat_length (enc cs) cs.length (enc_length cs)]; simpa using g)] at hj; cases hj
             have hdm := Nat.div_add_mod j cs.length
             have hmod := Nat.mod_lt j hcpos
             have hdiv : j / cs.length < n.toNat := Nat.div_lt_of_lt_mul (by rw [Nat.mul_comm]; exact hjl)
             have hget := flat_get (enc cs) cs.length (enc_length cs) (List.replicate n.toNat (dfl cs)) (j / cs.length) (j % cs.length) (dfl cs) (by simp [hdiv]) hmod
             rw [Nat.mul_comm, hdm] at hget
             rw [hget] at hj
             unfold madeCells
             rw [made_get _ _ _ (by rw [hi1]; exact hjl), hcs0]
             have hz3 : zv.cells[j % cs.length]? = some v := by
               have : zv.cells.toList[j % cs.length]? = some v := by rw [hz2]; exact hj
               simpa using this
             simp only [Option.some.injEq]
             rw [getElem!_def, hz3]) (by rw [size_madeCells, hi1]) e (thaw0 _)
           have hlen : (List.replicate n.toNat (dfl cs)).length = n.toNat := by simp
           refine opV hr hinv ?_
           have := RL.newRow (st := st) (μ := μ) (id := nid) (k := .own) (cs := cs) (xs := List.replicate n.toNat (dfl cs)) (cap := n.toNat) (n := cs.length) (by simp) w.heap.size
           rw [hlen] at this
           exact this
         · cases hf
       · cases hp
     · cases hp
   · cases hp
 · cases hp
end
/-! ### Rows written out; conversions; parts of rows and texts; their lengths. No condition beyond those that stand in each. -/
section
variable {N : Nat} {W0 : World} {M : Fr} {st : St} {μ : Lay} {a : Act} {w : World} {P : Program}
theorem fill_lit {bl : Nat → Option Blk} {cs : List Sc} : ∀ (parts : List (Nat × LV)) (vals : List (Nat × Value)) (xs : List (RowT cs)) (i : Nat) (cells : Array Value),
   All2 (fun p q => p.1 = q.1 ∧ RL bl μ p.2 q.2) parts vals → litRow cs i parts = some xs → (i + parts.length) * cs.length ≤ cells.size →
   ∃ cells', Instr.fill (fun i => some (i * cs.length, cs.length)) cells vals = some cells' ∧ cells'.size = cells.size ∧ xs.length = parts.length ∧ (∀ q, q < i * cs.length → cells'[q]? = cells[q]?) ∧ ∀ q v, (xs.flatMap (enc cs))[q]? = some v → cells'[i * cs.length + q]? = some v
 | [], _, xs, i, cells, .nil, h, hs => by
   simp only [litRow, Option.some.injEq] at h; subst h
   exact ⟨cells, rfl, rfl, rfl, fun _ _ => rfl, fun q v hq => by simp at hq⟩
 | (k, v) :: parts, (_, x) :: vals, xs, i, cells, .cons h1 h2, h, hs => by
   obtain ⟨rfl, hv⟩ := h1
   simp only [litRow] at h
   split at h
   · rename_i ys hk hc
     have hk := Nat.eq_of_beq_eq_true hk
     subst hk
     split at h
     · rename_i us hus
       split at h
       · rename_i e l he hl
         cases h
         have hcl := hv.cells hc
         have hx := plainsOf_rel hcl hus
         have hex : x.cells.toList = enc cs e := by rw [hx, dec_enc cs us e he]
         have hxs : x.cells.size = cs.length := by
           have := congrArg List.length hex
           rw [enc_length] at this; simpa using this
         simp only [List.length_cons] at hs
         have hmul : (k + 1) * cs.length = k * cs.length + cs.length := Nat.succ_mul _ _
         have hle : k * cs.length + cs.length ≤ cells.size := by
           rw [← hmul]
           exact Nat.le_trans (Nat.mul_le_mul_right _ (by omega)) hs
         let cells1 := x.cells.zipIdx.foldl (fun cs' (p : Value × Nat) => cs'.setIfInBounds (k * cs.length + p.2) p.1) cells
         have h1l : cells1.toList = setAt cells.toList (k * cs.length) (enc cs e) := by rw [← hex]; exact zipIdx_arr _ _ _
         have h1s : cells1.size = cells.size := by
           have := congrArg List.length h1l
           rw [setAt_length] at this; simpa using this
         obtain ⟨cells', e1, e2, e3, e4, e5⟩ := fill_lit parts vals l (k + 1) cells1 h2 hl (by rw [h1s]; rw [show k + 1 + parts.length = k + (parts.length + 1) by omega]; exact hs)
         have hc1 : ∀ q : Nat, cells1[q]? = (setAt cells.toList (k * cs.length) (enc cs e))[q]? := by
           intro q; rw [← h1l]; simp
         refine ⟨cells', ?_, e2.trans h1s, by simp [e3], fun q hq => ?_, fun q v hq => ?_⟩
         · simp only [Instr.fill]
           rw [if_neg (by simp only [Bool.or_eq_true, decide_eq_true_eq, not_or]; exact ⟨by omega, by omega⟩)]
           exact e1
         · rw [e4 q (by omega), hc1, setAt_get, if_neg (by omega)]; simp
         · simp only [List.flatMap_cons] at hq
           by_cases hq' : q < cs.length
           · rw [List.getElem?_append_left (by rw [enc_length]; exact hq')] at hq
             rw [e4 _ (by omega), hc1, setAt_get, if_pos ⟨by omega, by rw [enc_length]; omega, by simp; omega⟩]
             rw [show k * cs.length + q - k * cs.length = q by omega]; exact hq
           · rw [List.getElem?_append_right (by rw [enc_length]; omega), enc_length] at hq
             have := e5 _ v hq
             rw [show (k + 1) * cs.length + (q - cs.length) = k * cs.length + q by omega] at this
             exact this
       · cases h
     · cases h
   · cases h
theorem lit_does (h : Inv N W0 M st μ a w) (t : TypeId) (n : Nat) (parts : Array (Nat × Operand)) {nid : Nat} (hid : M.lo ≤ nid) :
   Does N W0 M P st μ a w (Instr.buildSlice t n (parts.map fun (i, x) => (i, a.eval x))) (planLit P t n (parts.toList.map fun p => (p.1, st.val p.2)) nid) := by
 intro ids f z wr hp hf
 unfold planLit at hp
 split at hp
 · rename_i e hg
   split at hp
   · rename_i cs hcs
     split at hp
     · rename_i xs hx
       simp only [Option.some.injEq, Prod.mk.injEq] at hp
       obtain ⟨rfl, rfl⟩ := hp
       simp only [List.map_cons, List.map_nil] at hf
       split at hx
       · rename_i hz
         simp only [Bool.and_eq_true] at hz
         have hpl := Nat.eq_of_beq_eq_true hz.2
         split at hf
         · rename_i heq
           simp only [List.cons.injEq, and_true] at heq
           simp only [Option.some.injEq, Prod.mk.injEq] at hf
           obtain ⟨g1, rfl, rfl⟩ := hf
           have g1 := Nat.le_of_ble_eq_true g1
           obtain ⟨hne, hsz, hb, i, hi, hi1, hi2⟩ := scs_some hcs
           obtain ⟨i', zv, hi', hz1, hz2⟩ := zeroIs_some hz.1
           rw [hi] at hi'; cases hi'
           obtain ⟨cells, e1, e2, e3, e4, e5⟩ := fill_lit (μ := μ) (bl := st.bl) _ _ xs 0 (madeCells (if n * cs.length = 0 then #[] else zv.cells) (n * cs.length)) (parts_rel h.val parts.toList) hx (by rw [size_madeCells, hpl]; simp)
           have hxl : xs.length = n := e3.trans hpl
           have hinv := h.newRow (k := .own) heq hid hne (xs := xs) (cap := n) (cells := cells) (by omega) (fun j v hj => by have := e5 j v hj; simpa using this) (by rw [e2, size_madeCells]) e (thaw0 _)
           have hr : (Instr.buildSlice t n (parts.map fun (i, x) => (i, a.eval x))).run P w = .ok (.slice (some ⟨w.heap.size, 0, none⟩) n n) { w with heap := w.heap.push (.cells cells e) } := by
             have hp' : (parts.map fun (i, x) => (i, a.eval x)).toList = parts.toList.map fun p => (p.1, a.eval p.2) := by simp
             have hlim : ¬ n * cs.length > 2 ^ 24 := by omega
             by_cases h0 : n * cs.length = 0
             · have hn0 : n = 0 := by
                 rcases Nat.mul_eq_zero.1 h0 with g | g
                 · exact g
                 · exact absurd (List.eq_nil_of_length_eq_zero g) hne
               subst hn0
               simp only [h0, if_true] at e1
               simp only [Instr.buildSlice, Sem.run_bind, run_und hg, Result.andThen_ok, run_size_scs hcs, hp', Nat.zero_mul, if_true, Sem.run_pure, Sem.run_ite]
               rw [if_neg (by decide)]
               unfold madeCells at e1
               rw [e1]
               simp [Go.newRow]
             · simp only [h0, if_false] at e1
               unfold madeCells at e1
               simp only [Instr.buildSlice, Sem.run_bind, run_und hg, Result.andThen_ok, run_size_scs hcs, hp', hlim, h0, if_false, Sem.run_pure, run_zero hi hz1, Sem.run_ite]
               rw [e1]
               simp [Go.newRow]
           refine opV hr hinv ?_
           have := RL.newRow (st := st) (μ := μ) (id := nid) (k := .own) (cs := cs) (xs := xs) (cap := n) (n := cs.length) (by omega) w.heap.size
           rw [hxl] at this
           exact this
         · cases hf
       · cases hx
     · cases hp
   · cases hp
 · cases hp
end
/-! ### Conversions; parts of rows and texts; indexes; lengths. No condition beyond those that stand in each. -/
section
variable {N : Nat} {W0 : World} {M : Fr} {st : St} {μ : Lay} {a : Act} {w : World} {P : Program}
/-- What a slice value that the evaluator knows holds in memory. -/
def RowIs (w : World) (cs : List Sc) (xs : List (RowT cs)) (x : Value) : Prop :=
 ∃ ad cap, x = .slice ad xs.length cap ∧ xs.length ≤ cap ∧ (ad = none → xs = [] ∧ cap = 0) ∧ (∀ p, ad = some p → p.spot = none ∧ ∃ cells t fr, w.heap[p.block]? = some (.cells cells t fr) ∧ ∀ (j : Nat) v, (xs.flatMap (enc cs))[j]? = some v → cells[p.off + j]? = some v)
theorem part_get {cs : List Sc} (xs : List (RowT cs)) (o n : Nat) (j : Nat) (v : Value) (h : ((part xs o n).flatMap (enc cs))[j]? = some v) : (xs.flatMap (enc cs))[o * cs.length + j]? = some v := by
 by_cases hc : cs.length = 0
 · exfalso
   have : ((part xs o n).flatMap (enc cs)).length = 0 := by rw [flat_length (enc cs) cs.length (enc_length cs), hc]; simp
   rw [List.eq_nil_of_length_eq_zero this] at h
   simp at h
 · have hpos : 0 < cs.length := by omega
   have hjl : j < (part xs o n).length * cs.length := by
     rcases Nat.lt_or_ge j ((part xs o n).length * cs.length) with g | g
     · exact g
     · rw [List.getElem?_eq_none (by rw [flat_length (enc cs) cs.length (enc_length cs)]; exact g)] at h; cases h
   have hdiv : j / cs.length < (part xs o n).length := Nat.div_lt_of_lt_mul (by rw [Nat.mul_comm]; exact hjl)
   have hmod := Nat.mod_lt j hpos
   have hdm := Nat.div_add_mod j cs.length
   have hget := flat_get (enc cs) cs.length (enc_length cs) (part xs o n) (j / cs.length) (j % cs.length) _ (List.getElem?_eq_getElem hdiv) hmod
   rw [Nat.mul_comm, hdm, h] at hget
   have hx : xs[o + j / cs.length]? = some ((part xs o n)[j / cs.length]) := by
     have := List.getElem?_eq_getElem hdiv
     unfold part at this ⊢
     rw [List.getElem?_take] at this
     split at this
     · rw [List.getElem?_drop] at this; exact this
     · cases this
   have h2 := flat_get (enc cs) cs.length (enc_length cs) xs (o + j / cs.length) (j % cs.length) _ hx hmod
   have e : (o + j / cs.length) * cs.length + j % cs.length = o * cs.length + j := by
     rw [Nat.add_mul, Nat.add_assoc, Nat.mul_comm (j / cs.length), hdm]
   rw [e] at h2
   rw [h2, ← hget]
theorem part_length {α : Type} {cs : List Sc} (xs : List (RowT cs)) (o n : Nat) (h : o + n ≤ xs.length) : (part xs o n).length = n := by
 unfold part; simp; omega
theorem Inv.row (h : Inv N W0 M st μ a w) {id : Nat} {k : Kind} {cs : List Sc} {xs : List (RowT cs)} (hb : st.bl id = some (.row k cs xs)) {x : Value} (hx : RC st.bl μ (.sl id) x) : RowIs w cs xs x := by
 obtain ⟨b, len, hb', hs, hl⟩ := hx
 rw [hb] at hb'; cases hb'
 have hl := hl k cs xs rfl
 subst hl
 obtain ⟨hcs, hB⟩ := h.bl id _ hb
 unfold SlOk at hs
 cases hm : μ id with
 | none =>
   rw [hm] at hs hB
   exact ⟨none, 0, hs.2 ▸ (by rw [hs.1]), by omega, fun _ => ⟨hB, rfl⟩, fun p e => by cases e⟩
 | some m =>
   rw [hm] at hs hB
   obtain ⟨h1, h2, cells, t, fr, h3, h4, _⟩ := hB
   exact ⟨_, m.cap, hs.2, hs.1, (fun e => by cases e), fun p e => by cases e; exact ⟨rfl, cells, t, fr, h3, h4⟩⟩
theorem Inv.sub (h : Inv N W0 M st μ a w) {id o n : Nat} {k : Kind} {cs : List Sc} {xs : List (RowT cs)} (hb : st.bl id = some (.row k cs xs)) {x : Value} (hx : RC st.bl μ (.sub id o n) x) : RowIs w cs (part xs o n) x := by
 obtain ⟨b, hb', ⟨ad, c, rfl, h1, h2, h3, h6⟩, hl⟩ := hx
 rw [hb] at hb'; cases hb'
 have hle := hl k cs xs rfl
 have hpl := part_length (α := Unit) xs o n hle
 obtain ⟨hcs, hB⟩ := h.bl id _ hb
 refine ⟨ad, c, by rw [hpl], by rw [hpl]; exact h1, fun e => ?_, fun q hq => ?_⟩
 · obtain ⟨rfl, rfl⟩ := h3 e
   exact ⟨List.eq_nil_of_length_eq_zero hpl, rfl⟩
 · obtain ⟨hs, p, hp, hr⟩ := h6 q hq
   rw [hp] at hB
   obtain ⟨_, hst, cells, t, fr, h4, h5, _⟩ := hB
   refine ⟨hs, cells, t, fr, by rw [hr]; exact h4, fun j v hj => ?_⟩
   have hn : 0 < n := by
     rcases Nat.eq_zero_or_pos n with g | g
     · subst g
       rw [List.eq_nil_of_length_eq_zero hpl] at hj
       simp at hj
     · exact g
   obtain ⟨p', hp', e⟩ := h2 hn
   rw [hp] at hp'; cases hp'
   rw [hq] at e; cases e
   have := h5 _ v (part_get xs o n j v hj)
   rw [hst, Nat.add_assoc]; exact this
theorem src_rel (h : Inv N W0 M st μ a w) {cs : List Sc} {v : LV} {x : Value} (hv : RL st.bl μ v x) {ids : List Nat} {f : List (Option Blk) → Option (List (RowT cs))} (hs : src? cs v = some (ids, f)) {l : List (RowT cs)} (hl : f (ids.map st.bl) = some l) :
   RowIs w cs l x ∨ ∃ s, x = .string s ∧ (l.flatMap (enc cs)) = s.data.toList.map (fun b => Value.int .u8 b.toNat) ∧ cs = [.int .u8] ∧ l.length = s.size := by
 unfold src? at hs
 split at hs
 · simp only [Option.some.injEq, Prod.mk.injEq] at hs
   obtain ⟨rfl, rfl⟩ := hs
   cases hl
   have hx : x = .slice none 0 0 := hv.1
   subst hx
   exact .inl ⟨none, 0, rfl, Nat.le_refl _, fun _ => ⟨rfl, rfl⟩, fun p e => by cases e⟩
 · rename_i s
   split at hs
   · simp only [Option.some.injEq, Prod.mk.injEq] at hs
     obtain ⟨rfl, rfl⟩ := hs
     cases hl
     have hx : x = .string s := hv.1
     subst hx
     right
     refine ⟨s, rfl, ?_, rfl, ?_⟩
     · show ((bytesOf s).flatMap fun (n : Int) => [Value.int .u8 n]) = _
       unfold bytesOf
       simp only [List.flatMap_map]
       exact List.map_eq_flatMap.symm
     · show (bytesOf s).length = s.size
       simp [bytesOf]
   · cases hs
 · rename_i id
   simp only [Option.some.injEq, Prod.mk.injEq] at hs
   obtain ⟨rfl, rfl⟩ := hs
   simp only [List.map_cons, List.map_nil] at hl
   split at hl
   · rename_i k ds xs heq
     simp only [List.cons.injEq, and_true] at heq
     split at hl
     · rename_i e; subst e; cases hl
       exact .inl (h.row heq hv)
     · cases hl
   · cases hl
 · rename_i id o n
   simp only [Option.some.injEq, Prod.mk.injEq] at hs
   obtain ⟨rfl, rfl⟩ := hs
   simp only [List.map_cons, List.map_nil] at hl
   split at hl
   · rename_i k ds xs heq
     simp only [List.cons.injEq, and_true] at heq
     split at hl
     · rename_i e; subst e; cases hl
       exact .inl (h.sub heq hv)
     · cases hl
   · cases hl
 · cases hs
end
end Go.Ev
