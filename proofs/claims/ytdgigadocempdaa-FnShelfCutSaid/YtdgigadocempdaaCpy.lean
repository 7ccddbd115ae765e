/- The builtin copy over rows of whatever flat element: a law for the walk. Its conditions: the source has as many elements as the row that is written, at least one. -/
import Derived.Test.YtdgigadocempdaaWMore
import Derived.Laws.CopyOwn
import Derived.Laws.CopyRow
namespace Go.Proofs.Ytdgigadocempdaa.Cpy
open Go.RowKit Go.Proofs.YtdgigadocempdaaW.PrintWords Go.Proofs.YtdgigadocempdaaW.PrintLast Go.Proofs.YtdgigadocempdaaW.PrintMore
set_option linter.unusedVariables false
set_option linter.unusedSimpArgs false
/-- What a kind's cells say hangs on no memory: they lead to nothing. -/
def Flat {α : Type} (d : Kd α) : Prop := ∀ (w w' : World) (base : Nat) (ok : Nat → Prop) (x : α) (cs : List Value), d.K w x cs → d.M w' base ok x cs

theorem take_snoc' {α : Type} {xs : List α} {m : Nat} {p : α} (h : xs[m]? = some p) : xs.take (m + 1) = xs.take m ++ [p] := by
  rw [List.take_add_one, h]
  rfl

/-- The cells of a row that is read, one behind the other. -/
theorem cells_of_row {α : Type} {d : Kd α} {w : World} {ad : Addr} {xs : List α}
    (h : ∀ j p, xs[j]? = some p → ∃ c, c.length = d.sz ∧ d.K w p c ∧ ∀ i u, c[i]? = some u → w.cell? (ad.add (j * d.sz + i)) = some u) :
    ∀ m, m ≤ xs.length → ∃ cs, Reps (d.K w) d.sz (xs.take m) cs ∧ (∀ j v, cs[j]? = some v → w.cell? (ad.add j) = some v) ∧ ∀ v ∈ cs, v.oneCell' = true := by
  intro m
  induction m with
  | zero => intro _; exact ⟨[], by rw [List.take_zero]; exact Reps.none _ _, by simp, by simp⟩
  | succ m ih =>
    intro hm
    obtain ⟨cs, h1, h2, h3⟩ := ih (by omega)
    have hp : xs[m]? = some xs[m] := List.getElem?_eq_getElem (by omega)
    obtain ⟨c, c1, c2, c3⟩ := h m _ hp
    have hl : cs.length = m * d.sz := by
      have := h1.1
      rw [List.length_take, Nat.min_eq_left (by omega)] at this
      exact this
    refine ⟨cs ++ c, ?_, fun j v hv => ?_, fun v hv => ?_⟩
    · rw [take_snoc' hp]
      exact Reps.snoc h1 c2 c1
    · rcases Nat.lt_or_ge j cs.length with hj | hj
      · rw [List.getElem?_append_left hj] at hv
        exact h2 j v hv
      · rw [List.getElem?_append_right hj] at hv
        have := c3 _ v hv
        rwa [show m * d.sz + (j - cs.length) = j from by omega] at this
    · rcases List.mem_append.1 hv with hv | hv
      · exact h3 v hv
      · exact d.K_one c2 v hv

/-- The builtin copy over cells, whatever an element's size: from a row's head. -/
theorem run_copy_cells {P : Program} (w : World) (dT sT ty elem : TypeId) (g dLen dCap : Nat) (ad : Addr) (sLen sCap : Nat) (cur : Array Value) (t : TypeId) (cs : List Value) {i : TypeInfo}
    (hu : P.underlying dT = some (.slice elem)) (hi : P.info? elem = some i)
    (hg : w.heap[g]? = some (.cells cur t (0, 0))) (hn : cs.length = Nat.min sLen dLen * i.size)
    (hsrc : ∀ j v, cs[j]? = some v → w.cell? (ad.add j) = some v) (hfit : cs.length ≤ cur.size) (h1 : ∀ v ∈ cs, v.oneCell' = true) :
    (Builtin.copy_ #[dT, sT] ty #[.slice (some ⟨g, 0, none⟩) dLen dCap, .slice (some ad) sLen sCap]).run P w =
      .ok (goInt (Nat.min sLen dLen)) (w.setRow g (cs ++ cur.toList.drop cs.length).toArray) := by
  have hl := run_loadCells_list (P := P) w ad cs hsrc
  have hst := run_storeCells_at P g 0 t cs 0 cur w hg (by simpa using hfit) h1
  simp only [Nat.zero_add, List.take_zero, List.nil_append] at hst
  rw [hn] at hl
  simp [Builtin.copy_, run_underlying hu, Builtin.lenOf, Builtin.firstCells, sizeOf, typeInfo, hi, hl, hst]

section
variable {α : Type} {P : Program} {ops : Array Oper} {rest : List Oper} {o : Oper} {a : Act} {Q : Exit → Act → World → Prop}
/-- copy(v, s): v a row of the call's own, s a row of as many elements that is read. -/
theorem R_copy (d : Kd α) (hf : Flat d) {w0 W : World} (base e : Nat) (hgd : o.guard = none) (x s : Operand) (dT sT : TypeId)
    (ho : o.op = .call { callee := .builtin .copy, args := #[x, s], argTypes := #[dT, sT] }) (hu : P.underlying dT = some (.slice e)) (hsz : (P.info? e).map (·.size) = some d.sz)
    {v : Value} {ys xs : List α} {A : Option Addr} {n c : Nat} {ok : Nat → Prop} (hx : a.eval x = v) (hs : a.eval s = .slice A n c)
    (HO : Kd.R d e W base ok v ys) (hC : Kd.C d W A n xs) (hl : ys.length = n) (hn : 0 < n) (HB : Below base w0 W)
    (h : ∀ w1, Kd.R d e w1 base ok v xs → Below base w0 w1 → wpList P ops Q rest (a.put o.dst (goInt n)) w1) : wpList P ops Q (o :: rest) a W := by
  obtain ⟨hok, inner, hown, hreps⟩ := HO
  obtain ⟨hxl, hnm, hcell0⟩ := hC
  obtain ⟨ad, rfl, hcell⟩ := hcell0 hn
  obtain ⟨cs, r1, r2, r3⟩ := cells_of_row (d := d) hcell xs.length (Nat.le_refl _)
  rw [List.take_length] at r1
  obtain ⟨i, hi, hsi⟩ := Option.map_eq_some_iff.1 hsz
  rcases hown.2 with ⟨rfl, h0⟩ | ⟨g, cap, cur, rfl, hb, hh, hnc, hcm, hcs, htk⟩
  · omega
  · have hcl : cs.length = n * d.sz := by rw [r1.1, hxl]
    have hfit : cs.length ≤ cur.size := by rw [hcl, hcs]; exact Nat.mul_le_mul_right _ (by omega)
    have hrun := run_copy_cells (P := P) W dT sT o.type e g ys.length cap ad n c cur e cs hu hi hh (by rw [hcl, hsi, hl, show Nat.min n n = n from Nat.min_self n]) r2 hfit r3
    rw [hl, show Nat.min n n = n from Nat.min_self n] at hrun
    refine wpList_plain hgd fun K hK => ?_
    unfold Oper.wp execOp
    rw [hl] at hx
    simp only [ho, resolve, invoke, builtin, Sem.run_bind, Sem.run_pure, Result.andThen_ok, List.map_toArray, List.map_cons, List.map_nil, hx, hs, hrun]
    refine hK _ _ (h _ ⟨hok, cs, ⟨by rw [hcl, hxl], .inr ⟨g, cap, _, by rw [hxl, hl], hb, setRow_heap W g cur _ e _ hh, by omega, hcm, ?_, ?_⟩⟩, ?_⟩ (below_setRow HB hb _))
    · simp; omega
    · rw [hxl, ← hcl]; simp
    · exact r1.imp_ (fun p q hp => hf _ _ _ _ _ _ hp)
end
theorem flat_scalar {α : Type} (enc : α → Value) (h1 : ∀ x, (enc x).oneCell' = true) : Flat (Kd.scalar enc h1) := fun _ _ _ _ _ _ h => h
theorem flat_int (k : IntKind) : Flat (Kd.int k) := fun _ _ _ _ _ _ h => h
theorem flat_string : Flat Kd.string := fun _ _ _ _ _ _ h => h
theorem flat_bool : Flat Kd.bool := fun _ _ _ _ _ _ h => h
theorem flat_pair {α β : Type} {a : Kd α} {b : Kd β} (ha : Flat a) (hb : Flat b) : Flat (Kd.pair a b) := by
  rintro w w' base ok x cs ⟨c0, c1, rfl, h0, h1⟩
  exact ⟨c0, c1, rfl, ha _ _ _ _ _ _ h0, hb _ _ _ _ _ _ h1⟩
theorem flat_iso {α β : Type} {d : Kd α} (h : Flat d) (f : β → α) : Flat (Kd.iso d f) := fun w w' base ok x cs hk => h w w' base ok (f x) cs hk
end Go.Proofs.Ytdgigadocempdaa.Cpy
