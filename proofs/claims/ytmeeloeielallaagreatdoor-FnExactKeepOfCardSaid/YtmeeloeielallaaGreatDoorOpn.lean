/- What comes in, opened: structs, and slices of plain things. No condition beyond those that stand in each. -/
import Derived.Test.YtmeeloeielallaaGreatDoorSoE
import Derived.WalkKit
import Derived.ProofKit
import Derived.ChangeArms
import Derived.ChangeSame
namespace Go.Ev
set_option linter.unusedVariables false
set_option linter.unusedSimpArgs false
/-- A cell of what comes in: a plain thing, or a slice of rows of plain things. -/
inductive Pk where
 | s (c : Sc) | row (cs : List Sc)
def plainOf : List Pk → Option (List Sc)
 | [] => some []
 | .s c :: l => match plainOf l with
   | some cs => some (c :: cs)
   | none => none
 | .row _ :: _ => none
def flatF (P : Program) (f : TypeId → Option (List Pk)) : List Field → Nat → Option (List Pk × Nat)
 | [], off => some ([], off)
 | fd :: l, off => match decide (fd.offset = off), f fd.type, flatF P f l (off + P.cellsOf fd.type) with
   | true, some ps, some q => some (ps ++ q.1, q.2)
   | _, _, _ => none
def flatP (P : Program) : Nat → TypeId → Option (List Pk)
 | 0, _ => none
 | k + 1, t => match P.underlying t with
   | some .bool => some [.s .bool]
   | some (.int kd) => some [.s (.int kd)]
   | some .string => some [.s .str]
   | some (.slice e) => match flatP P k e with
     | some ps => match plainOf ps with
       | some cs => match decide (P.cellsOf e = cs.length), cs with
         | true, c :: cs => some [.row (c :: cs)]
         | _, _ => none
       | none => none
     | none => none
   | some (.struct fs) => match flatF P (flatP P k) fs.toList 0 with
     | some q => match decide (q.2 = P.cellsOf t) with
       | true => some q.1
       | false => none
     | none => none
   | _ => none
def wfc : (c : Sc) → c.T → Prop
 | .int .i64, n => -9223372036854775808 ≤ n ∧ n ≤ 9223372036854775807
 | .int .u8, n => 0 ≤ n ∧ n ≤ 255
 | .int _, _ => True
 | .bool, _ => True
 | .str, s => (s.size : Int) ≤ 9223372036854775807
def wfR : (cs : List Sc) → RowT cs → Prop
 | [], _ => True
 | [c], x => wfc c x
 | c :: d :: cs, x => wfc c x.1 ∧ wfR (d :: cs) x.2
/-- What the cells are, one behind the other. -/
def OkP : List Pk → List PC → Prop
 | [], qs => qs = []
 | .s c :: l, qs => ∃ (x : c.T) (qs' : List PC), qs = .s (c.v x) :: qs' ∧ wfc c x ∧ OkP l qs'
 | .row cs :: l, qs => ∃ (xs : List (RowT cs)) (qs' : List PC), qs = .row .ro cs xs :: qs' ∧ (xs.length : Int) ≤ 9223372036854775807 ∧ (∀ x ∈ xs, wfR cs x) ∧ OkP l qs'
theorem okP_append : ∀ {l m : List Pk} {a b : List PC}, OkP l a → OkP m b → OkP (l ++ m) (a ++ b)
 | [], m, a, b, h1, h2 => by
   have : a = [] := h1
   subst this
   exact h2
 | .s c :: l, m, a, b, h1, h2 => by
   obtain ⟨x, q, rfl, w, h⟩ := h1
   exact ⟨x, q ++ b, rfl, w, okP_append h h2⟩
 | .row cs :: l, m, a, b, h1, h2 => by
   obtain ⟨x, q, rfl, w1, w2, h⟩ := h1
   exact ⟨x, q ++ b, rfl, w1, w2, okP_append h h2⟩
theorem all2_append {α β : Type} {R : α → β → Prop} : ∀ {a : List α} {b : List β} {c : List α} {d : List β}, All2 R a b → All2 R c d → All2 R (a ++ c) (b ++ d)
 | _, _, _, _, .nil, h => h
 | _, _, _, _, .cons h1 h2, h => .cons h1 (all2_append h2 h)
/-- Cells of plain things only: a row. -/
theorem okP_row {kind : Kind → Kind} {w : World} : ∀ {ps : List Pk} {cs : List Sc}, plainOf ps = some cs → ∀ {qs : List PC} {vals : List Value}, OkP ps qs → All2 (PCIs kind w) qs vals → ∃ r : RowT cs, vals = enc cs r ∧ wfR cs r
 | [], cs, h, qs, vals, h1, h2 => by
   have : qs = [] := h1
   subst this
   cases h2
   cases h
   exact ⟨(), rfl, trivial⟩
 | .row _ :: l, cs, h, qs, vals, h1, h2 => by cases h
 | .s c :: l, cs, h, qs, vals, h1, h2 => by
   obtain ⟨x, q, rfl, w, h1⟩ := h1
   cases h2 with
   | cons g1 g2 =>
     have g1 := g1.1
     subst g1
     unfold plainOf at h
     cases hl : plainOf l with
     | none => rw [hl] at h; cases h
     | some ds =>
       rw [hl] at h
       cases h
       obtain ⟨r, hr, hw⟩ := okP_row hl h1 g2
       cases ds with
       | nil => exact ⟨x, by rw [hr]; rfl, w⟩
       | cons d ds => exact ⟨(x, r), by rw [hr]; rfl, w, hw⟩
theorem okP_noRow : ∀ {ps : List Pk} {cs : List Sc}, plainOf ps = some cs → ¬ ∃ ds, Pk.row ds ∈ ps
 | [], _, _ => fun ⟨_, h⟩ => by cases h
 | .row _ :: _, _, h => by cases h
 | .s c :: l, cs, h => by
   unfold plainOf at h
   cases hl : plainOf l with
   | none => rw [hl] at h; cases h
   | some ds =>
     intro ⟨e, he⟩
     rcases List.mem_cons.1 he with he | he
     · cases he
     · exact okP_noRow hl ⟨e, he⟩
theorem choose_list {α : Type} {Q : Nat → α → Prop} : ∀ n : Nat, (∀ i, i < n → ∃ x, Q i x) → ∃ xs : List α, xs.length = n ∧ ∀ i x, xs[i]? = some x → Q i x
 | 0, _ => ⟨[], rfl, fun i x h => by simp at h⟩
 | n + 1, h => by
   obtain ⟨xs, h1, h2⟩ := choose_list n fun i hi => h i (by omega)
   obtain ⟨x, hx⟩ := h n (by omega)
   refine ⟨xs ++ [x], by simp [h1], fun i y hy => ?_⟩
   by_cases hi : i < xs.length
   · rw [List.getElem?_append_left hi] at hy
     exact h2 i y hy
   · rw [List.getElem?_append_right (by omega)] at hy
     have : i - xs.length = 0 := by
       have := (List.getElem?_eq_some_iff.1 hy).1
       simp at this
       omega
     rw [this] at hy
     simp at hy
     subst hy
     rw [show i = n by omega]
     exact hx
/-- Where the slices among these lie. -/
def Lies (w : World) (vals : List Value) : Prop := ∀ v ∈ vals, ∀ (x : Addr) (len cap : Nat), v = .slice (some x) len cap → x.spot = none ∧ ∃ cells ty fr, w.heap[x.block]? = some (.cells cells ty fr)
theorem add_add (a : Addr) (i j : Nat) : (a.add i).add j = a.add (i + j) := by
 unfold Addr.add
 by_cases h1 : i = 0
 · subst h1; simp
 · by_cases h2 : j = 0
   · subst h2; simp [h1]
   · simp [h1, h2, Nat.add_assoc]
theorem RowIs_mk {w : World} {cs : List Sc} (hcs : 0 < cs.length) {xs : List (RowT cs)} {x : Addr} {cap : Nat} (h1 : xs.length ≤ cap) (h2 : x.spot = none ∧ ∃ cells ty fr, w.heap[x.block]? = some (.cells cells ty fr))
   (h : ∀ i r, xs[i]? = some r → ∀ j, j < cs.length → w.cell? (x.add (i * cs.length + j)) = (enc cs r)[j]?) : RowIs w cs xs (.slice (some x) xs.length cap) := by
 obtain ⟨h2, cells, ty, fr, h3⟩ := h2
 refine ⟨some x, cap, rfl, h1, (fun e => by cases e), fun p hp => ?_⟩
 cases hp
 refine ⟨h2, cells, ty, fr, h3, fun j v hj => ?_⟩
 have hjl := (List.getElem?_eq_some_iff.1 hj).1
 rw [flat_length (enc cs) cs.length (enc_length cs)] at hjl
 have hdiv : j / cs.length < xs.length := Nat.div_lt_of_lt_mul (by rw [Nat.mul_comm]; exact hjl)
 have hmod : j % cs.length < cs.length := Nat.mod_lt _ hcs
 have hsplit : j / cs.length * cs.length + j % cs.length = j := by rw [Nat.mul_comm]; exact Nat.div_add_mod _ _
 have hx : xs[j / cs.length]? = some xs[j / cs.length] := List.getElem?_eq_getElem hdiv
 have := h _ _ hx (j % cs.length) hmod
 rw [hsplit] at this
 have hg := flat_get (enc cs) cs.length (enc_length cs) xs (j / cs.length) (j % cs.length) _ hx hmod
 rw [hsplit, hj] at hg
 rw [← hg] at this
 have hb : (x.add j).block = x.block := by unfold Addr.add; split <;> rfl
 have ho : (x.add j).off = x.off + j := by
   unfold Addr.add
   split
   · rename_i e; subst e; rfl
   · rfl
 have hs : (x.add j).spot = x.spot := by unfold Addr.add; split <;> simp [h2]
 unfold World.cell? at this
 rw [hb, h3, hs, h2, ho] at this
 simpa using this
section
variable {H : Type} {enc' : TypeId × Value → H} {P : Program} {w : World} {base : Nat} {held : Bool}
theorem flatF_open (f : TypeId → Option (List Pk)) (vals : List Value) (n : Nat)
   (ih : ∀ t ps, f t = some ps → ∀ (vs : List Value) (x : DataW H × List MemPlace), DataW.trod enc' P w base (fun _ => true) held n t vs = some x → ((∃ ds, Pk.row ds ∈ ps) → Lies w vs) → ∃ qs, OkP ps qs ∧ All2 (PCIs (fun _ => .ro) w) qs vs) :
   ∀ (l : List Field) (off : Nat) (q : List Pk × Nat), flatF P f l off = some q → q.2 = vals.length → ((∃ ds, Pk.row ds ∈ q.1) → Lies w vals) →
   (∀ fd ∈ l, ∃ y, DataW.trod enc' P w base (fun _ => true) held n fd.type ((vals.drop fd.offset).take (P.cellsOf fd.type)) = some y) →
   ∃ qs, OkP q.1 qs ∧ All2 (PCIs (fun _ => .ro) w) qs (vals.drop off) := by
 intro l
 induction l with
 | nil =>
   intro off q h hq _ _
   cases h
   exact ⟨[], rfl, by rw [List.drop_eq_nil_of_le (by rw [← hq]; exact Nat.le_refl _)]; exact .nil⟩
 | cons fd l ihl =>
   intro off q h hq hl hd
   unfold flatF at h
   split at h
   · rename_i ps q' e1 e2 e3
     cases h
     have e1 := of_decide_eq_true e1
     obtain ⟨y, hy⟩ := hd fd (by simp)
     rw [e1] at hy
     obtain ⟨a, a1, a2⟩ := ih _ _ e2 _ _ hy fun ⟨ds, hds⟩ v hv => hl ⟨ds, List.mem_append_left _ hds⟩ v (List.mem_of_mem_drop (List.mem_of_mem_take hv))
     obtain ⟨b, b1, b2⟩ := ihl _ _ e3 hq (fun ⟨ds, hds⟩ => hl ⟨ds, List.mem_append_right _ hds⟩) fun z hz => hd z (by simp [hz])
     refine ⟨a ++ b, okP_append a1 b1, ?_⟩
     have := all2_append a2 b2
     rw [take_drop_step] at this
     exact this
   · cases h
theorem flat_open : ∀ (k : Nat) (t : TypeId) (ps : List Pk), flatP P k t = some ps → ∀ (fuel : Nat) (vals : List Value) (x : DataW H × List MemPlace), DataW.trod enc' P w base (fun _ => true) held fuel t vals = some x → ((∃ ds, Pk.row ds ∈ ps) → Lies w vals) →
   ∃ qs, OkP ps qs ∧ All2 (PCIs (fun _ => .ro) w) qs vals := by
 intro k
 induction k with
 | zero => intro t ps h; cases h
 | succ k ih =>
   intro t ps h fuel vals x hx hl
   unfold flatP at h
   split at h
   · rename_i ht
     cases h
     obtain ⟨b, rfl, _⟩ := DataW.trod_bool ht hx
     exact ⟨[.s (.bool b)], ⟨b, [], rfl, trivial, rfl⟩, .cons ⟨rfl, rfl⟩ .nil⟩
   · rename_i kd ht
     cases h
     obtain ⟨n, rfl, _, hw⟩ := DataW.trod_int ht hx
     refine ⟨[.s (.int kd n)], ⟨n, [], rfl, ?_, rfl⟩, .cons ⟨rfl, rfl⟩ .nil⟩
     cases kd <;> first | exact trivial | (simp [Lit.wf, IntKind.min, IntKind.max, IntKind.signed, IntKind.bits] at hw; unfold wfc; omega)
   · rename_i ht
     cases h
     obtain ⟨s, rfl, _, hw⟩ := DataW.trod_string ht hx
     refine ⟨[.s (.string s)], ⟨s, [], rfl, ?_, rfl⟩, .cons ⟨rfl, rfl⟩ .nil⟩
     unfold maxLen at hw
     unfold wfc
     omega
   · rename_i e ht
     cases hf : flatP P k e with
     | none => rw [hf] at h; cases h
     | some qs =>
       rw [hf] at h
       cases hs : plainOf qs with
       | none => simp only [hs] at h; cases h
       | some cs =>
         simp only [hs] at h
         split at h
         · rename_i c cs' hc
           cases h
           have hc := of_decide_eq_true hc
           rcases DataW.trod_slice ht hx with ⟨rfl, _⟩ | ⟨a, len, cap, elems, rest, n, rfl, rfl, _, _, hlc, hcm, hlen, hel, _, _⟩
           · exact ⟨[.row .ro (c :: cs') []], ⟨[], [], rfl, by simp, (fun x hx => by cases hx), rfl⟩, .cons ⟨by simp, RowIs_nil _, fun h => absurd rfl h⟩ .nil⟩
           · have hli := hl ⟨c :: cs', List.mem_singleton.2 rfl⟩ _ (List.mem_singleton.2 rfl) a len cap rfl
             have each : ∀ i, i < len → ∃ r : RowT (c :: cs'), (w.cells? base (a.add (i * (c :: cs').length)) (c :: cs').length = some (enc (c :: cs') r)) ∧ wfR (c :: cs') r := by
               intro i hi
               have h1 := hel i hi
               rw [List.getElem?_eq_getElem (by omega), Option.bind_eq_some_iff] at h1
               obtain ⟨vs, h1, h2⟩ := h1
               obtain ⟨ps, p1, p2⟩ := ih e qs hf _ _ _ h2 fun h => absurd h (okP_noRow hs)
               obtain ⟨r, rfl, hr⟩ := okP_row hs p1 p2
               rw [hc] at h1
               exact ⟨r, h1, hr⟩
             obtain ⟨xs, hxl, hxs⟩ := choose_list len each
             subst hxl
             refine ⟨[.row .ro (c :: cs') xs], ⟨xs, [], rfl, ?_, ?_, rfl⟩, .cons ⟨by simp, RowIs_mk (by simp) hlc hli ?_, fun h => absurd rfl h⟩ .nil⟩
             · unfold maxLen at hcm; omega
             · intro r hr
               obtain ⟨i, hi, rfl⟩ := List.mem_iff_getElem.1 hr
               exact (hxs i _ (List.getElem?_eq_getElem hi)).2
             · intro i r hr j hj
               have := (World.cells?_some (hxs i r hr).1).2.2 j hj
               rw [add_add] at this
               exact this
         · cases h
   · rename_i fs ht
     cases hf : flatF P (flatP P k) fs.toList 0 with
     | none => rw [hf] at h; cases h
     | some q =>
       rw [hf] at h
       simp only at h
       split at h
       · rename_i hq
         cases h
         have hq := of_decide_eq_true hq
         obtain ⟨xs, n, rfl, _, hvl, hxl, hfx⟩ := DataW.trod_struct ht hx
         have := flatF_open (enc' := enc') (P := P) (w := w) (base := base) (held := held) (flatP P k) vals n (fun t ps hp vs y hy hl' => ih t ps hp n vs y hy hl') fs.toList 0 q hf (by rw [hq, hvl]) hl fun fd hfd => by
           obtain ⟨i, hi, rfl⟩ := List.mem_iff_getElem.1 hfd
           have hi' : i < fs.size := by simpa using hi
           have := hfx i fs[i] (by simp [hi'])
           rw [List.getElem?_eq_getElem (by omega)] at this
           exact ⟨_, by simpa using this⟩
         rw [List.drop_zero] at this
         exact this
       · cases h
   · cases h
end
theorem cell_lies {P : Program} {W : World} {base : Nat} {u : TypeId} {x : Addr} {len cap : Nat} (h : Cell.okWide P W .any base u (.slice (some x) len cap)) : x.spot = none ∧ ∃ cells ty fr, W.heap[x.block]? = some (.cells cells ty fr) := by
 cases hu : P.underlying u with
 | none => simp [Cell.okWide, Cell.ok, hu] at h
 | some ty =>
   cases ty with
   | slice e =>
     have : Cell.ok P W .any base u (.slice (some x) len cap) := by
       unfold Cell.okWide at h
       rw [hu] at h
       exact h
     exact (slice_lies hu this).2
   | _ => simp [Cell.okWide, Cell.ok, hu] at h
theorem val_lies {P : Program} {W : World} {base : Nat} {t : TypeId} {v : Value} (h : Value.okWide P W .any base t v) : Lies W v.cells.toList := by
 have one : Cell.okWide P W .any base t v → Lies W v.cells.toList := by
   intro h c hc x len cap hx
   subst hx
   cases v with
   | agg cs => exfalso; cases hu : P.underlying t with
     | none => simp [Cell.okWide, Cell.ok, hu] at h
     | some ty => cases ty <;> simp [Cell.okWide, Cell.ok, hu] at h
   | slice a l c =>
     simp [Value.cells] at hc
     obtain ⟨rfl, rfl, rfl⟩ := hc
     exact cell_lies h
   | _ => simp [Value.cells] at hc
 have many : (∃ cs, v = .agg cs ∧ cs.size = P.cellsOf t ∧ Row.okWide P W .any base t cs) → Lies W v.cells.toList := by
   rintro ⟨cs, rfl, _, ts, _, _, hts⟩ c hc x len cap rfl
   obtain ⟨i, hi, he⟩ := List.mem_iff_getElem.1 hc
   have hi' : i < cs.size := by simpa [Value.cells] using hi
   obtain ⟨u, _, hu⟩ := hts i (.slice (some x) len cap) (by rw [Array.getElem?_eq_getElem hi']; rw [← he]; simp; rfl)
   exact cell_lies hu
 unfold Value.okWide at h
 split at h
 · exact many h
 · exact many h
 · exact one h
/-- What comes in, opened. -/
theorem open_any {H : Type} {enc' : TypeId × Value → H} {P : Program} {W : World} {base b : Nat} {held : Bool} {k : Nat} {t : TypeId} {ps : List Pk} (hf : flatP P k t = some ps) {v : Value} (hv : Value.okWide P W .any b t v) {d : DataW H} {p : List MemPlace}
   (h : DataW.Trod enc' P W base (fun _ => true) held t v d p) : ∃ qs, OkP ps qs ∧ All2 (PCIs (fun _ => .ro) W) qs v.cells.toList := by
 obtain ⟨fuel, h⟩ := h
 exact flat_open k t ps hf fuel _ _ h fun _ => val_lies hv
/-- As an argument: a slice. -/
theorem row_arg {P : Program} {W : World} {base : Nat} {t e : TypeId} (ht : P.underlying t = some (.slice e)) {v : Value} (hv : Value.okWide P W .any base t v) {q : PC} (h : All2 (PCIs (fun _ => .ro) W) [q] v.cells.toList) : RVIs (fun _ => .ro) W (.val false [q]) v := by
 refine ⟨q, rfl, ?_⟩
 unfold Value.okWide at hv
 rw [ht] at hv
 unfold Cell.okWide at hv
 rw [ht] at hv
 cases v with
 | slice a l c =>
   simp [Value.cells] at h
   cases h with
   | cons h1 h2 => exact h1
 | _ => simp [Cell.ok, ht] at hv
end Go.Ev
