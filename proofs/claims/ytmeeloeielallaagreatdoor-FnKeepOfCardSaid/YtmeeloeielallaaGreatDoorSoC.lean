/- That the machine does what the evaluator says: a part of the proof. No condition beyond those that stand in each. -/
import Derived.Test.YtmeeloeielallaaGreatDoorSoB
namespace Go.Ev
universe u
set_option linter.unusedVariables false
set_option linter.unusedSimpArgs false
/-! ### What goes in and out of a call, told of the memory; how it is given names. No condition beyond those that stand in each. -/
def isWr : Kind → Bool
 | .ro => false
 | _ => true
def PCIs (kind : Kind → Kind) (w : World) : PC → Value → Prop
 | .s v, x => x = v ∧ isAggV v = false
 | .row k cs xs, x => cs ≠ [] ∧ RowIs w cs xs x ∧ (kind k ≠ .ro → ∀ ad n cap, x = .slice (some ad) n cap → ∃ cells t fr, w.heap[ad.block]? = some (.cells cells t fr) ∧ Thaw cells fr ∧ (kind k = .own → ad.off = 0 ∧ cells.size = cap * cs.length))
def rowIts (m : Bool) : Value → List (Bool × Nat)
 | .slice (some ad) _ _ => [(m, ad.block)]
 | _ => []
/-- The blocks of what goes in or out; 'true' where it is to be written. -/
def pcIts (kind : Kind → Kind) : List PC → List Value → List (Bool × Nat)
 | .row k _ _ :: ps, x :: vs => rowIts (isWr (kind k)) x ++ pcIts kind ps vs
 | .s _ :: ps, _ :: vs => pcIts kind ps vs
 | _, _ => []
def RVIs (kind : Kind → Kind) (w : World) : RV → Value → Prop
 | .val false ps, x => ∃ p, ps = [p] ∧ PCIs kind w p x
 | .val true ps, x => ∃ vs, x = .agg vs ∧ All2 (PCIs kind w) ps vs.toList
 | .ref ps, x => ∃ r cells t fr, x = .pointer (some ⟨r, 0, none⟩) ∧ w.heap[r]? = some (.cells cells t fr) ∧ Thaw cells fr ∧ All2 (PCIs kind w) ps cells.toList
def cellsAt (w : World) (r : Nat) : List Value :=
 match w.heap[r]? with
 | some (.cells cells _ _) => cells.toList
 | _ => []
def rvIts (kind : Kind → Kind) (w : World) : RV → Value → List (Bool × Nat)
 | .val false ps, x => pcIts kind ps [x]
 | .val true ps, .agg vs => pcIts kind ps vs.toList
 | .ref ps, .pointer (some ad) => (true, ad.block) :: pcIts kind ps (cellsAt w ad.block)
 | _, _ => []
def AptIt (p q : Bool × Nat) : Prop := p.1 = true ∨ q.1 = true → p.2 ≠ q.2
section
variable {N : Nat} {W0 : World} {M : Fr} {st : St} {μ : Lay} {a : Act} {w : World}
/-- A block that is there gets a name. -/
theorem Inv.name (h : Inv N W0 M st μ a w) {id : Nat} (hn : st.bl id = none) (hid : M.lo ≤ id) {b : Blk} {m : Option Place} (hb : BR w (upd st.bl id (some b)) (upd μ id m) id b)
   (hap : ∀ p, m = some p → ∀ j d q, st.bl j = some d → d ≠ .gone → (Wr b ∨ Wr d) → μ j = some q → p.r ≠ q.r)
   (hnew : ∀ p, m = some p → W0.heap.size ≤ p.r ∨ (p.r ∈ M.all ∧ (Wr b → p.r ∈ M.ids))) : Inv N W0 M ⟨st.tm, upd st.bl id (some b)⟩ (upd μ id m) a w := by
 have hl := old_like (bl := st.bl) (μ := μ) (b := some b) (m := m) hn
 refine ⟨fun t => (h.tm t).mono hl, fun i c hc => ?_, ⟨?_, ?_, ?_⟩, h.since, h.size, h.defers, new_ent h.ent hid⟩
 · change upd st.bl id (some b) i = some c at hc
   rcases upd_cases st.bl id i (some b) with ⟨rfl, e⟩ | ⟨ne, e⟩
   · rw [e] at hc; cases hc; exact hb
   · rw [e] at hc
     exact (h.bl i c hc).keep hl (upd_ne _ _ ne) (fun _ _ _ _ h => h)
 · intro i j c d p q hij hc hd hw hg hp hq
   change upd st.bl id (some b) i = some c at hc
   change upd st.bl id (some b) j = some d at hd
   rcases upd_cases st.bl id i (some b) with ⟨rfl, e⟩ | ⟨ne, e⟩
   · have hj : j ≠ i := fun x => hij x.symm
     rw [upd_ne _ _ hj] at hd hq
     rw [upd_same] at hp
     rw [e] at hc; cases hc
     exact hap p hp j d q hd hg (.inl hw) hq
   · rw [e] at hc
     rw [upd_ne _ _ ne] at hp
     rcases upd_cases st.bl id j (some b) with ⟨rfl, e'⟩ | ⟨ne', e'⟩
     · rw [upd_same] at hq
       rw [e'] at hd; cases hd
       have hcg : c ≠ .gone := by intro x; subst x; exact hw
       exact fun x => hap q hq i c p hc hcg (.inr hw) hp x.symm
     · rw [e'] at hd; rw [upd_ne _ _ ne'] at hq
       exact h.ap.two i j c d p q hij hc hd hw hg hp hq
 · intro i c p hc hw hp
   change upd st.bl id (some b) i = some c at hc
   rcases upd_cases st.bl id i (some b) with ⟨rfl, e⟩ | ⟨ne, e⟩
   · rw [upd_same] at hp
     rw [e] at hc; cases hc
     rcases hnew p hp with g | g
     · exact .inl g
     · exact .inr (g.2 hw)
   · rw [e] at hc; rw [upd_ne _ _ ne] at hp; exact h.ap.new i c p hc hw hp
 · intro i c p hc hw hp
   change upd st.bl id (some b) i = some c at hc
   rcases upd_cases st.bl id i (some b) with ⟨rfl, e⟩ | ⟨ne, e⟩
   · rw [upd_same] at hp
     exact (hnew p hp).imp (fun h => h) (fun g => g.1)
   · rw [e] at hc; rw [upd_ne _ _ ne] at hp; exact h.ap.old i c p hc hw hp
/-- What has been given names: 'L' are the new blocks, 'its' is where they stand. -/
structure Took (N : Nat) (W0 : World) (M : Fr) (a : Act) (w : World) (tm : Nat → LV) (bl : Nat → Option Blk) (μ : Lay) (L : List (Nat × Blk)) (its : List (Bool × Nat)) (μ' : Lay) : Prop where
 inv : Inv N W0 M ⟨tm, updL bl L⟩ μ' a w
 same : ∀ j, (∀ b, (j, b) ∉ L) → μ' j = μ j
 new : ∀ j b q, (j, b) ∈ L → μ' j = some q → ∃ it ∈ its, it.2 = q.r ∧ (Wr b → it.1 = true)
/-- What stands against it: nothing that is known. -/
def Free (W0 : World) (M : Fr) (bl : Nat → Option Blk) (μ : Lay) (its : List (Bool × Nat)) : Prop :=
 its.Pairwise AptIt ∧ (∀ it ∈ its, ∀ j d q, bl j = some d → d ≠ .gone → (it.1 = true ∨ Wr d) → μ j = some q → it.2 ≠ q.r) ∧ ∀ it ∈ its, W0.heap.size ≤ it.2 ∨ (it.2 ∈ M.all ∧ (it.1 = true → it.2 ∈ M.ids))
theorem updL_none {α : Type u} {f : Nat → Option α} : ∀ {L : List (Nat × α)} {j : Nat}, (∀ b, (j, b) ∉ L) → updL f L j = f j
 | [], _, _ => rfl
 | (n, v) :: l, j, h => by
   have ne : j ≠ n := fun e => h v (by simp [e])
   show upd (updL f l) n (some v) j = _
   rw [upd_ne _ _ ne]
   exact updL_none fun b hb => h b (by simp [hb])
theorem updL_mem {α : Type u} {f : Nat → Option α} : ∀ {L : List (Nat × α)} {j : Nat} {b : α}, updL f L j = some b → (j, b) ∈ L ∨ ((∀ c, (j, c) ∉ L) ∧ f j = some b)
 | [], _, _, h => .inr ⟨fun c hc => by simp at hc, h⟩
 | (n, v) :: l, j, b, h => by
   change upd (updL f l) n (some v) j = some b at h
   rcases upd_cases (updL f l) n j (some v) with ⟨rfl, e⟩ | ⟨ne, e⟩
   · rw [e] at h; cases h; left; simp
   · rw [e] at h
     rcases updL_mem h with g | ⟨g1, g2⟩
     · left; simp [g]
     · right
       refine ⟨fun c hc => ?_, g2⟩
       simp only [List.mem_cons, Prod.mk.injEq] at hc
       rcases hc with ⟨rfl, _⟩ | hc
       · exact ne rfl
       · exact g1 c hc
theorem updL_app {α : Type u} (f : Nat → Option α) : ∀ (L L' : List (Nat × α)), updL f (L ++ L') = updL (updL f L') L
 | [], _ => rfl
 | (n, v) :: l, L' => by
   show upd (updL f (l ++ L')) n (some v) = upd (updL (updL f L') l) n (some v)
   rw [updL_app f l L']
theorem fst_mem {L : List (Nat × Blk)} {j : Nat} {b : Blk} (h : (j, b) ∈ L) : j ∈ fstB L := by
 induction L with
 | nil => cases h
 | cons x l ih =>
   obtain ⟨n, c⟩ := x
   simp only [List.mem_cons, Prod.mk.injEq] at h
   show j ∈ n :: fstB l
   rcases h with ⟨rfl, _⟩ | h
   · simp
   · simp [ih h]
theorem fstB_app (L L' : List (Nat × Blk)) : fstB (L ++ L') = fstB L ++ fstB L' := by
 induction L with
 | nil => rfl
 | cons x l ih => obtain ⟨n, c⟩ := x; show n :: fstB (l ++ L') = n :: _; rw [ih]; rfl
theorem apart_app : ∀ {l m : List Nat}, apartB (l ++ m) = true → apartB l = true ∧ apartB m = true ∧ ∀ x ∈ l, x ∉ m
 | [], m, h => ⟨rfl, h, fun x hx => by cases hx⟩
 | n :: l, m, h => by
   obtain ⟨h1, h2⟩ := apart_cons (n := n) (l := l ++ m) h
   obtain ⟨g1, g2, g3⟩ := apart_app h2
   refine ⟨?_, g2, fun x hx hm => ?_⟩
   · simp only [apartB, Bool.and_eq_true, List.all_eq_true]
     refine ⟨fun x hx => ?_, g1⟩
     have := h1 x (by simp [hx])
     simp only [Bool.not_eq_true']
     cases hb : Nat.beq n x with
     | true => exact absurd (Nat.eq_of_beq_eq_true hb).symm this
     | false => rfl
   · simp only [List.mem_cons] at hx
     rcases hx with rfl | hx
     · exact h1 x (by simp [hm]) rfl
     · exact g3 x hx hm
theorem Took.nil (h : Inv N W0 M st μ a w) : Took N W0 M a w st.tm st.bl μ [] [] μ := ⟨h, fun _ _ => rfl, fun j b q hj => by cases hj⟩
/-- One after the other. -/
theorem Took.free {tm : Nat → LV} {bl : Nat → Option Blk} {L : List (Nat × Blk)} {its its' : List (Bool × Nat)} {μ' : Lay} (T : Took N W0 M a w tm bl μ L its μ') (hf : Free W0 M bl μ (its' ++ its)) : Free W0 M (updL bl L) μ' its' := by
 obtain ⟨h1, h2, h3⟩ := hf
 obtain ⟨g1, g2, g3⟩ := List.pairwise_append.mp h1
 refine ⟨g1, fun it hit j d q hd hg hw hq => ?_, fun it hit => h3 it (by simp [hit])⟩
 rcases updL_mem hd with hm | ⟨hm, hd⟩
 · obtain ⟨it', e1, e2, e3⟩ := T.new j d q hm hq
   rw [← e2]
   exact g3 it hit it' e1 (hw.imp (fun h => h) e3)
 · rw [T.same j hm] at hq
   exact h2 it (by simp [hit]) j d q hd hg hw hq
theorem Took.app {tm : Nat → LV} {bl : Nat → Option Blk} {L L' : List (Nat × Blk)} {its its' : List (Bool × Nat)} {μ1 μ2 : Lay} (T : Took N W0 M a w tm bl μ L its μ1) (T' : Took N W0 M a w tm (updL bl L) μ1 L' its' μ2) (hap : ∀ x ∈ fstB L', x ∉ fstB L) :
   Took N W0 M a w tm bl μ (L' ++ L) (its' ++ its) μ2 := by
 refine ⟨by rw [updL_app]; exact T'.inv, fun j hj => ?_, fun j b q hj hq => ?_⟩
 · rw [T'.same j fun b hb => hj b (by simp [hb]), T.same j fun b hb => hj b (by simp [hb])]
 · simp only [List.mem_append] at hj
   rcases hj with hj | hj
   · obtain ⟨it, e1, e2⟩ := T'.new j b q hj hq
     exact ⟨it, by simp [e1], e2⟩
   · have hn : ∀ c, (j, c) ∉ L' := fun c hc => hap j (fst_mem hc) (fst_mem hj)
     rw [T'.same j hn] at hq
     obtain ⟨it, e1, e2⟩ := T.new j b q hj hq
     exact ⟨it, by simp [e1], e2⟩
/-- One block gets a name. -/
theorem Took.one (h : Inv N W0 M st μ a w) {id : Nat} (hn : st.bl id = none) (hid : M.lo ≤ id) {b : Blk} {m : Option Place} (hb : BR w (upd st.bl id (some b)) (upd μ id m) id b) {its : List (Bool × Nat)}
   (hits : ∀ p, m = some p → ∃ it ∈ its, it.2 = p.r ∧ (Wr b → it.1 = true) ∧ (it.1 = true → Wr b)) (hf : Free W0 M st.bl μ its) : Took N W0 M a w st.tm st.bl μ [(id, b)] its (upd μ id m) := by
 obtain ⟨h1, h2, h3⟩ := hf
 refine ⟨h.name hn hid hb (fun p hp j d q hd hg hw hq => ?_) (fun p hp => ?_), fun j hj => ?_, fun j c q hj hq => ?_⟩
 · obtain ⟨it, e1, e2, e3, _⟩ := hits p hp
   rw [← e2]
   exact h2 it e1 j d q hd hg (hw.imp e3 (fun h => h)) hq
 · obtain ⟨it, e1, e2, e3, _⟩ := hits p hp
   rw [← e2]
   exact (h3 it e1).imp (fun h => h) (fun g => ⟨g.1, fun hw => g.2 (e3 hw)⟩)
 · exact upd_ne _ _ fun e => hj b (by simp [e])
 · simp only [List.mem_singleton, Prod.mk.injEq] at hj
   obtain ⟨rfl, rfl⟩ := hj
   rw [upd_same] at hq
   obtain ⟨it, e1, e2, e3, _⟩ := hits q hq
   exact ⟨it, e1, e2, e3⟩
theorem RowIs.drew {cs : List Sc} {xs : List (RowT cs)} {x : Value} (h : RowIs w cs xs x) : (∃ cap, x = .slice none 0 0 ∧ xs = [] ∧ cap = 0) ∨ ∃ r off cap cells t fr, x = .slice (some ⟨r, off, none⟩) xs.length cap ∧ xs.length ≤ cap ∧ w.heap[r]? = some (.cells cells t fr) ∧ ∀ (j : Nat) v, (xs.flatMap (enc cs))[j]? = some v → cells[off + j]? = some v := by
 obtain ⟨ad, cap, rfl, h1, h2, h3⟩ := h
 cases ad with
 | none => obtain ⟨rfl, rfl⟩ := h2 rfl; exact .inl ⟨0, rfl, rfl, rfl⟩
 | some p =>
   obtain ⟨hs, cells, t, fr, h4, h5⟩ := h3 p rfl
   obtain ⟨r, off, sp⟩ := p
   simp only at hs h4 h5
   subst hs
   exact .inr ⟨r, off, cap, cells, t, fr, rfl, h1, h4, h5⟩
theorem isWr_iff {k : Kind} {cs : List Sc} {xs : List (RowT cs)} : (Wr (.row k cs xs) → isWr k = true) ∧ (isWr k = true → Wr (.row k cs xs)) := by
 cases k <;> simp [Wr, isWr]
/-- A row that comes in. -/
theorem row_takes (h : Inv N W0 M st μ a w) (kind : Kind → Kind) {id : Nat} (hn : st.bl id = none) (hid : M.lo ≤ id) {k : Kind} {cs : List Sc} {xs : List (RowT cs)} {x : Value} (hx : PCIs kind w (.row k cs xs) x) (hf : Free W0 M st.bl μ (rowIts (isWr (kind k)) x)) :
   ∃ μ', Took N W0 M a w st.tm st.bl μ [(id, .row (kind k) cs xs)] (rowIts (isWr (kind k)) x) μ' ∧ RC (updL st.bl [(id, .row (kind k) cs xs)]) μ' (.sl id) x := by
 obtain ⟨hcs, hrow, hwr⟩ := hx
 rcases hrow.drew with ⟨cap, rfl, rfl, _⟩ | ⟨r, off, cap, cells, t, fr, rfl, h1, h2, h3⟩
 · have hB : BR w (upd st.bl id (some (.row (kind k) cs []))) (upd μ id none) id (.row (kind k) cs []) := ⟨hcs, by rw [upd_same]⟩
   refine ⟨upd μ id none, Took.one h hn hid hB (fun p hp => by cases hp) hf, _, 0, upd_same _ _ _, ?_, fun k ds ys e => by cases e; rfl⟩
   rw [upd_same]; exact ⟨rfl, rfl⟩
 · have hfacts : kind k ≠ .ro → Thaw cells fr ∧ (kind k = .own → off = 0 ∧ cells.size = cap * cs.length) := by
     intro hk
     obtain ⟨cells', t', fr', g1, g2, g3⟩ := hwr hk _ _ _ rfl
     rw [h2] at g1; cases g1
     exact ⟨g2, g3⟩
   have hB : BR w (upd st.bl id (some (.row (kind k) cs xs))) (upd μ id (some ⟨r, off, cap, cs.length⟩)) id (.row (kind k) cs xs) := by
     refine ⟨hcs, ?_⟩
     rw [upd_same]
     exact ⟨h1, rfl, cells, t, fr, h2, h3, fun hk => (hfacts (by rw [hk]; simp)).2 hk, fun hk => (hfacts hk).1⟩
   refine ⟨upd μ id (some ⟨r, off, cap, cs.length⟩), Took.one h hn hid hB (fun p hp => ?_) hf, _, xs.length, upd_same _ _ _, ?_, fun k ds ys e => by cases e; rfl⟩
   · cases hp
     exact ⟨_, List.mem_singleton.mpr rfl, rfl, isWr_iff.1, isWr_iff.2⟩
   · rw [upd_same]; exact ⟨h1, rfl⟩
theorem Took.keeps {tm : Nat → LV} {bl : Nat → Option Blk} {L : List (Nat × Blk)} {its : List (Bool × Nat)} {μ' : Lay} (T : Took N W0 M a w tm bl μ L its μ') (hf : ∀ j ∈ fstB L, bl j = none) : ∀ j b, bl j = some b → ∃ b', updL bl L j = some b' ∧ Like b b' ∧ μ' j = μ j := by
 intro j b hb
 have hn : ∀ c, (j, c) ∉ L := fun c hc => by rw [hf j (fst_mem hc)] at hb; cases hb
 exact ⟨b, by rw [updL_none hn]; exact hb, Like.refl b, T.same j hn⟩
theorem Free.tail {bl : Nat → Option Blk} {its its' : List (Bool × Nat)} (hf : Free W0 M bl μ (its' ++ its)) : Free W0 M bl μ its :=
 ⟨(List.pairwise_append.mp hf.1).2.1, fun it hit => hf.2.1 it (by simp [hit]), fun it hit => hf.2.2 it (by simp [hit])⟩
theorem takeIn_sound (kind : Kind → Kind) : ∀ (ps : List PC) (vs : List Value) (id : Nat) (tm : Nat → LV) (bl : Nat → Option Blk) (μ : Lay), Inv N W0 M ⟨tm, bl⟩ μ a w → M.lo ≤ id → All2 (PCIs kind w) ps vs →
   (∀ j ∈ fstB (takeIn kind id ps).2, bl j = none) → apartB (fstB (takeIn kind id ps).2) = true → Free W0 M bl μ (pcIts kind ps vs) →
   ∃ μ', Took N W0 M a w tm bl μ (takeIn kind id ps).2 (pcIts kind ps vs) μ' ∧ All2 (RC (updL bl (takeIn kind id ps).2) μ') (takeIn kind id ps).1 vs
 | [], _, id, tm, bl, μ, h, hid, .nil, _, _, _ => ⟨μ, Took.nil h, .nil⟩
 | .s v :: ps, _, id, tm, bl, μ, h, hid, .cons (b := x) (m := vs) h1 h2, hn, ha, hf => by
   obtain ⟨μ', T, hr⟩ := takeIn_sound kind ps vs (id + 1) tm bl μ h (by omega) h2 hn ha hf
   exact ⟨μ', T, .cons h1 hr⟩
 | .row k cs xs :: ps, _, id, tm, bl, μ, h, hid, .cons (b := x) (m := vs) h1 h2, hn, ha, hf => by
   obtain ⟨a1, a2⟩ := apart_cons (n := id) (l := fstB (takeIn kind (id + 1) ps).2) ha
   obtain ⟨μ1, T, hr⟩ := takeIn_sound kind ps vs (id + 1) tm bl μ h (by omega) h2 (fun j hj => hn j (List.mem_cons_of_mem _ hj)) a2 hf.tail
   have hid' : ∀ b, (id, b) ∉ (takeIn kind (id + 1) ps).2 := fun b hb => a1 id (fst_mem hb) rfl
   have hnone : updL bl (takeIn kind (id + 1) ps).2 id = none := by rw [updL_none hid']; exact hn id (List.mem_cons_self ..)
   obtain ⟨μ2, T2, hr2⟩ := row_takes (st := ⟨tm, updL bl (takeIn kind (id + 1) ps).2⟩) T.inv kind hnone hid h1 (T.free hf)
   have hk := T2.keeps (fun j hj => by
     simp only [fstB, List.mem_singleton] at hj; subst hj; exact hnone)
   exact ⟨μ2, T.app T2 (fun y hy => by
     simp only [fstB, List.mem_singleton] at hy; subst hy; exact fun hm => a1 y hm rfl), .cons hr2 (hr.imp fun _ _ h => h.mono hk)⟩
end
/-! ### What goes in and out of a call: whole values, answers, arguments. No condition beyond those that stand in each. -/
section
variable {N : Nat} {W0 : World} {M : Fr} {st : St} {μ : Lay} {a : Act} {w : World}
theorem takeRV_sound (kind : Kind → Kind) (v : RV) (x : Value) (id : Nat) (tm : Nat → LV) (bl : Nat → Option Blk) (μ : Lay) (h : Inv N W0 M ⟨tm, bl⟩ μ a w) (hid : M.lo ≤ id) (hx : RVIs kind w v x)
   (hn : ∀ j ∈ fstB (takeRV kind id v).2, bl j = none) (ha : apartB (fstB (takeRV kind id v).2) = true) (hf : Free W0 M bl μ (rvIts kind w v x)) :
   ∃ μ', Took N W0 M a w tm bl μ (takeRV kind id v).2 (rvIts kind w v x) μ' ∧ RP (updL bl (takeRV kind id v).2) μ' (takeRV kind id v).1 x := by
 cases v with
 | val agg ps =>
   cases agg with
   | false =>
     obtain ⟨p, rfl, hp⟩ := hx
     obtain ⟨μ', T, hr⟩ := takeIn_sound kind [p] [x] id tm bl μ h hid (.cons hp .nil) hn ha hf
     refine ⟨μ', T, ?_⟩
     change RP _ μ' (false, (takeIn kind id [p]).1) x
     have hl : ∃ c, (takeIn kind id [p]).1 = [c] := by cases p <;> exact ⟨_, rfl⟩
     obtain ⟨c, hc⟩ := hl
     rw [hc] at hr ⊢
     cases hr with
     | cons h1 h2 => exact ⟨c, rfl, h1⟩
   | true =>
     obtain ⟨vs, rfl, hp⟩ := hx
     obtain ⟨μ', T, hr⟩ := takeIn_sound kind ps vs.toList id tm bl μ h hid hp hn ha hf
     exact ⟨μ', T, vs, rfl, hr⟩
 | ref ps =>
   obtain ⟨r, cells, t, fr, rfl, h1, h2, h3⟩ := hx
   have hat : cellsAt w r = cells.toList := by unfold cellsAt; rw [h1]
   change Free W0 M bl μ ((true, r) :: pcIts kind ps (cellsAt w r)) at hf
   rw [hat] at hf
   change apartB ((id + 31) :: fstB (takeIn kind id ps).2) = true at ha
   obtain ⟨a1, a2⟩ := apart_cons ha
   obtain ⟨μ1, T, hr⟩ := takeIn_sound kind ps cells.toList id tm bl μ h hid h3 (fun j hj => hn j (List.mem_cons_of_mem _ hj)) a2 (Free.tail (its' := [(true, r)]) hf)
   have hid' : ∀ b, (id + 31, b) ∉ (takeIn kind id ps).2 := fun b hb => a1 _ (fst_mem hb) rfl
   have hnone : updL bl (takeIn kind id ps).2 (id + 31) = none := by rw [updL_none hid']; exact hn _ (List.mem_cons_self ..)
   have hlike := old_like (bl := updL bl (takeIn kind id ps).2) (μ := μ1) (id := id + 31) (b := some (.box (takeIn kind id ps).1)) (m := some ⟨r, 0, 0, 0⟩) hnone
   have hB : BR w (upd (updL bl (takeIn kind id ps).2) (id + 31) (some (.box (takeIn kind id ps).1))) (upd μ1 (id + 31) (some ⟨r, 0, 0, 0⟩)) (id + 31) (.box (takeIn kind id ps).1) :=
     ⟨⟨r, 0, 0, 0⟩, cells, t, fr, upd_same _ _ _, rfl, h1, h2, hr.imp fun _ _ h => h.mono hlike⟩
   have T2 := Took.one (st := ⟨tm, updL bl (takeIn kind id ps).2⟩) T.inv hnone (by omega) hB (its := [(true, r)]) (fun p hp => by cases hp; exact ⟨_, List.mem_singleton.mpr rfl, rfl, fun _ => rfl, fun _ => trivial⟩) (T.free (its' := [(true, r)]) hf)
   refine ⟨upd μ1 (id + 31) (some ⟨r, 0, 0, 0⟩), ?_, ?_⟩
   · have := T.app T2 (fun y hy => by
       simp only [fstB, List.mem_singleton] at hy; subst hy; exact fun hm => a1 _ hm rfl)
     show Took N W0 M a w tm bl μ ([(id + 31, .box (takeIn kind id ps).1)] ++ (takeIn kind id ps).2) ((true, r) :: pcIts kind ps (cellsAt w r)) _
     rw [hat]
     exact this
   · refine ⟨_, rfl, .box (takeIn kind id ps).1, ⟨r, 0, 0, 0⟩, upd_same _ _ _, upd_same _ _ _, rfl, (fun k cs xs e => by cases e), fun _ _ => rfl⟩
/-- All that goes in or out. -/
def rvsIts (kind : Kind → Kind) (w : World) : List RV → List Value → List (Bool × Nat)
 | v :: l, x :: xs => rvIts kind w v x ++ rvsIts kind w l xs
 | _, _ => []
theorem RP.mono' {bl bl' : Nat → Option Blk} {μ μ' : Lay} {l : List (Bool × List Cell)} {xs : List Value} (h : All2 (RP bl μ) l xs) (hb : ∀ id b, bl id = some b → ∃ b', bl' id = some b' ∧ Like b b' ∧ μ' id = μ id) : All2 (RP bl' μ') l xs := h.imp fun _ _ h => h.mono hb
theorem takeRVs_sound (kind : Kind → Kind) : ∀ (l : List RV) (xs : List Value) (id : Nat) (tm : Nat → LV) (bl : Nat → Option Blk) (μ : Lay), Inv N W0 M ⟨tm, bl⟩ μ a w → M.lo ≤ id → All2 (RVIs kind w) l xs →
   (∀ j ∈ fstB (takeRVs kind id l).2, bl j = none) → apartB (fstB (takeRVs kind id l).2) = true → Free W0 M bl μ (rvsIts kind w l xs) →
   ∃ μ', Took N W0 M a w tm bl μ (takeRVs kind id l).2 (rvsIts kind w l xs) μ' ∧ All2 (RP (updL bl (takeRVs kind id l).2) μ') (takeRVs kind id l).1 xs
 | [], _, id, tm, bl, μ, h, hid, .nil, _, _, _ => ⟨μ, Took.nil h, .nil⟩
 | v :: l, _, id, tm, bl, μ, h, hid, .cons (b := x) (m := xs) h1 h2, hn, ha, hf => by
   change apartB (fstB ((takeRV kind id v).2 ++ (takeRVs kind (id + 32) l).2)) = true at ha
   change ∀ j ∈ fstB ((takeRV kind id v).2 ++ (takeRVs kind (id + 32) l).2), bl j = none at hn
   rw [fstB_app] at ha hn
   obtain ⟨a1, a2, a3⟩ := apart_app ha
   obtain ⟨μ1, T, hr⟩ := takeRVs_sound kind l xs (id + 32) tm bl μ h (by omega) h2 (fun j hj => hn j (List.mem_append_right _ hj)) a2 (Free.tail hf)
   have hnone : ∀ j ∈ fstB (takeRV kind id v).2, updL bl (takeRVs kind (id + 32) l).2 j = none := fun j hj => by
     rw [updL_none fun b hb => a3 j hj (fst_mem hb)]; exact hn j (List.mem_append_left _ hj)
   obtain ⟨μ2, T2, hr2⟩ := takeRV_sound kind v x id tm _ μ1 T.inv hid h1 hnone a1 (T.free hf)
   refine ⟨μ2, T.app T2 a3, ?_⟩
   show All2 (RP (updL bl ((takeRV kind id v).2 ++ (takeRVs kind (id + 32) l).2)) μ2) ((takeRV kind id v).1 :: (takeRVs kind (id + 32) l).1) (x :: xs)
   rw [updL_app]
   exact .cons hr2 (RP.mono' hr (T2.keeps hnone))
/-- The value of an answer. -/
def packV (ys : List Value) : Value :=
 match ys with
 | [y] => y
 | l => .tuple l.toArray
theorem lvOf_sound {bl : Nat → Option Blk} {l : List (Bool × List Cell)} {ys : List Value} (h : All2 (RP bl μ) l ys) : RL bl μ (lvOf l) (packV ys) := by
 cases h with
 | nil => exact ⟨#[], rfl, .nil⟩
 | cons h1 h2 =>
   cases h2 with
   | nil => exact RP.asLV h1
   | cons h3 h4 => exact ⟨_, rfl, .cons h1 (.cons h3 h4)⟩
/-- All the arguments. -/
def argsIts (muts : List Nat) (w : World) : Nat → List RV → List Value → List (Bool × Nat)
 | n, v :: l, x :: xs => rvIts (inKind muts n v) w v x ++ argsIts muts w (n + 1) l xs
 | _, _, _ => []
inductive ArgsAre (muts : List Nat) (w : World) : Nat → List RV → List Value → Prop
 | nil {n} : ArgsAre muts w n [] []
 | cons {n v l x xs} : RVIs (inKind muts n v) w v x → ArgsAre muts w (n + 1) l xs → ArgsAre muts w n (v :: l) (x :: xs)
theorem entered_sound (muts : List Nat) : ∀ (l : List RV) (xs : List Value) (n : Nat) (tm : Nat → LV) (bl : Nat → Option Blk) (μ : Lay), Inv N W0 M ⟨tm, bl⟩ μ a w → M.lo = 0 → ArgsAre muts w n l xs →
   (∀ j ∈ fstB (entered muts n l).2.1, bl j = none) → apartB (fstB (entered muts n l).2.1) = true → Free W0 M bl μ (argsIts muts w n l xs) →
   ∃ μ', Took N W0 M a w tm bl μ (entered muts n l).2.1 (argsIts muts w n l xs) μ' ∧ ∀ (f : Nat → Value), (∀ i x, xs[i]? = some x → f (n + i) = x) → ∀ t, RL (updL bl (entered muts n l).2.1) μ' (look (.c .any) (entered muts n l).1 t) (f t)
 | [], _, n, tm, bl, μ, h, hid, .nil, _, _, _ => ⟨μ, Took.nil h, fun f hf t => trivial⟩
 | v :: l, _, n, tm, bl, μ, h, hid, .cons (x := x) (xs := xs) h1 h2, hn, ha, hf => by
   change apartB (fstB ((takeRV (inKind muts n v) (32 * n) v).2 ++ (entered muts (n + 1) l).2.1)) = true at ha
   change ∀ j ∈ fstB ((takeRV (inKind muts n v) (32 * n) v).2 ++ (entered muts (n + 1) l).2.1), bl j = none at hn
   rw [fstB_app] at ha hn
   obtain ⟨a1, a2, a3⟩ := apart_app ha
   obtain ⟨μ1, T, hr⟩ := entered_sound muts l xs (n + 1) tm bl μ h hid h2 (fun j hj => hn j (List.mem_append_right _ hj)) a2 (Free.tail hf)
   have hnone : ∀ j ∈ fstB (takeRV (inKind muts n v) (32 * n) v).2, updL bl (entered muts (n + 1) l).2.1 j = none := fun j hj => by
     rw [updL_none fun b hb => a3 j hj (fst_mem hb)]; exact hn j (List.mem_append_left _ hj)
   obtain ⟨μ2, T2, hr2⟩ := takeRV_sound (inKind muts n v) v x (32 * n) tm _ μ1 T.inv (by omega) h1 hnone a1 (T.free hf)
   refine ⟨μ2, T.app T2 a3, fun f hf' t => ?_⟩
   show RL (updL bl ((takeRV (inKind muts n v) (32 * n) v).2 ++ (entered muts (n + 1) l).2.1)) μ2 (look (.c .any) ((n, asLV (takeRV (inKind muts n v) (32 * n) v).1.1 (takeRV (inKind muts n v) (32 * n) v).1.2) :: (entered muts (n + 1) l).1) t) (f t)
   rw [updL_app]
   simp only [look]
   cases hb : Nat.beq t n with
   | true =>
     have := Nat.eq_of_beq_eq_true hb
     subst this
     have hx := hf' 0 x (by simp)
     simp only [Nat.add_zero] at hx
     rw [hx]
     exact RP.asLV hr2
   | false => exact (hr f (fun i y hy => by have := hf' (i + 1) y (by simpa using hy); rw [← this]; congr 1; omega) t).mono (T2.keeps hnone)
end
/-! ### What a call is to keep; the caller's side: its arguments. No condition beyond those that stand in each. -/
/-- What a call may turn. -/
inductive Tgt where
 | ref (x : Value) | row (x : Value)
def pcTgts : List PC → List Value → List Tgt
 | .row _ _ _ :: ps, x :: vs => .row x :: pcTgts ps vs
 | .s (.slice none 0 0) :: ps, x :: vs => .row x :: pcTgts ps vs
 | .s _ :: ps, _ :: vs => pcTgts ps vs
 | _, _ => []
def rvTgts (m : Bool) : RV → Value → List Tgt
 | .ref _, x => [.ref x]
 | .val false ps, x => match m with
   | true => pcTgts ps [x]
   | false => []
 | .val true ps, .agg vs => match m with
   | true => pcTgts ps vs.toList
   | false => []
 | _, _ => []
def argTgts (muts : List Nat) : Nat → List RV → List Value → List Tgt
 | n, v :: l, x :: xs => rvTgts (muts.contains n) v x ++ argTgts muts (n + 1) l xs
 | _, _, _ => []
inductive Back3 : List PC → List Value → List Value → Prop
 | nil : Back3 [] [] []
 | s {v x ps l m} : Back3 ps l m → Back3 (.s v :: ps) (x :: l) (v :: m)
 | row {k cs xs x ps l m} : Back3 ps l m → Back3 (.row k cs xs :: ps) (x :: l) (x :: m)
def TgtIs (w w' : World) : Tgt → List PC → Prop
 | .row x, ps => ∃ k cs xs, ps = [.row k cs xs] ∧ RowIs w' cs xs x
 | .ref x, ps => ∃ r cells t fr cells', x = .pointer (some ⟨r, 0, none⟩) ∧ w.heap[r]? = some (.cells cells t fr) ∧ w'.heap[r]? = some (.cells cells' t fr) ∧ Back3 ps cells.toList cells'.toList
def wrOf : List (Bool × Nat) → List Nat
 | [] => []
 | (true, r) :: l => r :: wrOf l
 | (false, _) :: l => wrOf l
def rvRows (w : World) : RV → Value → List Nat
 | .ref ps, .pointer (some ad) => (pcIts (fun _ => .ro) ps (cellsAt w ad.block)).map fun x => x.2
 | .ref _, _ => []
 | v, x => (rvIts (fun _ => .ro) w v x).map fun x => x.2
def argsRows (w : World) : List RV → List Value → List Nat
 | v :: l, x :: xs => rvRows w v x ++ argsRows w l xs
 | _, _ => []
/-- What a call gives back. -/
structure Answer (muts : List Nat) (w : World) (args : List RV) (xs : List Value) (ret : Ret) (v : Value) (w' : World) : Prop where
 since : Since w (wrOf (argsIts muts w 0 args xs)) w'
 vals : ∃ ys, v = packV ys ∧ All2 (RVIs (fun k => k) w') ret.vals ys ∧ (rvsIts (fun k => k) w' ret.vals ys).Pairwise AptIt ∧
   ∀ it ∈ rvsIts (fun k => k) w' ret.vals ys, w.heap.size ≤ it.2 ∨ (it.1 = false ∧ it.2 ∈ argsRows w args xs ∧ hasRo ret.vals = true)
 upd : All2 (TgtIs w w') (argTgts muts 0 args xs) ret.upd
/-- The world's first blocks are as they were. -/
structure Base where
 g : Nat
 w0 : World
def Good (B : Base) (w : World) : Prop := B.g ≤ w.heap.size ∧ ∀ k, k < B.g → w.heap[k]? = B.w0.heap[k]?
/-- A contract that the machine keeps. -/
def ConOk {R : Type} (P : Program) (B : Base) (f : FuncId) (con : Con R) : Prop :=
 ∀ args (K : Ret → Option R) o, con.run args K = some o → ∃ ret, K ret = some o ∧ ∀ w xs, Good B w → ArgsAre con.muts w 0 args xs → (argsIts con.muts w 0 args xs).Pairwise AptIt → (∀ r ∈ wrOf (argsIts con.muts w 0 args xs), B.g ≤ r) →
   Calls P f xs.toArray w (fun e w' => ∃ v, e = .returned v ∧ Answer con.muts w args xs ret v w')
theorem wrOf_mem : ∀ {l : List (Bool × Nat)} {r : Nat}, r ∈ wrOf l ↔ (true, r) ∈ l
 | [], r => by simp [wrOf]
 | (true, q) :: l, r => by simp [wrOf, wrOf_mem (l := l)]
 | (false, q) :: l, r => by simp [wrOf, wrOf_mem (l := l)]
section
variable {N : Nat} {W0 : World} {M : Fr} {st : St} {μ : Lay} {a : Act} {w : World}
/-- The blocks by name, and where they stand. -/
inductive ItsRel (bl : Nat → Option Blk) (μ : Lay) : List (Bool × Nat) → List (Bool × Nat) → Prop
 | nil : ItsRel bl μ [] []
 | skip {q l l'} : ItsRel bl μ l l' → ItsRel bl μ (q :: l) l'
 | cons {m id b p l l'} : bl id = some b → b ≠ .gone → μ id = some p → ItsRel bl μ l l' → ItsRel bl μ ((m, id) :: l) ((m, p.r) :: l')
theorem ItsRel.app {bl : Nat → Option Blk} {l l' k k' : List (Bool × Nat)} (h : ItsRel bl μ l l') (g : ItsRel bl μ k k') : ItsRel bl μ (l ++ k) (l' ++ k') := by
 induction h with
 | nil => exact g
 | skip _ ih => exact .skip ih
 | cons h1 h2 h3 _ ih => exact .cons h1 h2 h3 ih
theorem ItsRel.mem {bl : Nat → Option Blk} {l l' : List (Bool × Nat)} (h : ItsRel bl μ l l') {m : Bool} {r : Nat} (hm : (m, r) ∈ l') : ∃ id b p, (m, id) ∈ l ∧ bl id = some b ∧ b ≠ .gone ∧ μ id = some p ∧ p.r = r := by
 induction h with
 | nil => cases hm
 | skip _ ih =>
   obtain ⟨id, b, p, h1, h2⟩ := ih hm
   exact ⟨id, b, p, by simp [h1], h2⟩
 | cons h1 h2 h3 _ ih =>
   simp only [List.mem_cons, Prod.mk.injEq] at hm
   rcases hm with ⟨rfl, rfl⟩ | hm
   · exact ⟨_, _, _, by simp, h1, h2, h3, rfl⟩
   · obtain ⟨id, b, p, g1, g2⟩ := ih hm
     exact ⟨id, b, p, by simp [g1], g2⟩
theorem itsOk_cons {m : Bool} {id : Nat} {l : List (Bool × Nat)} (h : itsOk ((m, id) :: l) = true) : (∀ q ∈ l, (m = true ∨ q.1 = true) → q.2 ≠ id) ∧ itsOk l = true := by
 simp only [itsOk, Bool.and_eq_true, List.all_eq_true, Bool.or_eq_true, Bool.not_eq_true'] at h
 refine ⟨fun q hq hw e => ?_, h.2⟩
 rcases h.1 q hq with ⟨h1, h2⟩ | h1
 · rcases hw with g | g
   · rw [h1] at g; cases g
   · rw [h2] at g; cases g
 · subst e; simp at h1
/-- What is apart by name stands apart. -/
theorem ItsRel.apart (h : Inv N W0 M st μ a w) {l l' : List (Bool × Nat)} (hr : ItsRel st.bl μ l l') (hok : itsOk l = true) (hw : ∀ id b, (true, id) ∈ l → st.bl id = some b → Wr b) : l'.Pairwise AptIt := by
 induction hr with
 | nil => exact .nil
 | skip _ ih => exact ih (itsOk_cons hok).2 (fun id b hm => hw id b (by simp [hm]))
 | cons h1 h2 h3 hr ih =>
   rename_i m id b p l l'
   obtain ⟨g1, g2⟩ := itsOk_cons hok
   refine List.Pairwise.cons (fun q hq => ?_) (ih g2 (fun id b hm => hw id b (by simp [hm])))
   obtain ⟨m', r⟩ := q
   obtain ⟨id', b', p', k1, k2, k3, k4, rfl⟩ := hr.mem hq
   intro hor
   have hne : id' ≠ id := g1 _ k1 hor
   rcases hor with e | e
   · simp only at e; subst e
     exact h.ap.two id id' b b' p p' (fun x => hne x.symm) h1 k2 (hw id b (by simp) h1) k3 h3 k4
   · simp only at e; subst e
     have := h.ap.two id' id b' b p' p hne k2 h1 (hw id' b' (by simp [k1]) k2) h2 k4 h3
     exact fun x => this x.symm
/-- Rows that are handed to be written are ours. -/
def WrCells (bl : Nat → Option Blk) (xs : List Cell) : Prop := ∀ c ∈ xs, (∃ v, c = .s v) ∨ ∃ id k cs ys, c = .sl id ∧ bl id = some (.row k cs ys) ∧ k ≠ .ro
theorem RowIs_addr {cs : List Sc} {xs : List (RowT cs)} {x : Value} {bl : Nat → Option Blk} {id : Nat} (hx : RC bl μ (.sl id) x) {k : Kind} (hb : bl id = some (.row k cs xs)) : (μ id = none ∧ x = .slice none 0 0) ∨ ∃ p, μ id = some p ∧ x = .slice (some ⟨p.r, p.off, none⟩) xs.length p.cap := by
 obtain ⟨b, len, hb', hs, hl⟩ := hx
 rw [hb] at hb'; cases hb'
 have hl := hl _ _ _ rfl
 subst hl
 unfold SlOk at hs
 cases hm : μ id with
 | none => rw [hm] at hs; exact .inl ⟨rfl, hs.2⟩
 | some p => rw [hm] at hs; exact .inr ⟨p, rfl, hs.2⟩
theorem pc_is (h : Inv N W0 M st μ a w) (m : Bool) {c : Cell} {p : PC} {x : Value} (hp : pcOf st.bl c = some p) (hx : RC st.bl μ c x) (hw : m = true → WrCells st.bl [c]) :
   PCIs (fun _ => fixRo m) w p x ∧ ItsRel st.bl μ (cellsIts m [c]) (pcIts (fun _ => fixRo m) [p] [x]) := by
 cases c with
 | s v => cases hp; exact ⟨hx, .nil⟩
 | any => cases hp
 | ptr _ _ _ => cases hp
 | sl id =>
   simp only [pcOf] at hp
   split at hp
   · rename_i k cs xs hb
     cases hp
     have hrow := h.row hb hx
     have hB := h.bl id _ hb
     refine ⟨⟨hB.1, hrow, fun hk ad n cap e => ?_⟩, ?_⟩
     · cases m with
       | false => exact absurd rfl hk
       | true =>
         rcases hw rfl (.sl id) (by simp) with ⟨v, e'⟩ | ⟨id', k', cs', ys, e', hb', hk'⟩
         · cases e'
         · cases e'
           rw [hb] at hb'; cases hb'
           rcases RowIs_addr hx hb with ⟨_, e2⟩ | ⟨p, hm, e2⟩
           · rw [e2] at e; cases e
           · rw [e2] at e; cases e
             obtain ⟨_, hB⟩ := hB
             rw [hm] at hB
             obtain ⟨_, _, cells, t, fr, g1, _, _, g2⟩ := hB
             exact ⟨cells, t, fr, g1, g2 hk', fun e => by cases e⟩
     · show ItsRel st.bl μ [(m, id)] (rowIts _ x ++ [])
       rcases RowIs_addr hx hb with ⟨_, e2⟩ | ⟨p, hm, e2⟩
       · rw [e2]; exact .skip .nil
       · rw [e2]
         have : isWr (fixRo m) = m := by cases m <;> rfl
         simp only [rowIts, this]
         exact .cons hb (by simp) hm .nil
   · cases hp
 | sub id o n =>
   simp only [pcOf] at hp
   split at hp
   · rename_i k cs xs hb
     cases hp
     have hrow := h.sub hb hx
     have hB := h.bl id _ hb
     have hm : m = false := by
       cases m with
       | false => rfl
       | true =>
         rcases hw rfl (.sub id o n) (by simp) with ⟨v, e'⟩ | ⟨id', k', cs', ys, e', _⟩ <;> cases e'
     subst hm
     refine ⟨⟨hB.1, hrow, fun hk => absurd rfl hk⟩, ?_⟩
     show ItsRel st.bl μ [(false, id)] (rowIts _ x ++ [])
     obtain ⟨b, hb', ⟨ad, cc, rfl, g1, g2, g3, g4⟩, g5⟩ := hx
     cases ad with
     | none => exact .skip .nil
     | some q =>
       obtain ⟨_, p, hp, hr⟩ := g4 q rfl
       show ItsRel st.bl μ [(false, id)] [(false, q.block)]
       rw [hr]
       exact .cons hb (by simp) hp .nil
   · cases hp
theorem pcIts_cons (kind : Kind → Kind) (p : PC) (ps : List PC) (x : Value) (vs : List Value) : pcIts kind (p :: ps) (x :: vs) = pcIts kind [p] [x] ++ pcIts kind ps vs := by
 cases p with
 | s v => rfl
 | row k cs xs => show rowIts _ x ++ pcIts kind ps vs = (rowIts _ x ++ []) ++ pcIts kind ps vs; simp
theorem cellsIts_cons (m : Bool) (c : Cell) (xs : List Cell) : cellsIts m (c :: xs) = cellsIts m [c] ++ cellsIts m xs := by
 cases c <;> rfl
theorem pcs_are (h : Inv N W0 M st μ a w) (m : Bool) : ∀ {xs : List Cell} {ps : List PC} {vs : List Value}, pcsOf st.bl xs = some ps → All2 (RC st.bl μ) xs vs → (m = true → WrCells st.bl xs) →
   All2 (PCIs (fun _ => fixRo m) w) ps vs ∧ ItsRel st.bl μ (cellsIts m xs) (pcIts (fun _ => fixRo m) ps vs)
 | [], ps, _, hp, .nil, hw => by cases hp; exact ⟨.nil, .nil⟩
 | c :: xs, ps, _, hp, .cons (b := x) (m := vs) h1 h2, hw => by
   simp only [pcsOf] at hp
   split at hp
   · rename_i p hc
     split at hp
     · rename_i qs hq
       cases hp
       obtain ⟨g1, g2⟩ := pc_is h m hc h1 (fun e c' hc' => hw e c' (by simp at hc'; simp [hc']))
       obtain ⟨g3, g4⟩ := pcs_are h m hq h2 (fun e c' hc' => hw e c' (by simp [hc']))
       refine ⟨.cons g1 g3, ?_⟩
       rw [cellsIts_cons, pcIts_cons]
       exact g2.app g4
     · cases hp
   · cases hp
end
/-! ### The caller's side of a call: its arguments, and what they may turn. No condition beyond those that stand in each. -/
section
variable {N : Nat} {W0 : World} {M : Fr} {st : St} {μ : Lay} {a : Act} {w : World}
def notPtr : LV → Bool
 | .c (.ptr _ _ _) => false
 | _ => true
def MutsOk (bl : Nat → Option Blk) (muts : List Nat) : Nat → List LV → Prop
 | _, [] => True
 | n, v :: l => (muts.contains n = true → notPtr v = true → WrCells bl v.here) ∧ MutsOk bl muts (n + 1) l
theorem box_cells (h : Inv N W0 M st μ a w) {id : Nat} {xs : List Cell} (hb : st.bl id = some (.box xs)) {x : Value} (hx : RC st.bl μ (.ptr id 0 0) x) : ∃ p cells t fr, μ id = some p ∧ x = .pointer (some ⟨p.r, 0, none⟩) ∧ w.heap[p.r]? = some (.cells cells t fr) ∧ Thaw cells fr ∧ All2 (RC st.bl μ) xs cells.toList := by
 obtain ⟨b, m, h1, h2, rfl, _⟩ := hx
 rw [hb] at h1; cases h1
 obtain ⟨m', cells, t, fr, g1, g2, g3, g4, g5⟩ := h.bl id _ hb
 rw [h2] at g1; cases g1
 exact ⟨m, cells, t, fr, h2, by rw [g2]; simp, g3, g4, g5⟩
theorem cellsAt_eq {r : Nat} {cells : Array Value} {t : TypeId} {fr : Nat × Nat} (h : w.heap[r]? = some (.cells cells t fr)) : cellsAt w r = cells.toList := by unfold cellsAt; rw [h]
theorem rv_is (h : Inv N W0 M st μ a w) (muts : List Nat) (n : Nat) {v : LV} {rv : RV} {x : Value} (hp : rvOf st.bl v = some rv) (hx : RL st.bl μ v x) (hw : muts.contains n = true → notPtr v = true → WrCells st.bl v.here) :
   RVIs (inKind muts n rv) w rv x ∧ ∃ its, (∀ l, argIts st.bl muts n (v :: l) = its ++ argIts st.bl muts (n + 1) l) ∧ ItsRel st.bl μ its (rvIts (inKind muts n rv) w rv x) := by
 unfold rvOf at hp
 split at hp
 · rename_i id
   split at hp
   · rename_i xs hb
     split at hp
     · rename_i ps hps
       cases hp
       obtain ⟨p, cells, t, fr, g1, rfl, g3, g4, g5⟩ := box_cells h hb hx
       obtain ⟨k1, k2⟩ := pcs_are h false hps g5 (fun e => by cases e)
       have hat := cellsAt_eq g3
       refine ⟨⟨p.r, cells, t, fr, rfl, g3, g4, k1⟩, (true, id) :: cellsIts false xs, fun l => ?_, ?_⟩
       · simp only [argIts, hb, List.cons_append]
       · show ItsRel st.bl μ ((true, id) :: cellsIts false xs) ((true, p.r) :: pcIts _ ps (cellsAt w p.r))
         rw [hat]
         exact .cons hb (by simp) g1 k2
     · cases hp
   · cases hp
 · rename_i c hc
   split at hp
   · rename_i p hpc
     cases hp
     have hnp : ∀ id i j, c ≠ .ptr id i j := by intro id i j e; subst e; cases hpc
     have hnp' : notPtr (.c c) = true := by cases c <;> first | rfl | exact absurd rfl (hnp _ _ _)
     obtain ⟨k1, k2⟩ := pc_is h (muts.contains n) hpc hx (fun e => hw e hnp')
     refine ⟨⟨p, rfl, k1⟩, cellsIts (muts.contains n) [c], fun l => ?_, k2⟩
     cases c <;> first | rfl | exact absurd rfl (hnp _ _ _)
   · cases hp
 · rename_i xs
   split at hp
   · rename_i ps hps
     cases hp
     obtain ⟨vs, rfl, hv⟩ := hx
     obtain ⟨k1, k2⟩ := pcs_are h (muts.contains n) hps hv (fun e => hw e rfl)
     exact ⟨⟨vs, rfl, k1⟩, cellsIts (muts.contains n) xs, fun l => rfl, k2⟩
   · cases hp
 · cases hp
theorem rvs_are (h : Inv N W0 M st μ a w) (muts : List Nat) : ∀ {vals : List LV} {args : List RV} {xs : List Value} {n : Nat}, rvsOf st.bl vals = some args → All2 (RL st.bl μ) vals xs → MutsOk st.bl muts n vals →
   ArgsAre muts w n args xs ∧ ItsRel st.bl μ (argIts st.bl muts n vals) (argsIts muts w n args xs)
 | [], args, _, n, hp, .nil, _ => by cases hp; exact ⟨.nil, .nil⟩
 | v :: l, args, _, n, hp, .cons (b := x) (m := xs) h1 h2, hw => by
   simp only [rvsOf] at hp
   split at hp
   · rename_i p hv
     split at hp
     · rename_i ps hl
       cases hp
       obtain ⟨g1, its, g2, g3⟩ := rv_is h muts n hv h1 hw.1
       obtain ⟨g4, g5⟩ := rvs_are h muts hl h2 hw.2
       refine ⟨.cons g1 g4, ?_⟩
       rw [g2]
       exact g3.app g5
     · cases hp
   · cases hp
/-- What may be turned, by name and by value. -/
inductive TRel (bl : Nat → Option Blk) (μ : Lay) : Turn → Tgt → Prop
 | ref {id x} : RC bl μ (.ptr id 0 0) x → TRel bl μ (.ref id) (.ref x)
 | row {id x} : RC bl μ (.sl id) x → TRel bl μ (.row id) (.row x)
 | nil : TRel bl μ .nil (.row (.slice none 0 0))
theorem All2.app {α β : Type} {R : α → β → Prop} {l l' : List α} {m m' : List β} (h : All2 R l m) (g : All2 R l' m') : All2 R (l ++ l') (m ++ m') := by
 induction h with
 | nil => exact g
 | cons h _ ih => exact .cons h ih
theorem pcTgts_s {v : Value} (hv : v ≠ .slice none 0 0) (ps : List PC) (x : Value) (vs : List Value) : pcTgts (.s v :: ps) (x :: vs) = pcTgts ps vs := by
 conv => lhs; unfold pcTgts
 split
 · rename_i e _; cases e
 · rename_i e _; cases e; exact absurd rfl hv
 · rename_i e1 e2; cases e1; cases e2; rfl
 · rename_i h1 h2 h3; exact absurd rfl (h3 _ _ _ _ rfl)
theorem turnCells_s {v : Value} (hv : v ≠ .slice none 0 0) (l : List Cell) : turnCells (.s v :: l) = turnCells l := by
 conv => lhs; unfold turnCells
 split
 · rename_i e; cases e
 · rename_i e; cases e
 · rename_i e; cases e; exact absurd rfl hv
 · rename_i e; cases e; rfl
 · rename_i h1 h2 h3 h4; cases h4; exact (h3 _ rfl).elim
theorem turn_tgts {bl : Nat → Option Blk} : ∀ {xs : List Cell} {ps : List PC} {vs : List Value} {q : List Turn}, turnCells xs = some q → pcsOf bl xs = some ps → All2 (RC bl μ) xs vs → All2 (TRel bl μ) q (pcTgts ps vs)
 | [], ps, _, q, ht, hp, .nil => by cases ht; cases hp; exact .nil
 | c :: xs, ps, _, q, ht, hp, .cons (b := x) (m := vs) h1 h2 => by
   simp only [pcsOf] at hp
   split at hp
   · rename_i p hc
     split at hp
     · rename_i qs hq
       cases hp
       cases c with
       | s v =>
         cases hc
         by_cases hv : v = .slice none 0 0
         · subst hv
           simp only [turnCells] at ht
           split at ht
           · rename_i r hr
             cases ht
             obtain ⟨rfl, _⟩ := h1
             exact .cons .nil (turn_tgts hr hq h2)
           · cases ht
         · rw [turnCells_s hv] at ht
           rw [pcTgts_s hv]
           exact turn_tgts ht hq h2
       | sl id =>
         simp only [pcOf] at hc
         split at hc
         · cases hc
           simp only [turnCells] at ht
           split at ht
           · rename_i r hr
             cases ht
             exact .cons (.row h1) (turn_tgts hr hq h2)
           · cases ht
         · cases hc
       | any => cases hc
       | ptr _ _ _ => cases hc
       | sub _ _ _ => simp [turnCells] at ht
     · cases hp
   · cases hp
end
/-! ### The caller's side of a call: what has been turned. No condition beyond those that stand in each. -/
section
variable {N : Nat} {W0 : World} {M : Fr} {st : St} {μ : Lay} {a : Act} {w : World}
theorem args_tgts {bl : Nat → Option Blk} {muts : List Nat} : ∀ {vals : List LV} {args : List RV} {xs : List Value} {n : Nat} {ts : List Turn}, turnedOf muts n vals = some ts → rvsOf bl vals = some args → All2 (RL bl μ) vals xs → All2 (TRel bl μ) ts (argTgts muts n args xs)
 | [], args, _, n, ts, ht, hp, .nil => by cases ht; cases hp; exact .nil
 | v :: l, args, _, n0, ts, ht, hp, .cons (b := x) (m := xs) h1 h2 => by
   simp only [rvsOf] at hp
   split at hp
   · rename_i p hv
     split at hp
     · rename_i ps hl
       cases hp
       unfold turnedOf at ht
       split at ht
       · rename_i e; cases e
       · rename_i id l' e
         cases e
         split at ht
         · rename_i r hr
           cases ht
           have ih := args_tgts hr hl h2
           simp only [rvOf] at hv
           split at hv
           · split at hv
             · cases hv
               exact .cons (.ref h1) ih
             · cases hv
           · cases hv
         · cases ht
       · rename_i v' l' hnp e
         cases e
         split at ht
         · cases ht
         · rename_i r hm hr
           cases ht
           have ih := args_tgts hr hl h2
           show All2 (TRel bl μ) ts (rvTgts (muts.contains _) p x ++ argTgts muts (_ + 1) ps xs)
           rw [hm]
           have : rvTgts false p x = [] := by
             unfold rvOf at hv
             split at hv
             · rename_i id; exact absurd rfl (hnp id)
             · split at hv
               · cases hv; rfl
               · cases hv
             · split at hv
               · cases hv
                 obtain ⟨vs, rfl, _⟩ := h1
                 rfl
               · cases hv
             · cases hv
           rw [this]
           exact ih
         · rename_i r hm hr
           split at ht
           · rename_i cs hcs
             split at ht
             · rename_i q hq
               cases ht
               have ih := args_tgts hr hl h2
               show All2 (TRel bl μ) (q ++ r) (rvTgts (muts.contains _) p x ++ argTgts muts (_ + 1) ps xs)
               rw [hm]
               refine All2.app ?_ ih
               unfold rvOf at hv
               split at hv
               · rename_i id; exact absurd rfl (hnp id)
               · rename_i c hc
                 split at hv
                 · rename_i pc hpc
                   cases hv
                   have : cs = [c] := by cases c <;> simp only [LV.cells, Option.some.injEq, reduceCtorEq] at hcs <;> exact hcs.symm
                   subst this
                   exact turn_tgts hq (by simp [pcsOf, hpc]) (.cons h1 .nil)
                 · cases hv
               · split at hv
                 · rename_i qs hqs
                   cases hv
                   obtain ⟨vs, rfl, hvs⟩ := h1
                   simp only [LV.cells, Option.some.injEq] at hcs
                   subst hcs
                   exact turn_tgts hq hqs hvs
                 · cases hv
               · cases hv
             · cases ht
           · cases ht
     · cases hp
   · cases hp
/-- What is to be written may be written. -/
def TurnOk (bl : Nat → Option Blk) : Turn → Prop
 | .ref id => ∃ xs, bl id = some (.box xs)
 | .row id => ∃ k cs ys, bl id = some (.row k cs ys) ∧ k ≠ .ro
 | .nil => True
theorem turn_wr {bl : Nat → Option Blk} : ∀ {xs : List Cell} {q : List Turn}, turnCells xs = some q → (∀ t ∈ q, TurnOk bl t) → WrCells bl xs
 | [], q, h, hq => fun c hc => by cases hc
 | c :: xs, q, h, hq => by
   intro c' hc'
   simp only [List.mem_cons] at hc'
   cases c with
   | s v =>
     rcases hc' with rfl | hc'
     · exact .inl ⟨v, rfl⟩
     · by_cases hv : v = .slice none 0 0
       · subst hv
         simp only [turnCells] at h
         split at h
         · rename_i r hr; cases h; exact turn_wr hr (fun t ht => hq t (by simp [ht])) c' hc'
         · cases h
       · rw [turnCells_s hv] at h
         exact turn_wr h hq c' hc'
   | sl id =>
     simp only [turnCells] at h
     split at h
     · rename_i r hr
       cases h
       rcases hc' with rfl | hc'
       · obtain ⟨k, cs, ys, h1, h2⟩ := hq (.row id) (by simp)
         exact .inr ⟨id, k, cs, ys, rfl, h1, h2⟩
       · exact turn_wr hr (fun t ht => hq t (by simp [ht])) c' hc'
     · cases h
   | any => simp [turnCells] at h
   | ptr _ _ _ => simp [turnCells] at h
   | sub _ _ _ => simp [turnCells] at h
theorem muts_ok {bl : Nat → Option Blk} {muts : List Nat} : ∀ {vals : List LV} {n : Nat} {ts : List Turn}, turnedOf muts n vals = some ts → (∀ t ∈ ts, TurnOk bl t) → MutsOk bl muts n vals
 | [], n, ts, h, hq => trivial
 | v :: l, n, ts, h, hq => by
   unfold turnedOf at h
   split at h
   · rename_i e; cases e
   · rename_i id l' e
     cases e
     split at h
     · rename_i r hr
       cases h
       exact ⟨fun _ e => (by simp [notPtr] at e), muts_ok hr (fun t ht => hq t (by simp [ht]))⟩
     · cases h
   · rename_i v' l' hnp e
     cases e
     split at h
     · cases h
     · rename_i r hm hr
       cases h
       exact ⟨fun e => (by rw [hm] at e; cases e), muts_ok hr hq⟩
     · rename_i r hm hr
       split at h
       · rename_i cs hcs
         split at h
         · rename_i q hqc
           cases h
           refine ⟨fun _ _ => ?_, muts_ok hr (fun t ht => hq t (by simp [ht]))⟩
           have hw := turn_wr hqc (fun t ht => hq t (by simp [ht]))
           have : v.here = cs := by
             cases v with
             | c c => cases c <;> simp only [LV.cells, Option.some.injEq, reduceCtorEq] at hcs <;> exact hcs
             | agg xs => simp only [LV.cells, Option.some.injEq] at hcs; exact hcs
             | arr _ _ => simp [LV.cells] at hcs
             | tup _ => simp [LV.cells] at hcs
           rw [this]; exact hw
         · cases h
       · cases h
/-- What 'backOf' says, case by case. -/
inductive Backs (bl : Nat → Option Blk) : List Turn → List (List PC) → List (Nat × Blk) → Prop
 | nil : Backs bl [] [] []
 | ref {id xs ps ys l r more} : bl id = some (.box xs) → backCells xs ps = some ys → Backs bl l r more → Backs bl (.ref id :: l) (ps :: r) ((id, .box ys) :: more)
 | row {id k cs zs q xs l r more} : bl id = some (.row k cs zs) → k ≠ .ro → Backs bl l r more → Backs bl (.row id :: l) ([.row q cs xs] :: r) ((id, .row k cs xs) :: more)
 | none {q cs xs l r more} : Backs bl l r more → Backs bl (.nil :: l) ([.row q cs xs] :: r) more
theorem backs_of {bl : Nat → Option Blk} : ∀ (ts : List Turn) (upd : List (List PC)) (back : List (Nat × Blk)), backOf bl ts upd = some back → Backs bl ts upd back
 | [], [], back, h => by cases h; exact .nil
 | [], _ :: _, back, h => by simp [backOf] at h
 | .ref id :: l, [], back, h => by simp [backOf] at h
 | .ref id :: l, ps :: r, back, h => by
   simp only [backOf] at h
   split at h
   · rename_i xs hb
     split at h
     · rename_i ys more h1 h2
       cases h
       exact .ref hb h1 (backs_of l r more h2)
     · cases h
   · cases h
 | .row id :: l, [.row q cs xs] :: r, back, h => by
   simp only [backOf] at h
   cases hb : bl id with
   | none => rw [hb] at h; cases h
   | some b =>
     rw [hb] at h
     cases b with
     | box _ => cases h
     | gone => cases h
     | row k ds zs =>
       cases k with
       | ro => cases h
       | fix =>
         simp only at h
         by_cases e : cs = ds
         · subst e
           rw [if_pos rfl] at h
           cases hm : backOf bl l r with
           | none => rw [hm] at h; cases h
           | some more => rw [hm] at h; cases h; exact .row hb (by simp) (backs_of l r more hm)
         · rw [if_neg e] at h; cases h
       | own =>
         simp only at h
         by_cases e : cs = ds
         · subst e
           rw [if_pos rfl] at h
           cases hm : backOf bl l r with
           | none => rw [hm] at h; cases h
           | some more => rw [hm] at h; cases h; exact .row hb (by simp) (backs_of l r more hm)
         · rw [if_neg e] at h; cases h
 | .row id :: l, [], back, h => by simp [backOf] at h
 | .row id :: l, [] :: r, back, h => by simp [backOf] at h
 | .row id :: l, (.s v :: ps) :: r, back, h => by simp [backOf] at h
 | .row id :: l, (.row q cs xs :: p :: ps) :: r, back, h => by simp [backOf] at h
 | .nil :: l, [.row q cs xs] :: r, back, h => by simp only [backOf] at h; exact .none (backs_of l r back h)
 | .nil :: l, [], back, h => by simp [backOf] at h
 | .nil :: l, [] :: r, back, h => by simp [backOf] at h
 | .nil :: l, (.s v :: ps) :: r, back, h => by simp [backOf] at h
 | .nil :: l, (.row q cs xs :: p :: ps) :: r, back, h => by simp [backOf] at h
theorem Backs.ok {bl : Nat → Option Blk} {ts : List Turn} {upd : List (List PC)} {back : List (Nat × Blk)} (h : Backs bl ts upd back) : ∀ t ∈ ts, TurnOk bl t := by
 induction h with
 | nil => intro t ht; cases ht
 | ref h1 _ _ ih =>
   intro t ht
   simp only [List.mem_cons] at ht
   rcases ht with rfl | ht
   · exact ⟨_, h1⟩
   · exact ih t ht
 | row h1 h2 _ ih =>
   intro t ht
   simp only [List.mem_cons] at ht
   rcases ht with rfl | ht
   · exact ⟨_, _, _, h1, h2⟩
   · exact ih t ht
 | none _ ih =>
   intro t ht
   simp only [List.mem_cons] at ht
   rcases ht with rfl | ht
   · trivial
   · exact ih t ht
/-- A block that has been turned: the same seen from outside, and what it holds now. -/
def Turned1 (bl : Nat → Option Blk) (μ : Lay) (w' : World) (id : Nat) (b' : Blk) : Prop :=
 ∃ b, bl id = some b ∧ Wr b ∧ Wr b' ∧ Like b b' ∧ ∀ bl', (∀ i c, bl i = some c → ∃ c', bl' i = some c' ∧ Like c c' ∧ μ i = μ i) → BR w' bl' μ id b'
theorem back_cells {bl bl' : Nat → Option Blk} (hk : ∀ i c, bl i = some c → ∃ c', bl' i = some c' ∧ Like c c' ∧ μ i = μ i) : ∀ {xs : List Cell} {ps : List PC} {ys : List Cell} {l m : List Value}, backCells xs ps = some ys → All2 (RC bl μ) xs l → Back3 ps l m → All2 (RC bl' μ) ys m
 | [], [], ys, _, _, h, .nil, .nil => by cases h; exact .nil
 | [], _ :: _, ys, _, _, h, _, _ => by simp [backCells] at h
 | .s u :: xs, .s v :: ps, ys, _, _, h, .cons h1 h2, .s h3 => by
   simp only [backCells] at h
   split at h
   · rename_i m hv hm
     cases h
     exact .cons ⟨rfl, hv⟩ (back_cells hk hm h2 h3)
   · cases h
 | .sl id :: xs, .row k cs zs :: ps, ys, _, _, h, .cons h1 h2, .row h3 => by
   simp only [backCells] at h
   split at h
   · rename_i m hm
     cases h
     exact .cons (h1.mono hk) (back_cells hk hm h2 h3)
   · cases h
 | .s u :: xs, [], ys, _, _, h, _, _ => by simp [backCells] at h
 | .s u :: xs, .row _ _ _ :: ps, ys, _, _, h, _, _ => by simp [backCells] at h
 | .sl id :: xs, [], ys, _, _, h, _, _ => by simp [backCells] at h
 | .sl id :: xs, .s _ :: ps, ys, _, _, h, _, _ => by simp [backCells] at h
 | .any :: xs, ps, ys, _, _, h, _, _ => by simp [backCells] at h
 | .ptr _ _ _ :: xs, ps, ys, _, _, h, _, _ => by simp [backCells] at h
 | .sub _ _ _ :: xs, ps, ys, _, _, h, _, _ => by simp [backCells] at h
theorem Back3.len {ps : List PC} {l m : List Value} (h : Back3 ps l m) : l.length = m.length := by
 induction h with
 | nil => rfl
 | s _ ih => simp [ih]
 | row _ ih => simp [ih]
theorem back_new (h : Inv N W0 M st μ a w) {w' : World} {Ws : List Nat} (hs : Since w Ws w') : ∀ {ts : List Turn} {upd : List (List PC)} {back : List (Nat × Blk)} {tg : List Tgt}, Backs st.bl ts upd back → All2 (TRel st.bl μ) ts tg → All2 (TgtIs w w') tg upd →
   ∀ id b', (id, b') ∈ back → Turned1 st.bl μ w' id b'
 | _, _, _, _, .nil, .nil, .nil => fun id b' hm => by cases hm
 | _, _, _, _, .ref (id := id0) (xs := xs) h1 h2 h3, .cons (.ref hx) hr, .cons ht hts => by
   intro id b' hm
   simp only [List.mem_cons, Prod.mk.injEq] at hm
   rcases hm with ⟨rfl, rfl⟩ | hm
   · obtain ⟨p, cells, t, fr, g1, rfl, g3, g4, g5⟩ := box_cells h h1 hx
     obtain ⟨r, cells0, t0, fr0, cells', e1, e2, e3, e4⟩ := ht
     cases e1
     rw [g3] at e2; cases e2
     have hsz : cells'.size = cells.size := by have := e4.len; simpa using this.symm
     refine ⟨_, h1, trivial, trivial, trivial, fun bl' hk => ?_⟩
     obtain ⟨m', _, _, _, k1, k2, _⟩ := h.bl _ _ h1
     rw [g1] at k1; cases k1
     exact ⟨p, cells', t, fr, g1, k2, e3, fun o ho => g4 o (by rw [hsz] at ho; exact ho), back_cells hk h2 g5 e4⟩
   · exact back_new h hs h3 hr hts id b' hm
 | _, _, _, _, .row (id := id0) (k := k) (cs := cs) (zs := zs) (xs := xs) h1 h2 h3, .cons (.row hx) hr, .cons ht hts => by
   intro id b' hm
   simp only [List.mem_cons, Prod.mk.injEq] at hm
   rcases hm with ⟨rfl, rfl⟩ | hm
   · obtain ⟨q', cs', xs', e1, e2⟩ := ht
     cases e1
     obtain ⟨hcs, hB⟩ := h.bl _ _ h1
     have hlen : zs.length = xs.length := by
       obtain ⟨ad, cap, e, _⟩ := e2
       rcases RowIs_addr hx h1 with ⟨hμ, e'⟩ | ⟨p, hμ, e'⟩
       · rw [hμ] at hB
         rw [e'] at e
         simp only [Value.slice.injEq] at e
         rw [← e.2.1, hB]; rfl
       · rw [e'] at e
         simp only [Value.slice.injEq] at e
         exact e.2.1
     refine ⟨_, h1, h2, h2, ⟨rfl, hlen⟩, fun bl' hk => ⟨hcs, ?_⟩⟩
     rcases RowIs_addr hx h1 with ⟨hμ, e'⟩ | ⟨p, hμ, e'⟩
     · rw [hμ] at hB ⊢
       simp only at hB ⊢
       rw [hB] at hlen
       exact List.eq_nil_of_length_eq_zero hlen.symm
     · rw [hμ] at hB ⊢
       obtain ⟨k1, k2, cells, t, fr, k3, k4, k5, k6⟩ := hB
       obtain ⟨ad, cap, e, l1, l2, l3⟩ := e2
       rw [e'] at e
       simp only [Value.slice.injEq] at e
       obtain ⟨rfl, _, rfl⟩ := e
       obtain ⟨_, cells', t', fr', l4, l5⟩ := l3 _ rfl
       obtain ⟨c2, s1, s2⟩ := hs.shape p.r cells t fr (lt_of_some k3) k3
       rw [s1] at l4; cases l4
       exact ⟨l1, k2, _, _, _, s1, l5, fun hk => ⟨(k5 hk).1, by rw [s2]; exact (k5 hk).2⟩, fun hk o ho => k6 hk o (by rw [s2] at ho; exact ho)⟩
   · exact back_new h hs h3 hr hts id b' hm
 | _, _, _, _, .none h3, .cons .nil hr, .cons ht hts => fun id b' hm => back_new h hs h3 hr hts id b' hm
end
/-! ### The caller's side of a call: behind it. No condition beyond those that stand in each. -/
section
variable {N : Nat} {W0 : World} {M : Fr} {st : St} {μ : Lay} {a : Act} {w : World}
theorem Inv.lt (h : Inv N W0 M st μ a w) {i : Nat} {c : Blk} {p : Place} (hc : st.bl i = some c) (hg : c ≠ .gone) (hp : μ i = some p) : p.r < w.heap.size := by
 have := h.bl i c hc
 cases c with
 | box ys => obtain ⟨q, _, _, _, h1, _, h3, _⟩ := this; rw [hp] at h1; cases h1; exact lt_of_some h3
 | row k cs xs => obtain ⟨_, g⟩ := this; rw [hp] at g; obtain ⟨_, _, _, _, _, h3, _⟩ := g; exact lt_of_some h3
 | gone => exact absurd rfl hg
/-- Behind a call: what was handed to be written has been turned. -/
theorem Inv.called (h : Inv N W0 M st μ a w) {w' : World} {Ws : List Nat} (hs : Since w Ws w') {back : List (Nat × Blk)} (hb : ∀ id b', (id, b') ∈ back → Turned1 st.bl μ w' id b')
   (hcov : ∀ r ∈ Ws, ∃ id b p, (∃ b', (id, b') ∈ back) ∧ st.bl id = some b ∧ Wr b ∧ μ id = some p ∧ p.r = r) : Inv N W0 M ⟨st.tm, updL st.bl back⟩ μ a w' := by
 have hcase : ∀ i c', updL st.bl back i = some c' → Turned1 st.bl μ w' i c' ∨ ((∀ b, (i, b) ∉ back) ∧ st.bl i = some c') := by
   intro i c' hc
   rcases updL_mem hc with g | g
   · exact .inl (hb i c' g)
   · exact .inr g
 have hlk : ∀ i c, st.bl i = some c → ∃ c', updL st.bl back i = some c' ∧ Like c c' ∧ μ i = μ i := by
   intro i c hc
   cases hu : updL st.bl back i with
   | none =>
     exfalso
     have : ∀ (l : List (Nat × Blk)), updL st.bl l i ≠ none := by
       intro l
       induction l with
       | nil => show st.bl i ≠ none; rw [hc]; simp
       | cons x l ih =>
         obtain ⟨n, v⟩ := x
         show upd (updL st.bl l) n (some v) i ≠ none
         rcases upd_cases (updL st.bl l) n i (some v) with ⟨_, e⟩ | ⟨_, e⟩
         · rw [e]; simp
         · rw [e]; exact ih
     exact this back hu
   | some c' =>
     refine ⟨c', rfl, ?_, rfl⟩
     rcases hcase i c' hu with ⟨b, h1, _, _, h2, _⟩ | ⟨_, h1⟩
     · rw [hc] at h1; cases h1; exact h2
     · rw [hc] at h1; cases h1; exact Like.refl c
 have was : ∀ i c', updL st.bl back i = some c' → ∃ c, st.bl i = some c ∧ (Wr c' → Wr c) ∧ (c' ≠ .gone → c ≠ .gone) ∧ Like c c' := by
   intro i c' hc
   rcases hcase i c' hc with ⟨b, h1, h2, h3, h4, _⟩ | ⟨_, h1⟩
   · exact ⟨b, h1, fun _ => h2, fun _ => by intro e; subst e; exact h2, h4⟩
   · exact ⟨c', h1, fun h => h, fun h => h, Like.refl c'⟩
 refine ⟨fun t => (h.tm t).mono hlk, fun i c hc => ?_, ⟨?_, ?_, ?_⟩, ⟨hs.os.trans h.since.os, hs.tape.trans h.since.tape, hs.output.trans h.since.output, Nat.le_trans h.since.size hs.size, fun k hk hM => ?_, fun k cells t fr hk hc => ?_⟩, h.size, h.defers, fun i c hi hc => ?_⟩
 · rcases hcase i c hc with ⟨b, _, _, _, _, h5⟩ | ⟨hn, h1⟩
   · exact h5 _ hlk
   · refine (h.bl i c h1).keep hlk rfl (fun hg p hp o ho => ?_)
     rw [hs.block p.r (lt_of_some ho) (fun hm => ?_)]
     · exact ho
     · obtain ⟨id, b, q, ⟨b', k1⟩, k2, k3, k4, k5⟩ := hcov p.r hm
       have hne : id ≠ i := fun e => by subst e; exact hn b' k1
       exact h.ap.two id i b c q p hne k2 h1 k3 hg k4 hp k5
 · intro i j c d p q hij hc hd hw hg hp hq
   obtain ⟨c0, e1, e2, _⟩ := was i c hc
   obtain ⟨d0, e3, _, e4, _⟩ := was j d hd
   exact h.ap.two i j c0 d0 p q hij e1 e3 (e2 hw) (e4 hg) hp hq
 · intro i c p hc hw hp
   obtain ⟨c0, e1, e2, _⟩ := was i c hc
   exact h.ap.new i c0 p e1 (e2 hw) hp
 · intro i c p hc hw hp
   obtain ⟨c0, e1, _, e2, _⟩ := was i c hc
   exact h.ap.old i c0 p e1 (e2 hw) hp
 · rw [hs.block k (Nat.lt_of_lt_of_le hk h.since.size) (fun hm => ?_)]
   · exact h.since.block k hk hM
   · obtain ⟨id, b, q, _, k2, k3, k4, k5⟩ := hcov k hm
     rcases h.ap.new id b q k2 k3 k4 with g | g
     · omega
     · exact hM (k5 ▸ g)
 · obtain ⟨c1, e1, e2⟩ := h.since.shape k cells t fr hk hc
   obtain ⟨c2, e3, e4⟩ := hs.shape k c1 t fr (Nat.lt_of_lt_of_le hk h.since.size) e1
   exact ⟨c2, e3, e4.trans e2⟩
 · obtain ⟨c0, e1, _, _, e2⟩ := was i c hc
   have := h.ent i c0 hi e1
   refine ⟨this.1, fun k cs xs e => ?_⟩
   obtain ⟨k', ys, e', hl⟩ := e2.row e
   rw [← hl]; exact this.2 k' cs ys e'
theorem frozen_mem {bl : Nat → Option Blk} : ∀ {its : List (Bool × Nat)} {id : Nat} {b : Blk}, (id, b) ∈ frozen bl its → ∃ k cs xs, bl id = some (.row k cs xs) ∧ b = .row .ro cs xs
 | [], _, _, h => by cases h
 | (m, i) :: its, id, b, h => by
   unfold frozen at h
   split at h
   · rename_i k cs xs hb
     split at h
     · exact frozen_mem h
     · simp only [List.mem_cons, Prod.mk.injEq] at h
       rcases h with ⟨rfl, rfl⟩ | h
       · exact ⟨k, cs, xs, hb, rfl⟩
       · exact frozen_mem h
   · exact frozen_mem h
theorem frozen_all {bl : Nat → Option Blk} : ∀ {its : List (Bool × Nat)} {m : Bool} {id : Nat} {k : Kind} {cs : List Sc} {xs : List (RowT cs)}, (m, id) ∈ its → bl id = some (.row k cs xs) → k = .ro ∨ ∃ b, (id, b) ∈ frozen bl its
 | [], _, _, _, _, _, h, _ => by cases h
 | (m', i) :: its, m, id, k, cs, xs, h, hb => by
   have key : (∃ b, (id, b) ∈ frozen bl its) → ∃ b, (id, b) ∈ frozen bl ((m', i) :: its) := by
     rintro ⟨b, hb'⟩
     refine ⟨b, ?_⟩
     unfold frozen
     split
     · split
       · exact hb'
       · simp [hb']
     · exact hb'
   simp only [List.mem_cons, Prod.mk.injEq] at h
   rcases h with ⟨rfl, rfl⟩ | h
   · cases k with
     | ro => exact .inl rfl
     | fix => right; refine ⟨.row .ro cs xs, ?_⟩; unfold frozen; rw [hb]; simp
     | own => right; refine ⟨.row .ro cs xs, ?_⟩; unfold frozen; rw [hb]; simp
   · exact (frozen_all h hb).imp (fun h => h) key
/-- Rows that are shared from now on. -/
theorem Inv.freeze {tm : Nat → LV} {bl : Nat → Option Blk} (h : Inv N W0 M ⟨tm, bl⟩ μ a w) : ∀ (z : List (Nat × Blk)), (∀ id b, (id, b) ∈ z → ∃ k cs xs, bl id = some (.row k cs xs) ∧ b = .row .ro cs xs) → Inv N W0 M ⟨tm, updL bl z⟩ μ a w
 | [], _ => h
 | (id, b) :: z, hz => by
   have ih := Inv.freeze h z (fun i c hc => hz i c (by simp [hc]))
   obtain ⟨k, cs, xs, h1, rfl⟩ := hz id b (by simp)
   have hcur : ∃ k', updL bl z id = some (.row k' cs xs) := by
     cases hu : updL bl z id with
     | none =>
       exfalso
       have : ∀ (l : List (Nat × Blk)), updL bl l id ≠ none := by
         intro l
         induction l with
         | nil => show bl id ≠ none; rw [h1]; simp
         | cons x l ih =>
           obtain ⟨n, v⟩ := x
           show upd (updL bl l) n (some v) id ≠ none
           rcases upd_cases (updL bl l) n id (some v) with ⟨_, e⟩ | ⟨_, e⟩
           · rw [e]; simp
           · rw [e]; exact ih
       exact this z hu
     | some c =>
       rcases updL_mem hu with g | ⟨_, g⟩
       · obtain ⟨k2, cs2, xs2, g1, g2⟩ := hz id c (by simp [g])
         rw [h1] at g1; cases g1; subst g2
         exact ⟨_, rfl⟩
       · rw [h1] at g; cases g; exact ⟨_, rfl⟩
   obtain ⟨k', hcur⟩ := hcur
   refine ih.calm (b := .row k' cs xs) (b' := .row .ro cs xs) hcur (fun e => e rfl) ⟨rfl, rfl⟩ (fun _ => by simp) (fun hB => ?_)
   obtain ⟨g1, g2⟩ := hB
   refine ⟨g1, ?_⟩
   cases hm : μ id with
   | none => rw [hm] at g2; exact g2
   | some m =>
     rw [hm] at g2
     obtain ⟨k1, k2, cells, t, fr, k3, k4, _⟩ := g2
     exact ⟨k1, k2, cells, t, fr, k3, k4, fun e => (by cases e), fun e => absurd rfl e⟩
/-- The rows that the arguments lead to, by name. -/
theorem cells_rows {kind : Kind → Kind} : ∀ {xs : List Cell} {ps : List PC} {vs : List Value} {r : Nat}, pcsOf st.bl xs = some ps → All2 (RC st.bl μ) xs vs → r ∈ (pcIts kind ps vs).map (fun x => x.2) → ∃ id k cs ys p, id ∈ cellsIds xs ∧ st.bl id = some (.row k cs ys) ∧ μ id = some p ∧ p.r = r
 | [], ps, _, r, hp, .nil, hr => by cases hp; cases hr
 | c :: xs, ps, _, r, hp, .cons (b := x) (m := vs) h1 h2, hr => by
   simp only [pcsOf] at hp
   split at hp
   · rename_i p hc
     split at hp
     · rename_i qs hq
       cases hp
       rw [pcIts_cons, List.map_append, List.mem_append] at hr
       rcases hr with hr | hr
       · cases c with
         | s v => cases hc; cases hr
         | any => cases hc
         | ptr _ _ _ => cases hc
         | sl id =>
           simp only [pcOf] at hc
           split at hc
           · rename_i k cs ys hb
             cases hc
             rcases RowIs_addr h1 hb with ⟨_, rfl⟩ | ⟨p, hm, rfl⟩
             · cases hr
             · simp only [pcIts, rowIts, List.append_nil, List.map_cons, List.map_nil, List.mem_singleton] at hr
               exact ⟨id, k, cs, ys, p, List.mem_cons_self .., hb, hm, hr.symm⟩
           · cases hc
         | sub id o n =>
           simp only [pcOf] at hc
           split at hc
           · rename_i k cs ys hb
             cases hc
             obtain ⟨b, hb', ⟨ad, cc, rfl, g1, g2, g3, g4⟩, g5⟩ := h1
             cases ad with
             | none => cases hr
             | some q =>
               obtain ⟨_, p, hp, hr'⟩ := g4 q rfl
               simp only [pcIts, rowIts, List.append_nil, List.map_cons, List.map_nil, List.mem_singleton] at hr
               exact ⟨id, k, cs, ys, p, List.mem_cons_self .., hb, hp, by rw [hr, hr']⟩
           · cases hc
       · obtain ⟨id, k, cs, ys, p, k1, k2⟩ := cells_rows hq h2 hr
         exact ⟨id, k, cs, ys, p, by cases c <;> first | exact k1 | exact List.mem_cons_of_mem _ k1, k2⟩
     · cases hp
   · cases hp
end
/-! ### The caller's side of a call, joined. No condition beyond those that stand in each. -/
section
variable {N : Nat} {W0 : World} {M : Fr} {st : St} {μ : Lay} {a : Act} {w : World}
theorem cellsIts_mem {m : Bool} {id : Nat} {xs : List Cell} (h : id ∈ cellsIds xs) : (m, id) ∈ cellsIts m xs := List.mem_map.mpr ⟨id, h, rfl⟩
theorem args_rows (h : Inv N W0 M st μ a w) {muts : List Nat} : ∀ {vals : List LV} {args : List RV} {xs : List Value} {n r : Nat}, rvsOf st.bl vals = some args → All2 (RL st.bl μ) vals xs → r ∈ argsRows w args xs →
   ∃ id k cs ys p m, (m, id) ∈ argIts st.bl muts n vals ∧ st.bl id = some (.row k cs ys) ∧ μ id = some p ∧ p.r = r
 | [], args, _, n, r, hp, .nil, hr => by cases hp; cases hr
 | v :: l, args, _, n, r, hp, .cons (b := x) (m := xs) h1 h2, hr => by
   simp only [rvsOf] at hp
   split at hp
   · rename_i p hv
     split at hp
     · rename_i ps hl
       cases hp
       change r ∈ rvRows w p x ++ argsRows w ps xs at hr
       rw [List.mem_append] at hr
       rcases hr with hr | hr
       · unfold rvOf at hv
         split at hv
         · rename_i id
           split at hv
           · rename_i zs hb
             split at hv
             · rename_i qs hqs
               cases hv
               obtain ⟨q, cells, t, fr, g1, rfl, g3, g4, g5⟩ := box_cells h hb h1
               simp only [rvRows] at hr
               rw [cellsAt_eq g3] at hr
               obtain ⟨i, k, cs, ys, q', k1, k2, k3, k4⟩ := cells_rows hqs g5 hr
               refine ⟨i, k, cs, ys, q', false, ?_, k2, k3, k4⟩
               simp only [argIts, hb]
               exact List.mem_cons_of_mem _ (List.mem_append_left _ (cellsIts_mem k1))
             · cases hv
           · cases hv
         · rename_i c hc
           split at hv
           · rename_i pc hpc
             cases hv
             have hr' : r ∈ (pcIts (fun _ => Kind.ro) [pc] [x]).map (fun x => x.2) := hr
             obtain ⟨i, k, cs, ys, q', k1, k2, k3, k4⟩ := cells_rows (xs := [c]) (ps := [pc]) (by simp [pcsOf, hpc]) (.cons h1 .nil) hr'
             refine ⟨i, k, cs, ys, q', muts.contains n, ?_, k2, k3, k4⟩
             have hnp : ∀ id i j, c ≠ .ptr id i j := by intro id i j e; subst e; cases hpc
             cases c <;> first | exact List.mem_append_left _ (cellsIts_mem k1) | exact absurd rfl (hnp _ _ _)
           · cases hv
         · rename_i zs
           split at hv
           · rename_i qs hqs
             cases hv
             obtain ⟨vs, rfl, hvs⟩ := h1
             have hr' : r ∈ (pcIts (fun _ => Kind.ro) qs vs.toList).map (fun x => x.2) := hr
             obtain ⟨i, k, cs, ys, q', k1, k2, k3, k4⟩ := cells_rows hqs hvs hr'
             exact ⟨i, k, cs, ys, q', muts.contains n, List.mem_append_left _ (cellsIts_mem k1), k2, k3, k4⟩
           · cases hv
         · cases hv
       · obtain ⟨i, k, cs, ys, q, m, k1, k2⟩ := args_rows h (n := n + 1) hl h2 hr
         refine ⟨i, k, cs, ys, q, m, ?_, k2⟩
         unfold argIts
         split
         · rename_i e; cases e
         · rename_i e; cases e
           split
           · exact List.mem_cons_of_mem _ (List.mem_append_right _ k1)
           · exact List.mem_cons_of_mem _ k1
         · rename_i e; cases e; exact List.mem_append_right _ k1
         · rename_i e; cases e; exact List.mem_append_right _ k1
         · rename_i e; cases e; exact k1
     · cases hp
   · cases hp
theorem turnCells_mem : ∀ {xs : List Cell} {q : List Turn} {id : Nat}, turnCells xs = some q → id ∈ cellsIds xs → Turn.row id ∈ q
 | [], q, id, h, hm => by cases hm
 | c :: xs, q, id, h, hm => by
   cases c with
   | s v =>
     have hm : id ∈ cellsIds xs := hm
     by_cases hv : v = .slice none 0 0
     · subst hv
       simp only [turnCells] at h
       split at h
       · rename_i r hr; cases h; exact List.mem_cons_of_mem _ (turnCells_mem hr hm)
       · cases h
     · rw [turnCells_s hv] at h
       exact turnCells_mem h hm
   | sl i =>
     simp only [turnCells] at h
     split at h
     · rename_i r hr
       cases h
       simp only [cellsIds, List.mem_cons] at hm
       rcases hm with rfl | hm
       · simp
       · exact List.mem_cons_of_mem _ (turnCells_mem hr hm)
     · cases h
   | any => simp [turnCells] at h
   | ptr _ _ _ => simp [turnCells] at h
   | sub _ _ _ => simp [turnCells] at h
theorem cellsIts_true {m : Bool} {id : Nat} {xs : List Cell} (h : (true, id) ∈ cellsIts m xs) : m = true ∧ id ∈ cellsIds xs := by
 obtain ⟨i, h1, h2⟩ := List.mem_map.mp h
 cases h2
 exact ⟨rfl, h1⟩
theorem its_turn {bl : Nat → Option Blk} {muts : List Nat} : ∀ {vals : List LV} {args : List RV} {n id : Nat} {ts : List Turn}, turnedOf muts n vals = some ts → rvsOf bl vals = some args → (true, id) ∈ argIts bl muts n vals → Turn.ref id ∈ ts ∨ Turn.row id ∈ ts
 | [], args, n, id, ts, ht, hp, hm => by cases hm
 | v :: l, args, n0, id, ts, ht, hp, hm => by
   simp only [rvsOf] at hp
   split at hp
   · rename_i p hv
     split at hp
     · rename_i ps hl
       cases hp
       -- what this argument itself leads to
       have hown : (true, id) ∈ argIts bl muts (n0 + 1) l ∨ v = .c (.ptr id 0 0) ∨ ((∀ i, v ≠ .c (.ptr i 0 0)) ∧ muts.contains n0 = true ∧ ∀ cs, v.cells = some cs → id ∈ cellsIds cs) := by
         unfold rvOf at hv
         split at hv
         · rename_i i
           simp only [argIts, List.mem_cons, Prod.mk.injEq, true_and] at hm
           rcases hm with rfl | hm
           · exact .inr (.inl rfl)
           · left
             split at hm
             · rw [List.mem_append] at hm
               rcases hm with hm | hm
               · have := (cellsIts_true hm).1; cases this
               · exact hm
             · exact hm
         · rename_i c hc
           split at hv
           · rename_i pc hpc
             have hnq : ∀ id i j, c ≠ .ptr id i j := by intro id i j e; subst e; cases hpc
             have hm' : (true, id) ∈ cellsIts (muts.contains n0) [c] ++ argIts bl muts (n0 + 1) l := by
               cases c <;> first | exact hm | exact absurd rfl (hnq _ _ _)
             rw [List.mem_append] at hm'
             rcases hm' with g | g
             · obtain ⟨g1, g2⟩ := cellsIts_true g
               refine .inr (.inr ⟨fun i e => ?_, g1, fun cs hcs => ?_⟩)
               · cases e; exact hnq _ _ _ rfl
               · have : cs = [c] := by cases c <;> simp only [LV.cells, Option.some.injEq, reduceCtorEq] at hcs <;> exact hcs.symm
                 rw [this]; exact g2
             · exact .inl g
           · cases hv
         · rename_i zs
           have hm' : (true, id) ∈ cellsIts (muts.contains n0) zs ++ argIts bl muts (n0 + 1) l := hm
           rw [List.mem_append] at hm'
           rcases hm' with g | g
           · obtain ⟨g1, g2⟩ := cellsIts_true g
             refine .inr (.inr ⟨fun i e => (by cases e), g1, fun cs hcs => ?_⟩)
             simp only [LV.cells, Option.some.injEq] at hcs
             rw [← hcs]; exact g2
           · exact .inl g
         · cases hv
       clear hm
       unfold turnedOf at ht
       split at ht
       · rename_i e; cases e
       · rename_i id0 l' e
         cases e
         split at ht
         · rename_i r hr
           cases ht
           rcases hown with g | g | ⟨g, _⟩
           · exact (its_turn hr hl g).imp (fun h => by simp [h]) (fun h => by simp [h])
           · cases g; left; simp
           · exact absurd rfl (g id0)
         · cases ht
       · rename_i v' l' hnp e
         cases e
         split at ht
         · cases ht
         · rename_i r hmf hr
           cases ht
           rcases hown with g | g | ⟨_, g, _⟩
           · exact its_turn hr hl g
           · subst g; exact absurd rfl (hnp id)
           · rw [hmf] at g; cases g
         · rename_i r hmt hr
           split at ht
           · rename_i cs hcs
             split at ht
             · rename_i q hq
               cases ht
               rcases hown with g | g | ⟨_, _, g⟩
               · exact (its_turn hr hl g).imp (fun h => by simp [h]) (fun h => by simp [h])
               · subst g; exact absurd rfl (hnp id)
               · right; simp [turnCells_mem hq (g cs hcs)]
             · cases ht
           · cases ht
     · cases hp
   · cases hp
theorem Backs.mem {bl : Nat → Option Blk} {ts : List Turn} {upd : List (List PC)} {back : List (Nat × Blk)} (h : Backs bl ts upd back) {id : Nat} (hm : Turn.ref id ∈ ts ∨ Turn.row id ∈ ts) : ∃ b', (id, b') ∈ back := by
 induction h with
 | nil => rcases hm with h | h <;> cases h
 | ref h1 h2 _ ih =>
   simp only [List.mem_cons, Turn.ref.injEq, reduceCtorEq, false_or] at hm
   rcases hm with (rfl | hm) | hm
   · exact ⟨_, List.mem_cons_self ..⟩
   · obtain ⟨b', g⟩ := ih (.inl hm); exact ⟨b', by simp [g]⟩
   · obtain ⟨b', g⟩ := ih (.inr hm); exact ⟨b', by simp [g]⟩
 | row h1 h2 _ ih =>
   simp only [List.mem_cons, Turn.row.injEq, reduceCtorEq, false_or] at hm
   rcases hm with hm | (rfl | hm)
   · obtain ⟨b', g⟩ := ih (.inl hm); exact ⟨b', by simp [g]⟩
   · exact ⟨_, List.mem_cons_self ..⟩
   · obtain ⟨b', g⟩ := ih (.inr hm); exact ⟨b', by simp [g]⟩
 | none _ ih =>
   simp only [List.mem_cons, reduceCtorEq, false_or] at hm
   exact ih hm
end
/-! ### A call keeps what the evaluator says. No condition beyond those that stand in each. -/
section
variable {N : Nat} {W0 : World} {M : Fr} {st : St} {μ : Lay} {a : Act} {w : World}
theorem TurnOk.wr {bl : Nat → Option Blk} {ts : List Turn} {upd : List (List PC)} {back : List (Nat × Blk)} (hb : Backs bl ts upd back) {id : Nat} (hm : Turn.ref id ∈ ts ∨ Turn.row id ∈ ts) : ∃ b, bl id = some b ∧ Wr b := by
 rcases hm with hm | hm
 · obtain ⟨xs, h⟩ := hb.ok _ hm; exact ⟨_, h, trivial⟩
 · obtain ⟨k, cs, ys, h, hk⟩ := hb.ok _ hm; exact ⟨_, h, hk⟩
/-- The arguments are as the contract wants them. -/
theorem args_ready (h : Inv N W0 M st μ a w) {muts : List Nat} {vals : List LV} {args : List RV} {xs : List Value} {ts : List Turn} {upd : List (List PC)} {back : List (Nat × Blk)} (hvals : All2 (RL st.bl μ) vals xs) (hargs : rvsOf st.bl vals = some args)
   (hts : turnedOf muts 0 vals = some ts) (hits : itsOk (argIts st.bl muts 0 vals) = true) (hb : Backs st.bl ts upd back) :
   ArgsAre muts w 0 args xs ∧ (argsIts muts w 0 args xs).Pairwise AptIt ∧ ∀ r ∈ wrOf (argsIts muts w 0 args xs), ∃ id b p, (∃ b', (id, b') ∈ back) ∧ st.bl id = some b ∧ Wr b ∧ μ id = some p ∧ p.r = r := by
 obtain ⟨h1, h2⟩ := rvs_are h muts hargs hvals (muts_ok hts hb.ok)
 refine ⟨h1, h2.apart h hits (fun id b hm hbl => ?_), fun r hr => ?_⟩
 · obtain ⟨b', e1, e2⟩ := TurnOk.wr hb (its_turn hts hargs hm)
   rw [hbl] at e1; cases e1; exact e2
 · obtain ⟨id, b, p, k1, k2, _, k4, k5⟩ := h2.mem (wrOf_mem.mp hr)
   have ht := its_turn hts hargs k1
   obtain ⟨b', e1, e2⟩ := TurnOk.wr hb ht
   rw [k2] at e1; cases e1
   exact ⟨id, b, p, hb.mem ht, k2, e2, k4, k5⟩
theorem fresh_none {bl : Nat → Option Blk} : ∀ {l : List (Nat × Blk)}, freshB bl l = true → ∀ j ∈ fstB l, bl j = none
 | [], _, j, hj => by cases hj
 | (n, b) :: l, h, j, hj => by
   unfold freshB at h
   split at h
   · rename_i hn
     have hj : j ∈ n :: fstB l := hj
     simp only [List.mem_cons] at hj
     rcases hj with rfl | hj
     · exact hn
     · exact fresh_none h j hj
   · cases h
theorem call_keeps (h : Inv N W0 M st μ a w) {muts : List Nat} {vals : List LV} {args : List RV} {xs : List Value} {ts : List Turn} {ret : Ret} {back z : List (Nat × Blk)} {v : Value} {w' : World} {dst : Option Nat} {nid : Nat}
   (hvals : All2 (RL st.bl μ) vals xs) (hargs : rvsOf st.bl vals = some args) (hts : turnedOf muts 0 vals = some ts) (hits : itsOk (argIts st.bl muts 0 vals) = true) (hb : Backs st.bl ts ret.upd back)
   (hz : (z = frozen (updL st.bl back) (argIts st.bl muts 0 vals) ∧ hasRo ret.vals = true) ∨ (z = [] ∧ hasRo ret.vals = false))
   (hfresh : freshB (updL (updL st.bl back) z) (takeRVs (fun k => k) nid ret.vals).2 = true) (hapart : apartB (fstB (takeRVs (fun k => k) nid ret.vals).2) = true) (hnid : M.lo ≤ nid) (hd : ∀ d, dst = some d → d < N)
   (ans : Answer muts w args xs ret v w') :
   ∃ μ', Inv N W0 M ⟨updO st.tm dst (lvOf (takeRVs (fun k => k) nid ret.vals).1), updL (updL (updL st.bl back) z) (takeRVs (fun k => k) nid ret.vals).2⟩ μ' (a.put dst v) w' := by
 obtain ⟨_, _, hcov⟩ := args_ready h hvals hargs hts hits hb
 have hnew := back_new h ans.since hb (args_tgts hts hargs hvals) ans.upd
 have h1 := h.called ans.since hnew hcov
 have hzm : ∀ id b, (id, b) ∈ z → ∃ k cs ys, updL st.bl back id = some (.row k cs ys) ∧ b = .row .ro cs ys := by
   intro id b hm
   rcases hz with ⟨rfl, _⟩ | ⟨rfl, _⟩
   · exact frozen_mem hm
   · cases hm
 have h2 := Inv.freeze h1 z hzm
 obtain ⟨ys, rfl, hys, hpair, hits'⟩ := ans.vals
 have was1 : ∀ j d, updL st.bl back j = some d → d ≠ .gone → ∃ c, st.bl j = some c ∧ c ≠ .gone := by
   intro j d hd hg
   rcases updL_mem hd with g | ⟨_, g⟩
   · obtain ⟨b, e1, e2, _⟩ := hnew j d g
     exact ⟨b, e1, by intro e; subst e; exact e2⟩
   · exact ⟨d, g, hg⟩
 have was2 : ∀ j d, updL (updL st.bl back) z j = some d → d ≠ .gone → ∃ c, st.bl j = some c ∧ c ≠ .gone := by
   intro j d hd hg
   rcases updL_mem hd with g | ⟨_, g⟩
   · obtain ⟨k, cs, zs, e1, _⟩ := hzm j d g
     exact was1 j _ e1 (by simp)
   · exact was1 j d g hg
 have hrow1 : ∀ i k cs zs, st.bl i = some (.row k cs zs) → ∃ k' zs', updL st.bl back i = some (.row k' cs zs') := by
   intro i k cs zs hi
   by_cases hin : ∃ b, (i, b) ∈ back
   · cases hu : updL st.bl back i with
     | none =>
       exfalso
       obtain ⟨b, hb'⟩ := hin
       have : ∀ (l : List (Nat × Blk)), updL st.bl l i ≠ none := by
         intro l
         induction l with
         | nil => show st.bl i ≠ none; rw [hi]; simp
         | cons x l ih =>
           obtain ⟨n, v⟩ := x
           show upd (updL st.bl l) n (some v) i ≠ none
           rcases upd_cases (updL st.bl l) n i (some v) with ⟨_, e⟩ | ⟨_, e⟩
           · rw [e]; simp
           · rw [e]; exact ih
       exact this back hu
     | some c =>
       rcases updL_mem hu with g | ⟨_, g⟩
       · obtain ⟨b, e1, _, e3, e4, _⟩ := hnew i c g
         rw [hi] at e1; cases e1
         cases c with
         | box _ => exact e4.elim
         | gone => exact e3.elim
         | row k' cs' zs' => obtain ⟨rfl, _⟩ := e4; exact ⟨k', zs', rfl⟩
       · rw [hi] at g; cases g; exact ⟨_, _, rfl⟩
   · rw [updL_none fun b hb' => hin ⟨b, hb'⟩]; exact ⟨k, zs, hi⟩
 have hfree : Free W0 M (updL (updL st.bl back) z) μ (rvsIts (fun k => k) w' ret.vals ys) := by
   refine ⟨hpair, fun it hit j d q hd hg hw hq => ?_, fun it hit => ?_⟩
   · obtain ⟨c, e1, e2⟩ := was2 j d hd hg
     have hlt := h.lt e1 e2 hq
     rcases hits' it hit with g | ⟨g1, g2, g3⟩
     · omega
     · have hwd : Wr d := by
         rcases hw with e | e
         · rw [g1] at e; cases e
         · exact e
       obtain ⟨i, k, cs, zs, p, m, k1, k2, k3, k4⟩ := args_rows h (n := 0) (muts := muts) hargs hvals g2
       obtain ⟨k', zs', k5⟩ := hrow1 i k cs zs k2
       have hro : ∃ cs2 zs2, updL (updL st.bl back) z i = some (.row .ro cs2 zs2) := by
         by_cases hin : ∃ b, (i, b) ∈ z
         · cases hu : updL (updL st.bl back) z i with
           | none =>
             exfalso
             have : ∀ (l : List (Nat × Blk)), updL (updL st.bl back) l i ≠ none := by
               intro l
               induction l with
               | nil => show updL st.bl back i ≠ none; rw [k5]; simp
               | cons x l ih =>
                 obtain ⟨n, v⟩ := x
                 show upd (updL (updL st.bl back) l) n (some v) i ≠ none
                 rcases upd_cases (updL (updL st.bl back) l) n i (some v) with ⟨_, e⟩ | ⟨_, e⟩
                 · rw [e]; simp
                 · rw [e]; exact ih
             exact this z hu
           | some c =>
             rcases updL_mem hu with g | ⟨g, _⟩
             · obtain ⟨_, cs2, zs2, _, rfl⟩ := hzm i c g
               exact ⟨cs2, zs2, rfl⟩
             · obtain ⟨b, hb'⟩ := hin; exact absurd hb' (g b)
         · rw [updL_none fun b hb' => hin ⟨b, hb'⟩]
           rcases hz with ⟨rfl, _⟩ | ⟨_, e⟩
           · rcases frozen_all k1 k5 with e | e
             · subst e; exact ⟨cs, zs', k5⟩
             · exact absurd e hin
           · rw [g3] at e; cases e
       obtain ⟨cs2, zs2, hro⟩ := hro
       by_cases e : j = i
       · subst e
         rw [hro] at hd; cases hd
         exact absurd rfl hwd
       · have := h2.ap.two j i d _ q p e hd hro hwd (by simp) hq k3
         rw [← k4]; exact fun x => this x.symm
   · rcases hits' it hit with g | ⟨g1, g2, _⟩
     · exact .inl (Nat.le_trans h.since.size g)
     · obtain ⟨i, k, cs, zs, p, m, k1, k2, k3, k4⟩ := args_rows h (n := 0) (muts := muts) hargs hvals g2
       rw [← k4]
       exact (h.ap.old i _ p k2 (by simp) k3).imp (fun h => h) (fun g => ⟨g, fun e => by rw [g1] at e; cases e⟩)
 obtain ⟨μ', T, hr⟩ := takeRVs_sound (fun k => k) ret.vals ys nid st.tm _ μ h2 hnid hys (fresh_none hfresh) hapart hfree
 exact ⟨μ', T.inv.put hd (lvOf_sound hr)⟩
end
end Go.Ev
