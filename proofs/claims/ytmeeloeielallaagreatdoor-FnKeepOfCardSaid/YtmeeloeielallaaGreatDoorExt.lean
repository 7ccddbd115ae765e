/- Two functions of Go's library, met by their contracts: Itoa and SplitN. No condition beyond those that stand in each. -/
import Derived.Test.YtmeeloeielallaaGreatDoorSoE
import Derived.Lib.ItoaMem
import Derived.Lib.Split
import Derived.Lib.SplitLaws
import Derived.Lib.CutLaws
namespace Go.Ev
open Go.RowKit
set_option linter.unusedVariables false
set_option linter.unusedSimpArgs false
/-- What the world must hold: for Itoa; for SplitN. -/
def ExtI (P : Program) (B : Base) : Prop := ∀ w, Good B w → Lib.TabIs P w "internal/strconv.uint64pow10" .u64 Lib.pow10Tab
def ExtS (P : Program) (B : Base) : Prop := ∃ m : Int, ∀ w, Good B w → w.cell? ⟨0, 0, none⟩ = some (.int .i64 m)
/-- Where the first blocks hold it, the world does. -/
theorem extI_of {P : Program} {W : World} (h : Lib.TabIs P W "internal/strconv.uint64pow10" .u64 Lib.pow10Tab) : ExtI P ⟨W.heap.size, W⟩ := by
 intro w hw
 unfold Lib.TabIs World.var? at *
 cases hg : P.globalNamed "internal/strconv.uint64pow10" with
 | none => simp [hg] at h
 | some g =>
   simp only [hg, Option.bind_some] at h ⊢
   have hlt : g < W.heap.size := by
     rcases Nat.lt_or_ge g W.heap.size with h' | h'
     · exact h'
     · rw [Array.getElem?_eq_none h'] at h; simp at h
   rw [hw.2 g hlt]
   exact h
theorem extS_of {P : Program} {W : World} (h : ∃ m : Int, W.cell? ⟨0, 0, none⟩ = some (.int .i64 m)) : ExtS P ⟨W.heap.size, W⟩ := by
 obtain ⟨m, h⟩ := h
 refine ⟨m, fun w hw => ?_⟩
 unfold World.cell? at h ⊢
 have hlt : 0 < W.heap.size := by
   rcases Nat.lt_or_ge 0 W.heap.size with h' | h'
   · exact h'
   · rw [show (⟨0, 0, none⟩ : Addr).block = 0 from rfl, Array.getElem?_eq_none h'] at h; simp at h
 rw [show w.heap[(⟨0, 0, none⟩ : Addr).block]? = W.heap[(⟨0, 0, none⟩ : Addr).block]? from hw.2 0 hlt]
 exact h
theorem since_grow (w : World) (k : Nat) (os : Array Obj) (M : List Nat) : Since w M (Sort.grow (w.drewN k) os) := by
 have hb : ∀ j, j < w.heap.size → (w.heap ++ os)[j]? = w.heap[j]? := fun j hj => Array.getElem?_append_left hj
 refine ⟨rfl, rfl, rfl, ?_, fun j hj _ => hb j hj, fun j cells t fr hj h => ⟨cells, (hb j hj).trans h, rfl⟩⟩
 show w.heap.size ≤ (w.heap ++ os).size
 rw [Array.size_append]
 omega
theorem itoa_conok {R : Type} {P : Program} {B : Base} {f : FuncId} (hc : ∀ n : Int, -9223372036854775808 ≤ n → n ≤ 9223372036854775807 → ∀ w, Good B w → Calls P f #[.int .i64 n] w fun e w' => e = .returned (.string ⟨(Lib.itoa n).toArray⟩) ∧ ∃ k os, w' = Sort.grow (w.drewN k) os)
   (con : Con R) (hm : con.muts = []) (hrun : ∀ args (K : Ret → Option R) o, con.run args K = some o → ∃ a0 : Int, args = [.val false [.s (.int .i64 a0)]] ∧ (-9223372036854775808 ≤ a0 ∧ a0 ≤ 9223372036854775807) ∧ K ⟨[.val false [.s (.string (ByteArray.mk (Lib.itoa a0).toArray))]], []⟩ = some o) : ConOk P B f con := by
 intro args K o h
 obtain ⟨a0, rfl, ⟨h0, h1⟩, hk⟩ := hrun args K o h
 refine ⟨_, hk, fun w xs hg ha _ _ => ?_⟩
 cases ha with
 | cons g1 g2 =>
   cases g2
   obtain ⟨p, e, hp⟩ := g1
   simp only [List.cons.injEq, and_true] at e
   subst e
   obtain ⟨rfl, _⟩ := hp
   refine Calls.mono (hc a0 h0 h1 w hg) fun e w' he => ?_
   obtain ⟨rfl, k, os, rfl⟩ := he
   refine ⟨_, rfl, since_grow w k os _, ⟨[.string ⟨(Lib.itoa a0).toArray⟩], rfl, .cons ⟨_, rfl, rfl, rfl⟩ .nil, .nil, fun it hit => by cases hit⟩, ?_⟩
   rw [hm]
   exact .nil
theorem since_alloc (w : World) (o : Obj) (M : List Nat) : Since w M (w.alloc o) := by
 have hb : ∀ j, j < w.heap.size → (w.alloc o).heap[j]? = w.heap[j]? := fun j hj => RowKit.Below.heap_alloc w o j hj
 refine ⟨rfl, rfl, rfl, ?_, fun j hj _ => hb j hj, fun j cells t fr hj h => ⟨cells, (hb j hj).trans h, rfl⟩⟩
 show w.heap.size ≤ (w.heap.push o).size
 rw [Array.size_push]
 omega
theorem splitn_conok {R : Type} {P : Program} {B : Base} {f : FuncId} {ty : TypeId} (hc : ∀ (s sep : ByteArray) (n : Nat), s.size < 4294967281 → 1 ≤ sep.size → 1 ≤ n → n ≤ 9223372036854775807 → ∀ w, Good B w → Calls P f #[.string s, .string sep, .int .i64 n] w fun e w' =>
     e = .returned (.slice (some ⟨w.heap.size, 0, none⟩) (Lib.splitB sep 0 (min n (s.size + 1) - 1) s).length (min n (s.size + 1))) ∧ w' = w.alloc (.cells (Lib.cellsOf (Lib.splitB sep 0 (min n (s.size + 1) - 1) s) (min n (s.size + 1))) ty))
   (con : Con R) (hm : con.muts = []) (hrun : ∀ args (K : Ret → Option R) o, con.run args K = some o → ∃ (a0 a1 : ByteArray) (a2 : Int), args = [.val false [.s (.string a0)], .val false [.s (.string a1)], .val false [.s (.int .i64 a2)]] ∧ (a0.size < 4294967281 ∧ 1 ≤ a1.size ∧ 1 ≤ a2 ∧ a2 ≤ 9223372036854775807) ∧ K ⟨[.val false [.row .own [.str] (Lib.splitB a1 0 (min a2.toNat (a0.size + 1) - 1) a0)]], []⟩ = some o) : ConOk P B f con := by
 intro args K o h
 obtain ⟨a0, a1, a2, rfl, ⟨h0, h1, h2, h3⟩, hk⟩ := hrun args K o h
 obtain ⟨n, rfl⟩ := Int.eq_ofNat_of_zero_le (show 0 ≤ a2 by omega)
 rw [Int.toNat_natCast] at hk
 refine ⟨_, hk, fun w xs hg ha _ _ => ?_⟩
 cases ha with
 | cons g1 g2 =>
   cases g2 with
   | cons g2 g3 =>
     cases g3 with
     | cons g3 g4 =>
       cases g4
       obtain ⟨p, e, hp⟩ := g1
       simp only [List.cons.injEq, and_true] at e
       subst e
       obtain ⟨rfl, _⟩ := hp
       obtain ⟨p, e, hp⟩ := g2
       simp only [List.cons.injEq, and_true] at e
       subst e
       obtain ⟨rfl, _⟩ := hp
       obtain ⟨p, e, hp⟩ := g3
       simp only [List.cons.injEq, and_true] at e
       subst e
       obtain ⟨rfl, _⟩ := hp
       refine Calls.mono (hc a0 a1 n h0 h1 (by omega) (by omega) w hg) fun e w' he => ?_
       obtain ⟨rfl, rfl⟩ := he
       generalize hN : min n (a0.size + 1) = N
       have hle : (Lib.splitB a1 0 (N - 1) a0).length ≤ N := by
         have := Lib.splitB_length_le a1 0 (N - 1) a0
         omega
       generalize Lib.splitB a1 0 (N - 1) a0 = l at hle
       have hnew : (w.alloc (.cells (Lib.cellsOf l N) ty)).heap[w.heap.size]? = some (.cells (Lib.cellsOf l N) ty) := by
         show (w.heap.push _)[w.heap.size]? = _
         rw [Array.getElem?_push_size]
       refine ⟨_, rfl, since_alloc w _ _, ⟨[.slice (some ⟨w.heap.size, 0, none⟩) l.length N], rfl, .cons ⟨_, rfl, by simp, ⟨some ⟨w.heap.size, 0, none⟩, N, rfl, hle, (fun e => by cases e), fun p hp => ?_⟩, fun _ ad n cap he => ?_⟩ .nil, ?_, fun it hit => ?_⟩, ?_⟩
       · cases hp
         refine ⟨rfl, _, _, _, hnew, fun j v hj => ?_⟩
         have e : (l.flatMap (enc [Sc.str])) = l.map Value.string := by
           generalize l = l
           induction l with
           | nil => rfl
           | cons z l ih => rw [List.flatMap_cons, ih]; rfl
         rw [e] at hj
         have hj' := (List.getElem?_eq_some_iff.1 hj).1
         unfold Lib.cellsOf
         rw [Nat.zero_add, List.getElem?_toArray, List.getElem?_append_left hj']
         exact hj
       · cases he
         refine ⟨_, _, _, hnew, fun o ho hfr => by omega, fun _ => ⟨rfl, ?_⟩⟩
         rw [Lib.cellsOf_size hle]
         simp
       · exact .cons (fun _ h => by cases h) .nil
       · refine .inl ?_
         simp only [rvsIts, rvIts, pcIts, rowIts, List.append_nil, List.mem_singleton] at hit
         rw [hit]
         exact Nat.le_refl _
       · rw [hm]
         exact .nil
theorem since_drew (w : World) (n : Nat) (M : List Nat) : Since w M (w.drewN n) := ⟨rfl, rfl, rfl, Nat.le_refl _, fun _ _ _ => rfl, fun j cells t fr hj h => ⟨cells, h, rfl⟩⟩
theorem cut_conok {R : Type} {P : Program} {B : Base} {f : FuncId} (hc : ∀ s sep : ByteArray, s.size < 4294967281 → ∀ w, Good B w → Calls P f #[.string s, .string sep] w fun e w' =>
     e = .returned (.tuple #[.string ⟨(Lib.cut s.data.toList sep.data.toList).1.toArray⟩, .string ⟨(Lib.cut s.data.toList sep.data.toList).2.1.toArray⟩, .bool (Lib.cut s.data.toList sep.data.toList).2.2]) ∧ ∃ n, w' = w.drewN n)
   (con : Con R) (hm : con.muts = []) (hrun : ∀ args (K : Ret → Option R) o, con.run args K = some o → ∃ (a0 a1 : ByteArray), args = [.val false [.s (.string a0)], .val false [.s (.string a1)]] ∧ a0.size < 4294967281 ∧
     K ⟨[.val false [.s (.string ⟨(Lib.cut a0.data.toList a1.data.toList).1.toArray⟩)], .val false [.s (.string ⟨(Lib.cut a0.data.toList a1.data.toList).2.1.toArray⟩)], .val false [.s (.bool (Lib.cut a0.data.toList a1.data.toList).2.2)]], []⟩ = some o) : ConOk P B f con := by
 intro args K o h
 obtain ⟨a0, a1, rfl, h0, hk⟩ := hrun args K o h
 refine ⟨_, hk, fun w xs hg ha _ _ => ?_⟩
 cases ha with
 | cons g1 g2 =>
   cases g2 with
   | cons g2 g3 =>
     cases g3
     obtain ⟨p, e, hp⟩ := g1
     simp only [List.cons.injEq, and_true] at e
     subst e
     obtain ⟨rfl, _⟩ := hp
     obtain ⟨p, e, hp⟩ := g2
     simp only [List.cons.injEq, and_true] at e
     subst e
     obtain ⟨rfl, _⟩ := hp
     refine Calls.mono (hc a0 a1 h0 w hg) fun e w' he => ?_
     obtain ⟨rfl, n, rfl⟩ := he
     refine ⟨_, rfl, since_drew w n _, ⟨[.string ⟨(Lib.cut a0.data.toList a1.data.toList).1.toArray⟩, .string ⟨(Lib.cut a0.data.toList a1.data.toList).2.1.toArray⟩, .bool (Lib.cut a0.data.toList a1.data.toList).2.2], rfl, .cons ⟨_, rfl, rfl, rfl⟩ (.cons ⟨_, rfl, rfl, rfl⟩ (.cons ⟨_, rfl, rfl, rfl⟩ .nil)), .nil, fun it hit => by cases hit⟩, ?_⟩
     rw [hm]
     exact .nil
theorem split_conok {R : Type} {P : Program} {B : Base} {f : FuncId} {ty : TypeId} (hc : ∀ (s sep : ByteArray), s.size < 4294967281 → 1 ≤ sep.size → ∀ w, Good B w → Calls P f #[.string s, .string sep] w fun e w' =>
     e = .returned (.slice (some ⟨w.heap.size, 0, none⟩) (Lib.countB s sep + 1) (Lib.countB s sep + 1)) ∧ w' = w.alloc (.cells ((Lib.splitB sep 0 (Lib.countB s sep) s).map Value.string).toArray ty))
   (con : Con R) (hm : con.muts = []) (hrun : ∀ args (K : Ret → Option R) o, con.run args K = some o → ∃ (a0 a1 : ByteArray), args = [.val false [.s (.string a0)], .val false [.s (.string a1)]] ∧ (a0.size < 4294967281 ∧ 1 ≤ a1.size) ∧ K ⟨[.val false [.row .own [.str] (Lib.splitB a1 0 (Lib.countB a0 a1) a0)]], []⟩ = some o) : ConOk P B f con := by
 intro args K o h
 obtain ⟨a0, a1, rfl, ⟨h0, h1⟩, hk⟩ := hrun args K o h
 refine ⟨_, hk, fun w xs hg ha _ _ => ?_⟩
 cases ha with
 | cons g1 g2 =>
   cases g2 with
   | cons g2 g3 =>
     cases g3
     obtain ⟨p, e, hp⟩ := g1
     simp only [List.cons.injEq, and_true] at e
     subst e
     obtain ⟨rfl, _⟩ := hp
     obtain ⟨p, e, hp⟩ := g2
     simp only [List.cons.injEq, and_true] at e
     subst e
     obtain ⟨rfl, _⟩ := hp
     refine Calls.mono (hc a0 a1 h0 h1 w hg) fun e w' he => ?_
     obtain ⟨rfl, rfl⟩ := he
     have hlen := Lib.splitB_all a1 h1 0 _ a0 rfl
     generalize Lib.splitB a1 0 (Lib.countB a0 a1) a0 = l at hlen
     rw [← hlen]
     have hnew : (w.alloc (.cells (l.map Value.string).toArray ty)).heap[w.heap.size]? = some (.cells (l.map Value.string).toArray ty) := by
       show (w.heap.push _)[w.heap.size]? = _
       rw [Array.getElem?_push_size]
     refine ⟨_, rfl, since_alloc w _ _, ⟨[.slice (some ⟨w.heap.size, 0, none⟩) l.length l.length], rfl, .cons ⟨_, rfl, by simp, ⟨some ⟨w.heap.size, 0, none⟩, l.length, rfl, Nat.le_refl _, (fun e => by cases e), fun p hp => ?_⟩, fun _ ad n cap he => ?_⟩ .nil, ?_, fun it hit => ?_⟩, ?_⟩
     · cases hp
       refine ⟨rfl, _, _, _, hnew, fun j v hj => ?_⟩
       have e : (l.flatMap (enc [Sc.str])) = l.map Value.string := by
         generalize l = l
         induction l with
         | nil => rfl
         | cons z l ih => rw [List.flatMap_cons, ih]; rfl
       rw [e] at hj
       rw [Nat.zero_add, List.getElem?_toArray]
       exact hj
     · cases he
       refine ⟨_, _, _, hnew, fun o ho hfr => by omega, fun _ => ⟨rfl, ?_⟩⟩
       simp
     · exact .cons (fun _ h => by cases h) .nil
     · refine .inl ?_
       simp only [rvsIts, rvIts, pcIts, rowIts, List.append_nil, List.mem_singleton] at hit
       rw [hit]
       exact Nat.le_refl _
     · rw [hm]
       exact .nil
end Go.Ev
