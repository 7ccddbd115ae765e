/- The pure statement of the law FnExactNoteOk: what the printed functions compute answers true, for every input. No condition beyond those that the statement itself names. -/
import Derived.Test.YteglhciieakmaaaPFnExactNoteOkx2
import Derived.Test.YteglhciieakmaaaCom
namespace Go.Proofs.Yteglhciieakmaaa.Pure
open Go.RowKit Go.Proofs.Yteglhciieakmaaa.PFnExactNoteOk Go.Proofs.YteglhciieakmaaaW.PrintWords Go.Proofs.YteglhciieakmaaaW.PrintLast Go.Proofs.Yteglhciieakmaaa.Com
set_option linter.unusedVariables false
set_option linter.unusedSimpArgs false
namespace FnExactNoteOk_
theorem spec_l6In.val (a b c : Int) : spec_l6In.f a b c = some (inB a b c) := by
  unfold spec_l6In.f inB
  by_cases h : b ≤ a <;> simp [h]

theorem spec_l3Keeper.val (a : Int) : spec_l3Keeper.f a = some (inB a 0 3) := by
  unfold spec_l3Keeper.f
  rw [spec_l6In.val]; rfl

theorem spec_NoteOk.loop (a b c d : Int) (t : ByteArray) (ht : t.size ≤ 140737488355328) : ∀ (m i : Nat), i ≤ t.size → t.size - i = m → Ev (fun k => spec_NoteOk.l0 k (i : Int) a b c d t) ((t.data.toList.drop i).all chOk) := by
  intro m
  induction m with
  | zero =>
    intro i hi hm
    rw [drop_end (by omega)]
    refine Ev.step (fun k => by rw [spec_NoteOk.l0]) ?_
    exact ev_else (by omega) (Ev.now _)
  | succ m ih =>
    intro i hi hm
    obtain ⟨ch, hd, hb⟩ := bt_drop (t := t) (i := i) (by omega)
    refine Ev.step (fun k => by rw [spec_NoteOk.l0]) ?_
    refine ev_if (by omega) (ev_if (by omega) ?_)
    rw [hb, hd, List.all_cons]
    by_cases h1 : (ch.toNat : Int) < 32
    · rw [show chOk ch = false from by simp [chOk]; omega, Bool.false_and]
      exact ev_if h1 (Ev.now _)
    refine ev_else h1 ?_
    by_cases h2 : (ch.toNat : Int) > 126
    · rw [show chOk ch = false from by simp [chOk]; omega, Bool.false_and]
      exact ev_if h2 (Ev.now _)
    refine ev_else h2 ?_
    rw [show chOk ch = true from by simp [chOk]; omega, Bool.true_and, wrap64_id (by omega) (by omega)]
    exact ih (i + 1) (by omega) (by omega)
theorem spec_NoteOk.ev (a b c d : Int) (t : ByteArray) (ht : t.size ≤ 140737488355328) : Ev (fun k => spec_NoteOk.f k a b c d t) (ntOk a b c d t) := by
  have hj : ∀ z, Ev (fun k => spec_NoteOk.j0 k z a b c d t) (!z && t.data.toList.all chOk) := by
    intro z
    refine Ev.step (fun k => by rw [spec_NoteOk.j0]) ?_
    cases z with
    | true => exact ev_if rfl (Ev.now _)
    | false => exact ev_else (by simp) (spec_NoteOk.loop a b c d t ht t.size 0 (by omega) (by omega))
  have hno : ∀ r, r = false → Ev (fun k => spec_NoteOk.j0 k true a b c d t) r := by
    intro r hr
    subst hr
    exact hj true
  unfold spec_NoteOk.f
  refine ev_bind0 (spec_l3Keeper.val a) ?_
  by_cases h1 : inB a 0 3 = true
  · refine ev_if h1 (ev_bind0 (spec_l3Keeper.val c) ?_)
    by_cases h2 : inB c 0 3 = true
    · refine ev_if h2 (ev_bind0 (spec_l6In.val b 1 99) ?_)
      by_cases h3 : inB b 1 99 = true
      · refine ev_if h3 (ev_bind0 (spec_l6In.val d 1 999) ?_)
        by_cases h4 : inB d 1 999 = true
        · refine ev_if h4 ?_
          by_cases h5 : (t.size : Int) < 1
          · exact ev_if h5 (hno _ (by simp [ntOk, txOk, inB_no (x := (t.size : Int)) (a := 1) (b := 24) (by omega)]))
          · refine ev_else h5 ?_
            by_cases h6 : (t.size : Int) > 24
            · rw [decide_eq_true h6]
              exact hno _ (by simp [ntOk, txOk, inB_no (x := (t.size : Int)) (a := 1) (b := 24) (by omega)])
            · rw [decide_eq_false h6]
              have := hj false
              have e : ntOk a b c d t = (!false && t.data.toList.all chOk) := by
                simp [ntOk, txOk, h1, h2, h3, h4, inB_yes (x := (t.size : Int)) (a := 1) (b := 24) (by omega) (by omega)]
              rw [e]
              exact this
        · exact ev_else h4 (hno _ (by simp [ntOk, h4]))
      · exact ev_else h3 (hno _ (by simp [ntOk, h3]))
    · exact ev_else h2 (hno _ (by simp [ntOk, h2]))
  · exact ev_else h1 (hno _ (by simp [ntOk, h1]))

theorem impl_in.val (a b c : Int) : impl_in.f a b c = some (inB a b c) := by
  unfold impl_in.f inB
  by_cases h : b ≤ a <;> simp [h]

theorem impl_isNode.val (a : Int) : impl_isNode.f a = some (inB a 0 3) := by
  unfold impl_isNode.f
  rw [impl_in.val]; rfl

theorem impl_textOk.loop (t : ByteArray) (ht : t.size ≤ 140737488355328) : ∀ (m i : Nat), i ≤ t.size → t.size - i = m → Ev (fun k => impl_textOk.l0 k t (i : Int)) (inB (t.size : Int) 1 24 && (t.data.toList.drop i).all chOk) := by
  intro m
  induction m with
  | zero =>
    intro i hi hm
    rw [drop_end (by omega)]
    refine Ev.step (fun k => by rw [impl_textOk.l0]) ?_
    refine ev_else (by omega) (ev_bind0 (impl_in.val _ _ _) ?_)
    simp only [List.all_nil, Bool.and_true]
    exact Ev.now _
  | succ m ih =>
    intro i hi hm
    obtain ⟨ch, hd, hb⟩ := bt_drop (t := t) (i := i) (by omega)
    have hc := ch.toNat_lt
    refine Ev.step (fun k => by rw [impl_textOk.l0]) ?_
    refine ev_if (by omega) (ev_if (by omega) ?_)
    rw [hb, hd, List.all_cons, wrap64_id (x := (ch.toNat : Int)) (by omega) (by omega)]
    refine ev_bind0 (impl_in.val _ _ _) ?_
    have e : inB (ch.toNat : Int) 32 126 = chOk ch := by
      rw [Bool.eq_iff_iff]
      simp [inB, chOk]
      omega
    rw [e]
    cases h : chOk ch with
    | false =>
      rw [Bool.false_and, Bool.and_false]
      exact ev_else (by simp) (Ev.now _)
    | true =>
      refine ev_if rfl ?_
      rw [Bool.true_and, wrap64_id (by omega) (by omega)]
      exact ih (i + 1) (by omega) (by omega)
theorem impl_textOk.ev (t : ByteArray) (ht : t.size ≤ 140737488355328) : Ev (fun k => impl_textOk.f k t) (txOk t) := by
  unfold impl_textOk.f
  exact impl_textOk.loop t ht t.size 0 (by omega) (by omega)

theorem impl_NoteOk.ev (a b c d : Int) (t : ByteArray) (ht : t.size ≤ 140737488355328) : Ev (fun k => impl_NoteOk.f k a b c d t) (ntOk a b c d t) := by
  unfold impl_NoteOk.f
  refine ev_bind0 (impl_isNode.val a) ?_
  by_cases h1 : inB a 0 3 = true
  · refine ev_if h1 (ev_bind0 (impl_isNode.val c) ?_)
    by_cases h2 : inB c 0 3 = true
    · refine ev_if h2 (ev_bind0 (impl_in.val b 1 99) ?_)
      by_cases h3 : inB b 1 99 = true
      · refine ev_if h3 (ev_bind0 (impl_in.val d 1 999) ?_)
        by_cases h4 : inB d 1 999 = true
        · refine ev_if h4 (Ev.bind (impl_textOk.ev t ht) ?_)
          rw [show ntOk a b c d t = txOk t from by simp [ntOk, h1, h2, h3, h4]]
          exact Ev.now _
        · rw [show ntOk a b c d t = false from by simp [ntOk, h4]]
          exact ev_else h4 (Ev.now _)
      · rw [show ntOk a b c d t = false from by simp [ntOk, h3]]
        exact ev_else h3 (Ev.now _)
    · rw [show ntOk a b c d t = false from by simp [ntOk, h2]]
      exact ev_else h2 (Ev.now _)
  · rw [show ntOk a b c d t = false from by simp [ntOk, h1]]
    exact ev_else h1 (Ev.now _)

theorem FnExactNoteOk.ev (a b c d : Int) (t : ByteArray) (hm : t.size ≤ 9223372036854775807) : Ev (fun k => laws_FnExactNoteOk.f k a b c d t) true := by
  unfold laws_FnExactNoteOk.f laws_szNote.f
  by_cases hs : wrap64 (1048576 - (t.size : Int)) < 0
  · rw [if_pos hs]
    exact ev_bind0 rfl (ev_if (by omega) (Ev.now _))
  · have ht : t.size ≤ 140737488355328 := by
      rw [wrap64_id (x := 1048576 - (t.size : Int)) (by omega) (by omega)] at hs
      omega
    rw [if_neg hs]
    refine ev_bind0 rfl (ev_else hs (ev_bind0 (a := (a, b, c, d, t)) rfl (Ev.bind (spec_NoteOk.ev a b c d t ht) (ev_bind0 (a := (a, b, c, d, t)) rfl (Ev.bind (impl_NoteOk.ev a b c d t ht) ?_)))))
    exact ev_else (by simp) (Ev.now _)
theorem FnExactNoteOk_ev (a b c d : Int) (t : ByteArray) (h : t.size ≤ 9223372036854775807) : ∃ k, laws_FnExactNoteOk.f k a b c d t = some true := Ev.rounds (FnExactNoteOk.ev a b c d t h)
end FnExactNoteOk_
end Go.Proofs.Yteglhciieakmaaa.Pure
