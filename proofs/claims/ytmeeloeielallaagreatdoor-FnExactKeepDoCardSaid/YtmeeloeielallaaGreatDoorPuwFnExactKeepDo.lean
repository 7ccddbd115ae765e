/- What the Go functions compute, told in plain words. No condition beyond those that stand in each. -/
import Derived.Test.YtmeeloeielallaaGreatDoorEvuFnExactKeepDo
import Derived.Test.YtmeeloeielallaaGreatDoorPur
import Derived.Test.YtmeeloeielallaaGreatDoorPus
import Derived.Test.YtmeeloeielallaaGreatDoorPun
import Derived.Test.YtmeeloeielallaaGreatDoorPuk
import Derived.Test.YtmeeloeielallaaGreatDoorPux
namespace Go.Ev.F
set_option linter.unusedVariables false
set_option linter.unusedSimpArgs false
theorem impl_in.val {R : Type} (k : Nat) (a b c : Int) (K : Bool → Option R) : impl_in.c k a b c K = K (inB a b c) := by
 rw [impl_in.u]
 unfold inB
 by_cases h : b ≤ a <;> simp [h]
theorem impl_isNode.val {R : Type} (k : Nat) (a : Int) (K : Bool → Option R) : impl_isNode.c k a K = K (inB a 0 3) := by
 rw [impl_isNode.u, impl_in.val]
theorem impl_textOk.l4r_val {R : Type} (t : ByteArray) (ht : t.size ≤ 2097152) (x0 : Option R) (q : Bool → Option R) : ∀ (e i n : Nat), i + e = t.size → e < n →
   impl_textOk.l4r (impl_textOk.g 4194304) 4194304 t x0 q n (i : Int) = cond (((tx t).drop i).all chOk) x0 (q false) := by
 have hl := tx_length t
 intro e
 induction e with
 | zero =>
   intro i n h1 h2
   obtain ⟨n, rfl⟩ := Nat.exists_eq_succ_of_ne_zero (n := n) (by omega)
   rw [impl_textOk.l4r_u, List.drop_eq_nil_of_le (by omega)]
   exact cf (df (by omega))
 | succ e ih =>
   intro i n h1 h2
   obtain ⟨n, rfl⟩ := Nat.exists_eq_succ_of_ne_zero (n := n) (by omega)
   have hi : i < t.size := by omega
   have hlt : i < (tx t).length := by omega
   have hby := (tx t)[i].toNat_lt
   rw [impl_textOk.l4r_u, Int.toNat_natCast, byteAt_tx, getD_at hlt, w64_p1 i (by omega), w64_nat _ (by omega), List.drop_eq_getElem_cons hlt, List.all_cons]
   refine (ct (dt (by omega))).trans ((ct (gd hi)).trans ?_)
   rw [impl_in.val]
   by_cases c1 : (32 : Int) ≤ (((tx t)[i].toNat : Nat) : Int) ∧ (((tx t)[i].toNat : Nat) : Int) ≤ 126
   · rw [inB_yes c1.1 c1.2, show chOk (tx t)[i] = true from by simp [chOk]; omega, Bool.true_and, ← ih (i + 1) n (by omega) (by omega)]
     exact cf rfl
   · rw [inB_no c1, show chOk (tx t)[i] = false from by simp [chOk]; omega, Bool.false_and]
     exact ct rfl
theorem impl_textOk.val {R : Type} (t : ByteArray) (ht : t.size ≤ 2097152) (K : Bool → Option R) : impl_textOk.c 4194304 t K = K (txOk t) := by
 rw [impl_textOk.u]
 refine (impl_textOk.l4r_val t ht _ _ t.size 0 4194304 (by omega) (by omega)).trans ?_
 rw [List.drop_zero, impl_in.val]
 unfold txOk
 show cond ((tx t).all chOk) _ _ = K (inB (t.size : Int) 1 24 && (tx t).all chOk)
 cases (tx t).all chOk with
 | true => rw [Bool.and_true]; rfl
 | false => rw [Bool.and_false]; rfl
theorem impl_NoteOk.val {R : Type} (a b c d : Int) (t : ByteArray) (ht : t.size ≤ 2097152) (K : Bool → Option R) : impl_NoteOk.c 4194304 a b c d t K = K (ntOk a b c d t) := by
 rw [impl_NoteOk.u, impl_isNode.val]
 cases h1 : inB a 0 3 with
 | false => exact (cf rfl).trans (by simp [ntOk, h1])
 | true =>
   refine (ct rfl).trans ?_
   rw [impl_isNode.val]
   cases h2 : inB c 0 3 with
   | false => exact (cf rfl).trans (by simp [ntOk, h2])
   | true =>
     refine (ct rfl).trans ?_
     rw [impl_in.val]
     cases h3 : inB b 1 99 with
     | false => exact (cf rfl).trans (by simp [ntOk, h3])
     | true =>
       refine (ct rfl).trans ?_
       rw [impl_in.val]
       cases h4 : inB d 1 999 with
       | false => exact (cf rfl).trans (by simp [ntOk, h4])
       | true =>
         refine (ct rfl).trans ?_
         rw [impl_textOk.val _ ht]
         simp [ntOk, h1, h2, h3, h4]
theorem impl_before.val {R : Type} (a b c d : Int) (K : Bool → Option R) : impl_before.c 4194304 a b c d K = K (lessB a b c d) := by
 rw [impl_before.u]
 unfold lessB
 cases decide (a < c) with
 | true => rfl
 | false => cases decide (a = c) <;> rfl
theorem impl_notesOk.l4r_val {R : Type} (l : L5) (hl : l.length ≤ 2097152) (hs : ∀ m ∈ l, m.2.2.2.2.size ≤ 2097152) (x0 : Option R) (q : Bool → Option R) :
   impl_notesOk.l4r (impl_notesOk.g 4194304) 4194304 (l.length : Int) l x0 q 4194304 0 = cond ((List.range' 0 l.length).all (noteP l)) x0 (q false) := by
 refine idx_loop l.length (noteP l) x0 (q false) (fun n i => impl_notesOk.l4r (impl_notesOk.g 4194304) 4194304 (l.length : Int) l x0 q n i) (fun n i hi => ?_) (fun n => ?_) 4194304 (by omega)
 · rw [impl_notesOk.l4r_u, w64_p1 i (by omega)]
   refine (ct (dt (by omega))).trans ((ct (gd hi)).trans ?_)
   rw [Int.toNat_natCast, impl_NoteOk.val _ _ _ _ _ (by rw [getD_at hi]; exact hs _ (List.getElem_mem hi))]
   unfold noteP
   cases ho : ntOk (l.getD i nd).1 (l.getD i nd).2.1 (l.getD i nd).2.2.1 (l.getD i nd).2.2.2.1 (l.getD i nd).2.2.2.2 with
   | false => exact ct rfl
   | true =>
     refine (cf rfl).trans ?_
     rw [Bool.true_and]
     by_cases h0 : 0 < i
     · have w : w64 ((i : Int) - 1) = ((i - 1 : Nat) : Int) := (w64_id (x := (i : Int) - 1) (by omega) (by omega)).trans (by omega)
       refine (ct (dt (by omega))).trans ?_
       simp only [w, Int.toNat_natCast]
       refine (ct (gd (by omega))).trans ((ct (gd (by omega))).trans ?_)
       rw [impl_before.val, dt h0, cond_true]
       cases lessB _ _ _ _ <;> rfl
     · refine (cf (df (by omega))).trans ?_
       rw [df h0]
       rfl
 · show impl_notesOk.l4r (impl_notesOk.g 4194304) 4194304 (l.length : Int) l x0 q (n + 1) (l.length : Int) = x0
   rw [impl_notesOk.l4r_u]
   exact cf (df (by omega))
theorem impl_notesOk.val {R : Type} (l : L5) (hl : l.length ≤ 2097152) (hs : ∀ m ∈ l, m.2.2.2.2.size ≤ 2097152) (K : Bool → Option R) : impl_notesOk.c 4194304 l K = K ((List.range' 0 l.length).all (noteP l)) := by
 rw [impl_notesOk.u, impl_notesOk.l4r_val l hl hs]
 cases (List.range' 0 l.length).all (noteP l) <;> rfl
theorem impl_markOk.val {R : Type} (a b c : Int) (K : Bool → Option R) : impl_markOk.c 4194304 a b c K = K (markOkB (a, b, c)) := by
 rw [impl_markOk.u, impl_isNode.val]
 unfold markOkB
 cases h1 : inB a 0 3 with
 | false => exact cf rfl
 | true =>
   refine (ct rfl).trans ?_
   rw [impl_in.val]
   cases h2 : inB b 1 99 with
   | false => exact cf rfl
   | true =>
     refine (ct rfl).trans ?_
     rw [impl_in.val]
     rfl
theorem impl_marksOk.l4r_val {R : Type} (l : L3) (hl : l.length ≤ 2097152) (x0 : Option R) (q : Bool → Option R) :
   impl_marksOk.l4r (impl_marksOk.g 4194304) 4194304 (l.length : Int) l x0 q 4194304 0 = cond ((List.range' 0 l.length).all (markP l)) x0 (q false) := by
 refine idx_loop l.length (markP l) x0 (q false) (fun n i => impl_marksOk.l4r (impl_marksOk.g 4194304) 4194304 (l.length : Int) l x0 q n i) (fun n i hi => ?_) (fun n => ?_) 4194304 (by omega)
 · rw [impl_marksOk.l4r_u, w64_p1 i (by omega)]
   refine (ct (dt (by omega))).trans ((ct (gd hi)).trans ?_)
   rw [Int.toNat_natCast, impl_markOk.val]
   unfold markP
   show cond (!markOkB (l.getD i md)) _ _ = _
   cases h1 : markOkB (l.getD i md) with
   | false => exact ct rfl
   | true =>
     refine (cf rfl).trans ?_
     rw [Bool.true_and]
     by_cases h0 : 0 < i
     · have w : w64 ((i : Int) - 1) = ((i - 1 : Nat) : Int) := (w64_id (x := (i : Int) - 1) (by omega) (by omega)).trans (by omega)
       refine (ct (dt (by omega))).trans ?_
       simp only [w, Int.toNat_natCast]
       refine (ct (gd (by omega))).trans ((ct (gd (by omega))).trans ?_)
       rw [impl_before.val, dt h0, cond_true]
       cases lessB _ _ _ _ <;> rfl
     · refine (cf (df (by omega))).trans ?_
       rw [df h0]
       rfl
 · show impl_marksOk.l4r (impl_marksOk.g 4194304) 4194304 (l.length : Int) l x0 q (n + 1) (l.length : Int) = x0
   rw [impl_marksOk.l4r_u]
   exact cf (df (by omega))
theorem impl_marksOk.val {R : Type} (l : L3) (hl : l.length ≤ 2097152) (K : Bool → Option R) : impl_marksOk.c 4194304 l K = K ((List.range' 0 l.length).all (markP l)) := by
 rw [impl_marksOk.u, impl_marksOk.l4r_val l hl]
 cases (List.range' 0 l.length).all (markP l) <;> rfl
theorem impl_onWay.val {R : Type} (id a b c d : Int) (t : ByteArray) (K : Bool → Option R) : impl_onWay.c 4194304 id a b c d t K = K (wayB a c id) := by
 rw [impl_onWay.u]
 unfold wayB
 by_cases h : id = c
 · refine (cf (by rw [dt h]; rfl)).trans ?_
   rw [df (show ¬ id < c by omega), df (show ¬ c < id by omega), Bool.and_false, Bool.false_and]
   rfl
 · refine (ct (by rw [df h]; rfl)).trans ?_
   rw [impl_in.val]
   by_cases h1 : a ≤ id ∧ id ≤ c
   · rw [inB_yes h1.1 h1.2, dt h1.1, dt (show id < c by omega)]
     rfl
   · rw [inB_no h1]
     refine (cf rfl).trans ?_
     rw [impl_in.val]
     have e1 : (decide (a ≤ id) && decide (id < c)) = false := by
       rw [Bool.and_eq_false_iff]
       by_cases h2 : a ≤ id
       · exact .inr (df (by omega))
       · exact .inl (df h2)
     rw [e1, Bool.false_or]
     by_cases h2 : c ≤ id ∧ id ≤ a
     · rw [inB_yes h2.1 h2.2, dt (show c < id by omega), dt h2.2]
       rfl
     · rw [inB_no h2]
       by_cases h3 : c < id
       · rw [dt h3, df (show ¬ id ≤ a by omega)]
         rfl
       · rw [df h3]
         rfl
theorem impl_markAt.l4r_tot (fr nu : Int) (l : L3) (hl : l.length ≤ 2097152) : ∀ (d i : Nat), i + d = l.length → ∃ r : Int, (0 ≤ r ↔ hasM (l.drop i) fr nu = true) ∧ ∀ {R : Type} (K : Int → Option R) (n : Nat), d < n → impl_markAt.l4r (impl_markAt.g 4194304) 4194304 fr nu (l.length : Int) l (K (-1)) (fun v => K v) n (i : Int) = K r := by
 intro d
 induction d with
 | zero =>
   intro i h1
   refine ⟨-1, ?_, fun K n hn => ?_⟩
   · rw [List.drop_eq_nil_of_le (by omega)]
     simp [hasM]
   · obtain ⟨n, rfl⟩ := Nat.exists_eq_succ_of_ne_zero (n := n) (by omega)
     rw [impl_markAt.l4r_u]
     exact cf (df (by omega))
 | succ d ih =>
   intro i h1
   have hi : i < l.length := by omega
   obtain ⟨r, q1, q2⟩ := ih (i + 1) (by omega)
   by_cases h : l[i].1 = fr ∧ l[i].2.1 = nu
   · refine ⟨(i : Int), ⟨fun _ => ?_, fun _ => by omega⟩, fun K n hn => ?_⟩
     · rw [List.drop_eq_getElem_cons hi]
       unfold hasM
       rw [List.any_cons, dt h.1, dt h.2]
       rfl
     · obtain ⟨n, rfl⟩ := Nat.exists_eq_succ_of_ne_zero (n := n) (by omega)
       rw [impl_markAt.l4r_u, Int.toNat_natCast, getD_at hi]
       exact (ct (dt (by omega))).trans ((ct (gd hi)).trans ((ct (dt h.1)).trans (ct (dt h.2))))
   · refine ⟨r, ?_, fun K n hn => ?_⟩
     · rw [q1, List.drop_eq_getElem_cons hi]
       unfold hasM
       rw [List.any_cons]
       have : (decide (l[i].1 = fr) && decide (l[i].2.1 = nu)) = false := by
         rw [Bool.and_eq_false_iff]
         by_cases h2 : l[i].1 = fr
         · exact .inr (df fun h3 => h ⟨h2, h3⟩)
         · exact .inl (df h2)
       rw [this, Bool.false_or]
     · obtain ⟨n, rfl⟩ := Nat.exists_eq_succ_of_ne_zero (n := n) (by omega)
       rw [impl_markAt.l4r_u, Int.toNat_natCast, getD_at hi, w64_p1 i (by omega), q2 K n (by omega)]
       refine (ct (dt (by omega))).trans ((ct (gd hi)).trans ?_)
       by_cases h2 : l[i].1 = fr
       · exact (ct (dt h2)).trans (cf (df fun h3 => h ⟨h2, h3⟩))
       · exact cf (df h2)
theorem impl_markAt.tot (l : L3) (hl : l.length ≤ 2097152) (fr nu : Int) : ∃ r : Int, (0 ≤ r ↔ hasM l fr nu = true) ∧ ∀ {R : Type} (K : Int → Option R), impl_markAt.c 4194304 l fr nu K = K r := by
 obtain ⟨r, q1, q2⟩ := impl_markAt.l4r_tot fr nu l hl l.length 0 (by omega)
 refine ⟨r, by simpa using q1, fun K => ?_⟩
 rw [impl_markAt.u]
 exact q2 K 4194304 (by omega)
theorem impl_KeepOk.l4r_val {R : Type} (id now next : Int) (held : L5) (marks : L3) (inbox : L5) (h3 : held.length ≤ 2097152) (h4 : marks.length ≤ 2097152) (x0 : Option R) (q : Bool → Option R) :
   impl_KeepOk.l4r (impl_KeepOk.g 4194304) 4194304 (held.length : Int) id now next held marks inbox x0 q 4194304 0 = cond ((List.range' 0 held.length).all (heldP id now next held marks)) x0 (q false) := by
 refine idx_loop held.length (heldP id now next held marks) x0 (q false) (fun n i => impl_KeepOk.l4r (impl_KeepOk.g 4194304) 4194304 (held.length : Int) id now next held marks inbox x0 q n i) (fun n i hi => ?_) (fun n => ?_) 4194304 (by omega)
 · rw [impl_KeepOk.l4r_u, w64_p1 i (by omega)]
   refine (ct (dt (by omega))).trans ((ct (gd hi)).trans ?_)
   simp only [Int.toNat_natCast]
   unfold heldP
   obtain ⟨r, hr, er⟩ := impl_markAt.tot marks h4 (held.getD i nd).1 (held.getD i nd).2.1
   have hr2 : ¬ 0 ≤ r → hasM marks (held.getD i nd).1 (held.getD i nd).2.1 = false := fun h => by
     cases e : hasM marks (held.getD i nd).1 (held.getD i nd).2.1 with
     | false => rfl
     | true => exact absurd (hr.2 e) h
   by_cases c2 : (held.getD i nd).1 = id
   · refine (ct (dt c2)).trans ?_
     rw [dt c2]
     by_cases c3 : next ≤ (held.getD i nd).2.1
     · refine (ct (dt c3)).trans ?_
       rw [dt c3]
       cases (!decide ((held.getD i nd).2.2.2.1 ≤ now)) <;> cases wayB (held.getD i nd).1 (held.getD i nd).2.2.1 id <;> rfl
     · refine (cf (df c3)).trans ?_
       rw [df c3]
       by_cases c1 : (held.getD i nd).2.2.2.1 ≤ now
       · refine (ct (dt c1)).trans ?_
         rw [dt c1]
         rfl
       · refine (cf (df c1)).trans ?_
         rw [impl_onWay.val, df c1]
         cases wayB (held.getD i nd).1 (held.getD i nd).2.2.1 id with
         | false => exact ct rfl
         | true =>
           refine (cf rfl).trans ?_
           rw [er]
           by_cases c4 : 0 ≤ r
           · rw [hr.1 c4]
             exact ct (dt c4)
           · rw [hr2 c4]
             exact cf (df c4)
   · refine (cf (df c2)).trans ?_
     rw [df c2]
     by_cases c1 : (held.getD i nd).2.2.2.1 ≤ now
     · refine (ct (dt c1)).trans ?_
       rw [dt c1]
       rfl
     · refine (cf (df c1)).trans ?_
       rw [impl_onWay.val, df c1]
       cases wayB (held.getD i nd).1 (held.getD i nd).2.2.1 id with
       | false => exact ct rfl
       | true =>
         refine (cf rfl).trans ?_
         rw [er]
         by_cases c4 : 0 ≤ r
         · rw [hr.1 c4]
           exact ct (dt c4)
         · rw [hr2 c4]
           exact cf (df c4)
 · show impl_KeepOk.l4r (impl_KeepOk.g 4194304) 4194304 (held.length : Int) id now next held marks inbox x0 q (n + 1) (held.length : Int) = x0
   rw [impl_KeepOk.l4r_u]
   exact cf (df (by omega))
theorem impl_KeepOk.l9r_val {R : Type} (id now next : Int) (held : L5) (marks : L3) (inbox : L5) (h4 : marks.length ≤ 2097152) (x0 : Option R) (q : Bool → Option R) :
   impl_KeepOk.l9r (impl_KeepOk.g 4194304) 4194304 (marks.length : Int) id now next marks held inbox x0 q 4194304 0 = cond ((List.range' 0 marks.length).all (markQ id now next marks)) x0 (q false) := by
 refine idx_loop marks.length (markQ id now next marks) x0 (q false) (fun n i => impl_KeepOk.l9r (impl_KeepOk.g 4194304) 4194304 (marks.length : Int) id now next marks held inbox x0 q n i) (fun n i hi => ?_) (fun n => ?_) 4194304 (by omega)
 · rw [impl_KeepOk.l9r_u, w64_p1 i (by omega)]
   refine (ct (dt (by omega))).trans ((ct (gd hi)).trans ?_)
   simp only [Int.toNat_natCast]
   unfold markQ
   by_cases c2 : (marks.getD i md).1 = id
   · refine (ct (dt c2)).trans ?_
     rw [dt c2]
     by_cases c3 : next ≤ (marks.getD i md).2.1
     · refine (ct (dt c3)).trans ?_
       rw [dt c3]
       cases (!decide ((marks.getD i md).2.2 ≤ now)) <;> rfl
     · refine (cf (df c3)).trans ?_
       rw [df c3]
       by_cases c1 : (marks.getD i md).2.2 ≤ now
       · refine (ct (dt c1)).trans ?_
         rw [dt c1]
         rfl
       · rw [df c1]
         exact cf rfl
   · refine (cf (df c2)).trans ?_
     rw [df c2]
     by_cases c1 : (marks.getD i md).2.2 ≤ now
     · refine (ct (dt c1)).trans ?_
       rw [dt c1]
       rfl
     · rw [df c1]
       exact cf rfl
 · show impl_KeepOk.l9r (impl_KeepOk.g 4194304) 4194304 (marks.length : Int) id now next marks held inbox x0 q (n + 1) (marks.length : Int) = x0
   rw [impl_KeepOk.l9r_u]
   exact cf (df (by omega))
theorem impl_KeepOk.l14r_val {R : Type} (id now next : Int) (held : L5) (marks : L3) (inbox : L5) (h4 : marks.length ≤ 2097152) (h5 : inbox.length ≤ 2097152) (x0 : Option R) (q : Bool → Option R) :
   impl_KeepOk.l14r (impl_KeepOk.g 4194304) 4194304 (inbox.length : Int) id now next inbox held marks x0 q 4194304 0 = cond ((List.range' 0 inbox.length).all (inbP id now next inbox marks)) x0 (q false) := by
 refine idx_loop inbox.length (inbP id now next inbox marks) x0 (q false) (fun n i => impl_KeepOk.l14r (impl_KeepOk.g 4194304) 4194304 (inbox.length : Int) id now next inbox held marks x0 q n i) (fun n i hi => ?_) (fun n => ?_) 4194304 (by omega)
 · rw [impl_KeepOk.l14r_u, w64_p1 i (by omega)]
   refine (ct (dt (by omega))).trans ((ct (gd hi)).trans ?_)
   simp only [Int.toNat_natCast]
   unfold inbP
   obtain ⟨r, hr, er⟩ := impl_markAt.tot marks h4 (inbox.getD i nd).1 (inbox.getD i nd).2.1
   have hr2 : ¬ 0 ≤ r → hasM marks (inbox.getD i nd).1 (inbox.getD i nd).2.1 = false := fun h => by
     cases e : hasM marks (inbox.getD i nd).1 (inbox.getD i nd).2.1 with
     | false => rfl
     | true => exact absurd (hr.2 e) h
   by_cases c2 : (inbox.getD i nd).1 = id
   · refine (ct (dt c2)).trans ?_
     rw [dt c2]
     by_cases c3 : next ≤ (inbox.getD i nd).2.1
     · refine (ct (dt c3)).trans ?_
       rw [dt c3]
       cases decide ((inbox.getD i nd).2.2.1 = id) <;> rfl
     · refine (cf (df c3)).trans ?_
       rw [df c3]
       by_cases c1 : (inbox.getD i nd).2.2.1 = id
       · refine (cf (by rw [dt c1]; rfl)).trans ?_
         rw [dt c1]
         by_cases c5 : now < (inbox.getD i nd).2.2.2.1
         · refine (ct (dt c5)).trans ?_
           rw [dt c5, er]
           by_cases c4 : 0 ≤ r
           · rw [hr.1 c4]
             exact cf (df (by omega))
           · rw [hr2 c4]
             exact ct (dt (by omega))
         · rw [df c5]
           exact cf rfl
       · refine (ct (by rw [df c1]; rfl)).trans ?_
         rw [df c1]
         rfl
   · refine (cf (df c2)).trans ?_
     rw [df c2]
     by_cases c1 : (inbox.getD i nd).2.2.1 = id
     · refine (cf (by rw [dt c1]; rfl)).trans ?_
       rw [dt c1]
       by_cases c5 : now < (inbox.getD i nd).2.2.2.1
       · refine (ct (dt c5)).trans ?_
         rw [dt c5, er]
         by_cases c4 : 0 ≤ r
         · rw [hr.1 c4]
           exact cf (df (by omega))
         · rw [hr2 c4]
           exact ct (dt (by omega))
       · rw [df c5]
         exact cf rfl
     · refine (ct (by rw [df c1]; rfl)).trans ?_
       rw [df c1]
       rfl
 · show impl_KeepOk.l14r (impl_KeepOk.g 4194304) 4194304 (inbox.length : Int) id now next inbox held marks x0 q (n + 1) (inbox.length : Int) = x0
   rw [impl_KeepOk.l14r_u]
   exact cf (df (by omega))
theorem impl_KeepOk.val {R : Type} (id now next : Int) (held : L5) (marks : L3) (inbox : L5) (h3 : held.length ≤ 2097152) (s3 : ∀ m ∈ held, m.2.2.2.2.size ≤ 2097152) (h4 : marks.length ≤ 2097152) (h5 : inbox.length ≤ 2097152) (s5 : ∀ m ∈ inbox, m.2.2.2.2.size ≤ 2097152) (K : Bool → Option R) : impl_KeepOk.c 4194304 id now next held marks inbox K = K (keepB id now next held marks inbox) := by
 rw [impl_KeepOk.u, impl_isNode.val]
 unfold keepB
 cases inB id 0 3 with
 | false => exact ct rfl
 | true =>
   refine (cf rfl).trans ?_
   rw [impl_in.val]
   cases inB now 0 999 with
   | false => exact ct rfl
   | true =>
     refine (cf rfl).trans ?_
     rw [impl_in.val]
     cases inB next 1 100 with
     | false => exact ct rfl
     | true =>
       refine (cf rfl).trans ?_
       by_cases l3 : held.length ≤ 6
       · refine (cf (df (by omega))).trans ?_
         rw [dt l3]
         by_cases l4 : marks.length ≤ 12
         · refine (cf (df (by omega))).trans ?_
           rw [dt l4]
           by_cases l5 : inbox.length ≤ 6
           · refine (cf (df (by omega))).trans ?_
             rw [dt l5, impl_notesOk.val _ h3 s3]
             cases (List.range' 0 held.length).all (noteP held) with
             | false => exact ct rfl
             | true =>
               refine (cf rfl).trans ?_
               rw [impl_marksOk.val _ h4]
               cases (List.range' 0 marks.length).all (markP marks) with
               | false => exact ct rfl
               | true =>
                 refine (cf rfl).trans ?_
                 rw [impl_notesOk.val _ h5 s5]
                 cases (List.range' 0 inbox.length).all (noteP inbox) with
                 | false => exact ct rfl
                 | true =>
                   refine (cf rfl).trans ?_
                   rw [impl_KeepOk.l4r_val _ _ _ _ _ _ h3 h4, impl_KeepOk.l9r_val _ _ _ _ _ _ h4, impl_KeepOk.l14r_val _ _ _ _ _ _ h4 h5]
                   cases (List.range' 0 held.length).all (heldP id now next held marks) with
                   | false => rfl
                   | true =>
                     cases (List.range' 0 marks.length).all (markQ id now next marks) with
                     | false => rfl
                     | true =>
                       cases (List.range' 0 inbox.length).all (inbP id now next inbox marks) <;> rfl
           · refine (ct (dt (by omega))).trans ?_
             rw [df l5]
             cases (List.range' 0 held.length).all (noteP held) <;> cases (List.range' 0 marks.length).all (markP marks) <;> rfl
         · refine (ct (dt (by omega))).trans ?_
           rw [df l4]
           cases (List.range' 0 held.length).all (noteP held) <;> rfl
       · refine (ct (dt (by omega))).trans ?_
         rw [df l3]
         rfl
theorem strings_Cut.val {R : Type} (s sep : ByteArray) (hs : s.size ≤ 2097152) (K : ByteArray → ByteArray → Bool → Option R) : strings_Cut.c 4194304 s sep K = K (ByteArray.mk (Go.Lib.cut s.data.toList sep.data.toList).1.toArray) (ByteArray.mk (Go.Lib.cut s.data.toList sep.data.toList).2.1.toArray) (Go.Lib.cut s.data.toList sep.data.toList).2.2 := by
 rw [strings_Cut.u]
 exact ct (dt (by omega))
theorem impl_natural.l5r_val {R : Type} (t : ByteArray) (ht : t.size ≤ 5) (x0 : Int → Option R) (q : Int → Bool → Option R) : ∀ (d i n : Nat), i + d = t.size → d < n → (∀ c ∈ (tx t).take i, isDig c = true) →
   impl_natural.l5r (impl_natural.g 4194304) 4194304 t x0 q n ((valL ((tx t).take i) : Nat) : Int) (i : Int) = cond ((tx t).all isDig) (x0 ((valL (tx t) : Nat) : Int)) (q 0 false) := by
 have hl := tx_length t
 intro d
 induction d with
 | zero =>
   intro i n h1 h2 hd
   obtain ⟨n, rfl⟩ := Nat.exists_eq_succ_of_ne_zero (n := n) (by omega)
   rw [List.take_of_length_le (by omega)] at hd ⊢
   rw [impl_natural.l5r_u, List.all_eq_true.2 hd]
   exact cf (df (by omega))
 | succ d ih =>
   intro i n h1 h2 hd
   obtain ⟨n, rfl⟩ := Nat.exists_eq_succ_of_ne_zero (n := n) (by omega)
   have hi : i < t.size := by omega
   have hlt : i < (tx t).length := by omega
   have hno : isDig (tx t)[i] = false → (tx t).all isDig = false := fun hb => by
     rw [List.all_eq_false]
     exact ⟨_, List.getElem_mem hlt, by rw [hb]; simp⟩
   have hby := (tx t)[i].toNat_lt
   rw [impl_natural.l5r_u, Int.toNat_natCast, byteAt_tx, getD_at hlt, w64_p1 i (by omega), w64_nat _ (by omega)]
   refine (ct (dt (by omega))).trans ((ct (gd hi)).trans ?_)
   rw [impl_in.val]
   by_cases c1 : (48 : Int) ≤ (((tx t)[i].toNat : Nat) : Int) ∧ (((tx t)[i].toNat : Nat) : Int) ≤ 57
   · rw [inB_yes c1.1 c1.2]
     refine (cf rfl).trans ((ct (gd hi)).trans ?_)
     have ht1 : (tx t).take (i + 1) = (tx t).take i ++ [(tx t)[i]] := by rw [List.take_add_one, List.getElem?_eq_getElem hlt]; rfl
     have hv : valL ((tx t).take i) < 100000 := by
       have := valL_lt hd
       have h5 : ((tx t).take i).length ≤ 5 := by rw [List.length_take]; omega
       exact Nat.lt_of_lt_of_le this (Nat.pow_le_pow_right (by omega) h5)
     have e1 : w64 (w64 ((10 : Int) * ((valL ((tx t).take i) : Nat) : Int)) + w64 (w8 ((((tx t)[i].toNat : Nat) : Int) - 48))) = ((valL ((tx t).take (i + 1)) : Nat) : Int) := by
       rw [ht1, valL_snoc]
       generalize valL ((tx t).take i) = v at hv
       generalize (tx t)[i].toNat = c at c1
       rw [w8_id (x := (c : Int) - 48) (by omega) (by omega), w64_id (x := (c : Int) - 48) (by omega) (by omega), w64_id (x := 10 * (v : Int)) (by omega) (by omega), w64_id (by omega) (by omega)]
       omega
     simp only [e1]
     refine ih (i + 1) n (by omega) (by omega) ?_
     rw [ht1]
     intro c hc
     rcases List.mem_append.1 hc with hc | hc
     · exact hd c hc
     · rw [List.mem_singleton] at hc
       subst hc
       simp [isDig]; omega
   · rw [inB_no c1]
     refine (ct rfl).trans ?_
     rw [hno (by simp [isDig]; omega), cond_false]
theorem impl_natural.val {R : Type} (t : ByteArray) (K : Int → Bool → Option R) : impl_natural.c 4194304 t K = K (resNat (numL 5 (tx t))).1 (resNat (numL 5 (tx t))).2 := by
 have hl := tx_length t
 have run : (1 ≤ t.size ∧ t.size ≤ 5) → (t.size = 1 ∨ (tx t).headD 0 ≠ 48) → impl_natural.c10 (impl_natural.g 4194304) 4194304 t (fun v w => K v w) = K (resNat (numL 5 (tx t))).1 (resNat (numL 5 (tx t))).2 := by
   intro hs hh
   rw [impl_natural.c10_u]
   refine (impl_natural.l5r_val t hs.2 (fun v => K v true) (fun v w => K v w) t.size 0 4194304 (by omega) (by omega) (by simp)).trans ?_
   cases hd : (tx t).all isDig with
   | false =>
     rw [numL_nodig hd]
     rfl
   | true =>
     have hne : tx t ≠ [] := fun e => by rw [e] at hl; simp at hl; omega
     have : numL 5 (tx t) = some (valL (tx t)) := by
       unfold numL
       rw [if_pos ⟨by omega, hd, (canon_iff (List.all_eq_true.1 hd)).2 ⟨hne, hh.imp (fun h => by omega) id⟩⟩]
     rw [this]
     rfl
 rw [impl_natural.u, impl_in.val]
 by_cases h : 1 ≤ (t.size : Int) ∧ (t.size : Int) ≤ 5
 · rw [inB_yes h.1 h.2]
   refine (cf rfl).trans ((ct (by simp; omega)).trans ?_)
   have hh : (tx t).getD 0 0 = (tx t).headD 0 := by cases tx t <;> rfl
   rw [byteAt_tx, hh]
   by_cases h48 : (tx t).headD 0 = 48
   · refine (ct (by rw [h48]; rfl)).trans ?_
     by_cases h1 : t.size = 1
     · exact (cf (df (by omega))).trans (run (by omega) (.inl h1))
     · refine (ct (dt (by omega))).trans ?_
       rw [show numL 5 (tx t) = none from ?_]
       · rfl
       · unfold numL
         rw [if_neg]
         rintro ⟨_, h2, h3⟩
         rw [List.all_eq_true] at h2
         rcases ((canon_iff h2).1 h3).2 with h4 | h4
         · omega
         · exact h4 h48
   · refine (cf (df (fun hx => h48 (UInt8.toNat_inj.1 (by have h0 : (48 : UInt8).toNat = 48 := rfl; omega))))).trans (run (by omega) (.inr h48))
 · rw [inB_no h]
   refine (ct rfl).trans ?_
   rw [show numL 5 (tx t) = none from ?_]
   · rfl
   · by_cases h0 : tx t = []
     · rw [h0]; exact numL_nil 5
     · have := List.length_pos_iff.2 h0
       exact numL_long (by omega)
theorem impl_advance.l4r_val {R : Type} (t i0 i1 i2 : Int) (h : L5) (m : L3) (b : L5) (hl : h.length ≤ 2097152) (x : List _ → Option R) : impl_advance.l4r (impl_advance.g 4194304) 4194304 t (h.length : Int) i0 i1 i2 0 0 0 h m b [] [] [] [] x 4194304 0 [] = x ([] ++ h.filter (fun e => decide (t < e.2.2.2.1))) := by
 refine fil_loop h nd (fun e => decide (t < e.2.2.2.1)) x (fun n i w => impl_advance.l4r (impl_advance.g 4194304) 4194304 t (h.length : Int) i0 i1 i2 0 0 0 h m b [] [] [] [] x n i w) 2097152 (fun n i w hi hb => ?_) (fun n w => ?_) 4194304 [] (by omega) (by simpa using hl)
 · show impl_advance.l4r (impl_advance.g 4194304) 4194304 t (h.length : Int) i0 i1 i2 0 0 0 h m b [] [] [] [] x (n + 1) (i : Int) w = cond (decide _) (impl_advance.l4r (impl_advance.g 4194304) 4194304 t (h.length : Int) i0 i1 i2 0 0 0 h m b [] [] [] [] x n ((i + 1 : Nat) : Int) _) (impl_advance.l4r (impl_advance.g 4194304) 4194304 t (h.length : Int) i0 i1 i2 0 0 0 h m b [] [] [] [] x n ((i + 1 : Nat) : Int) _)
   rw [impl_advance.l4r_u, w64_p1 i (by omega)]
   refine (ct (dt (by omega))).trans ((ct (gd hi)).trans ?_)
   rw [Int.toNat_natCast]
   refine cond_congr ?_ rfl
   exact ((ct (lim_le (by simp; omega))).trans rfl)
 · show impl_advance.l4r (impl_advance.g 4194304) 4194304 t (h.length : Int) i0 i1 i2 0 0 0 h m b [] [] [] [] x (n + 1) (h.length : Int) w = _
   rw [impl_advance.l4r_u]
   exact cf (df (by omega))
theorem impl_advance.l9r_val {R : Type} (t i0 i1 i2 : Int) (h : L5) (m : L3) (b : L5) (u : L5) (hl : m.length ≤ 2097152) (x : List _ → Option R) : impl_advance.l9r (impl_advance.g 4194304) 4194304 t (m.length : Int) 0 0 0 i0 i2 m [] [] [] u b x 4194304 0 [] = x ([] ++ m.filter (fun e => decide (t < e.2.2))) := by
 refine fil_loop m md (fun e => decide (t < e.2.2)) x (fun n i w => impl_advance.l9r (impl_advance.g 4194304) 4194304 t (m.length : Int) 0 0 0 i0 i2 m [] [] [] u b x n i w) 2097152 (fun n i w hi hb => ?_) (fun n w => ?_) 4194304 [] (by omega) (by simpa using hl)
 · show impl_advance.l9r (impl_advance.g 4194304) 4194304 t (m.length : Int) 0 0 0 i0 i2 m [] [] [] u b x (n + 1) (i : Int) w = cond (decide _) (impl_advance.l9r (impl_advance.g 4194304) 4194304 t (m.length : Int) 0 0 0 i0 i2 m [] [] [] u b x n ((i + 1 : Nat) : Int) _) (impl_advance.l9r (impl_advance.g 4194304) 4194304 t (m.length : Int) 0 0 0 i0 i2 m [] [] [] u b x n ((i + 1 : Nat) : Int) _)
   rw [impl_advance.l9r_u, w64_p1 i (by omega)]
   refine (ct (dt (by omega))).trans ((ct (gd hi)).trans ?_)
   rw [Int.toNat_natCast]
   refine cond_congr ?_ rfl
   exact ((ct (lim_le (by simp; omega))).trans rfl)
 · show impl_advance.l9r (impl_advance.g 4194304) 4194304 t (m.length : Int) 0 0 0 i0 i2 m [] [] [] u b x (n + 1) (m.length : Int) w = _
   rw [impl_advance.l9r_u]
   exact cf (df (by omega))
theorem impl_advance.val {R : Type} (t i0 i1 i2 : Int) (h : L5) (m : L3) (b : L5) (hh : h.length ≤ 2097152) (hm : m.length ≤ 2097152) (K : Int → Int → Int → L5 → L3 → L5 → Option R) : impl_advance.c 4194304 i0 i1 i2 h m b t K = K i0 t i2 (h.filter (fun e => decide (t < e.2.2.2.1))) (m.filter (fun e => decide (t < e.2.2))) b := by
 rw [impl_advance.u, impl_advance.l4r_val t i0 i1 i2 h m b hh, List.nil_append, impl_advance.l9r_val t i0 i1 i2 h m b _ hm, List.nil_append]
theorem impl_doNum.time {R : Type} (id now next : Int) (h : L5) (m : L3) (b : L5) (hh : h.length ≤ 1000) (hm : m.length ≤ 1000) (n : Int) (K : Int → Int → Int → L5 → L3 → L5 → Bool → Option R) : impl_doNum.c 4194304 id now next h m b (ByteArray.mk #[116, 105, 109, 101]) n K = cond (decide (now < n)) (K id n next (h.filter fun e => decide (n < e.2.2.2.1)) (m.filter fun e => decide (n < e.2.2)) b true) (K id now next h m b false) := by
 rw [impl_doNum.u]
 refine (ct (dt rfl)).trans ?_
 cases decide (now < n) with
 | true => rw [cond_true, cond_true, impl_advance.val n id now next h m b (by omega) (by omega)]
 | false =>
   rw [cond_false, cond_false]
   exact cf (by decide)
theorem impl_doNum.next {R : Type} (id now next : Int) (h : L5) (m : L3) (b : L5) (hh : h.length ≤ 1000) (hm : m.length ≤ 1000) (n : Int) (K : Int → Int → Int → L5 → L3 → L5 → Bool → Option R) : impl_doNum.c 4194304 id now next h m b (ByteArray.mk #[110, 101, 120, 116]) n K = cond (decide (next < n)) (K id now n h m b true) (K id now next h m b false) := by
 rw [impl_doNum.u]
 refine (cf (by decide)).trans ((ct (dt rfl)).trans ?_)
 rfl
theorem impl_naturals.l4r_val {R : Type} (l : List ByteArray) (hl : l.length ≤ 2097153) (K : List Int → Bool → Option R) : ∀ (d i n : Nat) (acc : List Int), i + d = l.length → d < n → acc.length + d ≤ 3000000 →
   impl_naturals.l4r (impl_naturals.g 4194304) 4194304 (l.length : Int) l (fun w => K w true) (fun v w => K w v) n (i : Int) acc = K (natsA acc (l.drop i)).1 (natsA acc (l.drop i)).2 := by
 intro d
 induction d with
 | zero =>
   intro i n acc h1 h2 h3
   obtain ⟨n, rfl⟩ := Nat.exists_eq_succ_of_ne_zero (n := n) (by omega)
   rw [impl_naturals.l4r_u, List.drop_eq_nil_of_le (by omega)]
   exact cf (df (by omega))
 | succ d ih =>
   intro i n acc h1 h2 h3
   obtain ⟨n, rfl⟩ := Nat.exists_eq_succ_of_ne_zero (n := n) (by omega)
   have hi : i < l.length := by omega
   rw [impl_naturals.l4r_u, Int.toNat_natCast, getD_at hi, w64_p1 i (by omega), List.drop_eq_getElem_cons hi]
   refine (ct (dt (by omega))).trans ((ct (gd hi)).trans ?_)
   rw [impl_natural.val]
   unfold natsA
   cases hn : numL 5 (tx l[i]) with
   | none => exact ct rfl
   | some m =>
     refine (cf rfl).trans ((ct (lim_le (by simp; omega))).trans ?_)
     exact ih (i + 1) n _ (by omega) (by omega) (by simp; omega)
theorem impl_naturals.val {R : Type} (l : List ByteArray) (hl : l.length ≤ 2097153) (K : List Int → Bool → Option R) : impl_naturals.c 4194304 l K = K (natsA [] l).1 (natsA [] l).2 := by
 rw [impl_naturals.u]
 refine (impl_naturals.l4r_val l hl K l.length 0 4194304 [] (by omega) (by omega) (by simp; omega)).trans ?_
 rw [List.drop_zero]
theorem strings_SplitN.val {R : Type} (s : ByteArray) (hs : s.size ≤ 2097152) (K : List ByteArray → Option R) : strings_SplitN.c 4194304 s (ByteArray.mk #[32]) 5 K = K (splS s) := by
 rw [strings_SplitN.u]
 have z : (ByteArray.mk #[32]).size = 1 := rfl
 exact ct (by rw [dt (show s.size < 4294967281 by omega), dt (show 1 ≤ (ByteArray.mk #[32]).size by omega)]; rfl)
theorem libDec (n : Nat) : Go.Lib.decDigits n = decL n := by
 induction n using Nat.strongRecOn with
 | ind n ih =>
   rw [Go.Lib.decDigits, decL]
   by_cases h : n < 10
   · rw [dif_pos h, if_pos h]
     rfl
   · rw [dif_neg h, if_neg h, ih (n / 10) (by omega)]
     rfl
theorem strconv_Itoa.val {R : Type} (n : Nat) (hn : n < 9223372036854775808) (K : ByteArray → Option R) : strconv_Itoa.c 4194304 (n : Int) K = K (ba (decL n)) := by
 rw [strconv_Itoa.u]
 refine (ct (by simp; omega)).trans ?_
 unfold Go.Lib.itoa
 rw [if_neg (by omega), Int.toNat_natCast, libDec]
 rfl
theorem impl_NoteWrite.val {R : Type} (a b c d : Int) (t : ByteArray) (ht : t.size ≤ 2097152) (K : ByteArray → Option R) : impl_NoteWrite.c 4194304 a b c d t K = K (nwB a b c d t) := by
 rw [impl_NoteWrite.u, impl_NoteOk.val _ _ _ _ _ ht]
 unfold nwB
 cases ho : ntOk a b c d t with
 | false => exact ct rfl
 | true =>
   obtain ⟨h1, h2, h3, h4, h5, _⟩ := ntOk_some ho
   obtain ⟨a', rfl⟩ := Int.eq_ofNat_of_zero_le h1.1
   obtain ⟨b', rfl⟩ := Int.eq_ofNat_of_zero_le (show 0 ≤ b by omega)
   obtain ⟨c', rfl⟩ := Int.eq_ofNat_of_zero_le h3.1
   obtain ⟨d', rfl⟩ := Int.eq_ofNat_of_zero_le (show 0 ≤ d by omega)
   have hs : (ByteArray.mk #[32]).size = 1 := rfl
   have e1 := decL_length (n := a') (d := 0) (by omega)
   have e2 := decL_length (n := b') (d := 1) (by omega)
   have e3 := decL_length (n := c') (d := 0) (by omega)
   have e4 := decL_length (n := d') (d := 2) (by omega)
   have b1 := ba_size (decL a')
   have b2 := ba_size (decL b')
   have b3 := ba_size (decL c')
   have b4 := ba_size (decL d')
   refine (cf rfl).trans ?_
   rw [strconv_Itoa.val _ (by omega)]
   refine (ct (dt (by omega))).trans ?_
   rw [strconv_Itoa.val _ (by omega)]
   refine (ct (dt (by simp only [sz_append]; omega))).trans ((ct (dt (by simp only [sz_append]; omega))).trans ?_)
   simp only []
   rw [strconv_Itoa.val _ (by omega)]
   refine (ct (dt (by simp only [sz_append]; omega))).trans ((ct (dt (by simp only [sz_append]; omega))).trans ?_)
   rw [strconv_Itoa.val _ (by omega)]
   refine (ct (dt (by simp only [sz_append]; omega))).trans ((ct (dt (by simp only [sz_append]; omega))).trans ?_)
   refine (ct (dt (by simp only [sz_append]; omega))).trans ?_
   refine congrArg K ?_
   apply tx_inj
   rw [cond_true, tx_ba]
   simp only [tx_append, tx_ba, ntL, Int.toNat_natCast]
   rfl
theorem impl_NoteRead.val {R : Type} (s : ByteArray) (hs : s.size ≤ 2097152) (K : Int → Int → Int → Int → ByteArray → Bool → Option R) : impl_NoteRead.c 4194304 s K = K (implR s).1 (implR s).2.1 (implR s).2.2.1 (implR s).2.2.2.1 (implR s).2.2.2.2.1 (implR s).2.2.2.2.2 := by
 have hb : ∀ x ∈ splS s, x.size ≤ s.size := fun x hx => splitB_size _ _ _ x hx
 rw [impl_NoteRead.u, strings_SplitN.val s hs]
 unfold implR
 dsimp only
 generalize splS s = P at hb
 by_cases h5 : (P.length : Int) = 5
 · have h5' : P.length = 5 := by omega
   refine (cf (by rw [dt h5]; rfl)).trans ((ct (by simp; omega)).trans ?_)
   rw [dt h5]
   show impl_naturals.c 4194304 (P.take 4) _ = _
   rw [impl_naturals.val _ (by rw [List.length_take]; omega)]
   have hlen := natsA_length (P.take 4) []
   generalize natsA [] (P.take 4) = N at hlen ⊢
   cases hN : N.2 with
   | false => exact (ct rfl).trans rfl
   | true =>
     have hlen := hlen hN
     rw [List.length_take] at hlen
     have h4 : N.1.length = 4 := by simp at hlen; omega
     have ht : (P.getD 4 ByteArray.empty).size ≤ 2097152 := by
       rw [getD_at (by omega)]
       have := hb _ (List.getElem_mem (show 4 < P.length by omega))
       omega
     refine (cf rfl).trans ((ct (by rw [h4]; rfl)).trans ((ct (by rw [h4]; rfl)).trans ((ct (by rw [h4]; rfl)).trans ((ct (by rw [h4]; rfl)).trans ((ct (by rw [h5']; rfl)).trans ?_)))))
     generalize N.1.getD 0 0 = a
     generalize N.1.getD 1 0 = b
     generalize N.1.getD 2 0 = c
     generalize N.1.getD 3 0 = d
     generalize P.getD 4 ByteArray.empty = t at ht ⊢
     rw [impl_NoteOk.val _ _ _ _ _ ht]
     cases ho : ntOk a b c d t with
     | false => exact (ct rfl).trans rfl
     | true =>
       refine (cf rfl).trans ?_
       rw [impl_NoteWrite.val _ _ _ _ _ ht]
       by_cases h1 : nwB a b c d t = s
       · refine (cf (by rw [dt h1]; rfl)).trans ?_
         rw [dt h1]
         rfl
       · refine (ct (by rw [df h1]; rfl)).trans ?_
         rw [df h1]
         rfl
 · refine (ct (by rw [df h5]; rfl)).trans ?_
   rw [df h5]
   rfl
theorem impl_noteAt.val {R : Type} (l : L5) (hl : l.length ≤ 2097152) (fr nu : Int) (K : Int → Option R) : impl_noteAt.c 4194304 l fr nu K = K (ixL (isN fr nu) l 0) := by
 rw [impl_noteAt.u]
 refine ix_loop l nd (isN fr nu) K (fun n i => impl_noteAt.l4r (impl_noteAt.g 4194304) 4194304 fr nu (l.length : Int) l (K (-1)) (fun v => K v) n i) (fun n i hi => ?_) (fun n => ?_) 4194304 (by omega)
 · show impl_noteAt.l4r (impl_noteAt.g 4194304) 4194304 fr nu (l.length : Int) l (K (-1)) (fun v => K v) (n + 1) (i : Int) = cond (decide _ && decide _) (K (i : Int)) (impl_noteAt.l4r (impl_noteAt.g 4194304) 4194304 fr nu (l.length : Int) l (K (-1)) (fun v => K v) n ((i + 1 : Nat) : Int))
   rw [impl_noteAt.l4r_u, w64_p1 i (by omega)]
   refine (ct (dt (by omega))).trans ((ct (gd hi)).trans ?_)
   rw [Int.toNat_natCast]
   show cond (decide (_ = fr)) _ _ = _
   generalize decide ((l.getD i nd).1 = fr) = c1
   cases c1 with
   | false => rfl
   | true =>
     rw [cond_true, Bool.true_and]
 · show impl_noteAt.l4r (impl_noteAt.g 4194304) 4194304 fr nu (l.length : Int) l (K (-1)) (fun v => K v) (n + 1) (l.length : Int) = _
   rw [impl_noteAt.l4r_u]
   exact cf (df (by omega))
theorem impl_noteIn.l3r_val {R : Type} (l : L5) (hl : l.length ≤ 1000) (b c d e : Int) (t : ByteArray) (x : Int → Option R) : impl_noteIn.l3r (impl_noteIn.g 4194304) 4194304 l b c d e t x 4194304 0 = x ((l.takeWhile (fun y => lessB y.1 y.2.1 b c)).length : Int) := by
 refine cnt_loop l nd (fun y => lessB y.1 y.2.1 b c) x (fun n i => impl_noteIn.l3r (impl_noteIn.g 4194304) 4194304 l b c d e t x n i) (fun n i hi => ?_) (fun n => ?_) 4194304 (by omega)
 · show impl_noteIn.l3r (impl_noteIn.g 4194304) 4194304 l b c d e t x (n + 1) (i : Int) = cond (lessB _ _ _ _) (impl_noteIn.l3r (impl_noteIn.g 4194304) 4194304 l b c d e t x n ((i + 1 : Nat) : Int)) (x (i : Int))
   rw [impl_noteIn.l3r_u, w64_p1 i (by omega)]
   refine (ct (dt (by omega))).trans ((ct (gd hi)).trans ((ct (gd hi)).trans ?_))
   rw [Int.toNat_natCast]
   exact impl_before.val _ _ _ _ _
 · show impl_noteIn.l3r (impl_noteIn.g 4194304) 4194304 l b c d e t x (n + 1) (l.length : Int) = _
   rw [impl_noteIn.l3r_u]
   exact cf (df (by omega))
theorem impl_noteIn.val {R : Type} (l : L5) (hl : l.length ≤ 1000) (b c d e : Int) (t : ByteArray) (h : l.any (isN b c) = false) (K : L5 → Option R) : impl_noteIn.c 4194304 l b c d e t K = K (inN (b, c, d, e, t) l) := by
 rw [impl_noteIn.u, impl_noteIn.l3r_val l hl]
 have hk : (l.takeWhile (fun y => lessB y.1 y.2.1 b c)).length ≤ l.length := (List.takeWhile_prefix _).length_le
 generalize hg : (l.takeWhile (fun y => lessB y.1 y.2.1 b c)).length = k at hk ⊢
 rw [← inN_eq (d := d) (e := e) (t := t) h hg.symm]
 have p1 : part (cs := [.int .i64, .int .i64, .int .i64, .int .i64, .str]) l 0 (k : Int).toNat = l.take k := by rw [Int.toNat_natCast]; rfl
 have p2 : part (cs := [.int .i64, .int .i64, .int .i64, .int .i64, .str]) l (k : Int).toNat (l.length - (k : Int).toNat) = l.drop k := by rw [Int.toNat_natCast]; exact List.take_of_length_le (by simp)
 have g1 : (decide (0 ≤ (k : Int)) && decide ((k : Int) ≤ (l.length : Int))) = true := by simp; omega
 simp only [p1, p2, List.nil_append, g1, cond_true]
 have z1 : (l.take k).length ≤ 1000 := by simp; omega
 have z2 : (l.drop k).length ≤ 1000 := by simp; omega
 refine (ct (lim_le (by simp; omega))).trans ((ct (lim_le (by simp; omega))).trans (ct (lim_le (by simp; omega))))
theorem impl_markIn.l3r_val {R : Type} (l : L3) (hl : l.length ≤ 1000) (b c d : Int) (x : Int → Option R) : impl_markIn.l3r (impl_markIn.g 4194304) 4194304 l b c d x 4194304 0 = x ((l.takeWhile (fun y => lessB y.1 y.2.1 b c)).length : Int) := by
 refine cnt_loop l md (fun y => lessB y.1 y.2.1 b c) x (fun n i => impl_markIn.l3r (impl_markIn.g 4194304) 4194304 l b c d x n i) (fun n i hi => ?_) (fun n => ?_) 4194304 (by omega)
 · show impl_markIn.l3r (impl_markIn.g 4194304) 4194304 l b c d x (n + 1) (i : Int) = cond (lessB _ _ _ _) (impl_markIn.l3r (impl_markIn.g 4194304) 4194304 l b c d x n ((i + 1 : Nat) : Int)) (x (i : Int))
   rw [impl_markIn.l3r_u, w64_p1 i (by omega)]
   refine (ct (dt (by omega))).trans ((ct (gd hi)).trans ((ct (gd hi)).trans ?_))
   rw [Int.toNat_natCast]
   exact impl_before.val _ _ _ _ _
 · show impl_markIn.l3r (impl_markIn.g 4194304) 4194304 l b c d x (n + 1) (l.length : Int) = _
   rw [impl_markIn.l3r_u]
   exact cf (df (by omega))
theorem impl_markIn.val {R : Type} (l : L3) (hl : l.length ≤ 1000) (b c d : Int) (h : hasM l b c = false) (K : L3 → Option R) : impl_markIn.c 4194304 l b c d K = K (inM (b, c, d) l) := by
 rw [impl_markIn.u, impl_markIn.l3r_val l hl]
 have hk : (l.takeWhile (fun y => lessB y.1 y.2.1 b c)).length ≤ l.length := (List.takeWhile_prefix _).length_le
 generalize hg : (l.takeWhile (fun y => lessB y.1 y.2.1 b c)).length = k at hk ⊢
 rw [← inM_eq (d := d) h hg.symm]
 have p1 : part (cs := [.int .i64, .int .i64, .int .i64]) l 0 (k : Int).toNat = l.take k := by rw [Int.toNat_natCast]; rfl
 have p2 : part (cs := [.int .i64, .int .i64, .int .i64]) l (k : Int).toNat (l.length - (k : Int).toNat) = l.drop k := by rw [Int.toNat_natCast]; exact List.take_of_length_le (by simp)
 have g1 : (decide (0 ≤ (k : Int)) && decide ((k : Int) ≤ (l.length : Int))) = true := by simp; omega
 simp only [p1, p2, List.nil_append, g1, cond_true]
 have z1 : (l.take k).length ≤ 1000 := by simp; omega
 have z2 : (l.drop k).length ≤ 1000 := by simp; omega
 refine (ct (lim_le (by simp; omega))).trans ((ct (lim_le (by simp; omega))).trans (ct (lim_le (by simp; omega))))
theorem impl_accept.val {R : Type} (id now next : Int) (h : L5) (m : L3) (b : L5) (hh : h.length ≤ 1000) (hm : m.length ≤ 1000) (hb : b.length ≤ 1000) (fr nu dst un : Int) (t : ByteArray) (ht : t.size ≤ 2097152) (K : Int → Int → Int → L5 → L3 → L5 → Bool → Option R) :
   impl_accept.c 4194304 id now next h m b fr nu dst un t K = cond (accB now h m b fr nu dst un t) (cond (decide (dst = id)) (K id now next h (inM (fr, nu, un) m) (inN (fr, nu, dst, un, t) b) true) (K id now next (inN (fr, nu, dst, un, t) h) m b true)) (K id now next h m b false) := by
 rw [impl_accept.u, impl_NoteOk.val _ _ _ _ _ ht]
 unfold accB
 cases ntOk fr nu dst un t with
 | false => rfl
 | true =>
   rw [Bool.not_true, cond_false, Bool.true_and]
   by_cases h1 : un ≤ now
   · rw [dt h1, df (show ¬(now < un) by omega)]; rfl
   · rw [df h1, dt (by omega : now < un), cond_false, Bool.true_and, impl_noteAt.val h (by omega)]
     cases hn1 : h.any (isN fr nu) with
     | true => rw [dt (by have := ixL_neg (isN fr nu) h 0; rw [hn1] at this; simp at this; omega)]; rfl
     | false =>
       rw [df (by have := (ixL_neg (isN fr nu) h 0).2 hn1; omega), cond_false, impl_noteAt.val b (by omega), Bool.not_false, Bool.true_and]
       cases hn2 : b.any (isN fr nu) with
       | true => rw [dt (by have := ixL_neg (isN fr nu) b 0; rw [hn2] at this; simp at this; omega)]; rfl
       | false =>
         rw [df (by have := (ixL_neg (isN fr nu) b 0).2 hn2; omega), cond_false, Bool.not_false, Bool.true_and]
         obtain ⟨r, q1, q2⟩ := impl_markAt.tot m (by omega) fr nu
         rw [q2]
         cases hn3 : hasM m fr nu with
         | true => rw [dt (q1.2 hn3)]; rfl
         | false =>
           rw [df (fun hr => by rw [q1.1 hr] at hn3; cases hn3), cond_false, Bool.not_false, Bool.true_and]
           show cond (decide ((12 : Int) < w64 (w64 ((h.length : Int) + (m.length : Int)) + 1))) _ _ = _
           rw [w64_pn _ _ (by omega), w64_p1 _ (by omega)]
           by_cases h2 : h.length + m.length + 1 ≤ 12
           · rw [dt h2, cond_true]
             refine (cf (df (by omega))).trans ?_
             cases decide (dst = id) with
             | true => rw [cond_true, cond_true, impl_noteIn.val b hb _ _ _ _ _ hn2, impl_markIn.val m hm _ _ _ hn3]
             | false => rw [cond_false, cond_false, impl_noteIn.val h hh _ _ _ _ _ hn1]
           · rw [df h2, cond_false]
             exact ct (dt (by omega))
theorem impl_doNote.own {R : Type} (id now next : Int) (h : L5) (m : L3) (b : L5) (hh : h.length ≤ 1000) (hm : m.length ≤ 1000) (hb : b.length ≤ 1000) (fr nu dst un : Int) (t : ByteArray) (K : Int → Int → Int → L5 → L3 → L5 → Bool → Option R) : impl_doNote.c 4194304 id now next h m b (ByteArray.mk #[111, 119, 110]) fr nu dst un t K = cond (decide (fr = id)) (cond (decide (nu = next)) (impl_accept.c 4194304 id now (w64 (next + 1)) h m b fr nu dst un t K) (K id now next h m b false)) (K id now next h m b false) := by
 rw [impl_doNote.u]
 refine (ct (dt rfl)).trans ?_
 cases decide (fr = id) with
 | true =>
   rw [cond_true, cond_true]
   cases decide (nu = next) with
   | true => rfl
   | false =>
     rw [cond_false, cond_false]
     refine (cf (by decide)).trans ?_
     rw [impl_noteAt.val h (by omega)]
     cases decide ((0 : Int) ≤ ixL (isN fr nu) h 0) with
     | true => rfl
     | false =>
       rw [cond_false, impl_noteAt.val b (by omega)]
       cases decide ((0 : Int) ≤ ixL (isN fr nu) b 0) with
       | true => rfl
       | false => exact (cf (by decide)).trans (cf (by decide))
 | false =>
   rw [cond_false, cond_false]
   refine (cf (by decide)).trans ?_
   ·
     rw [impl_noteAt.val h (by omega)]
     cases decide ((0 : Int) ≤ ixL (isN fr nu) h 0) with
     | true => rfl
     | false =>
       rw [cond_false, impl_noteAt.val b (by omega)]
       cases decide ((0 : Int) ≤ ixL (isN fr nu) b 0) with
       | true => rfl
       | false => exact (cf (by decide)).trans (cf (by decide))
theorem impl_doNote.take {R : Type} (id now next : Int) (h : L5) (m : L3) (b : L5) (hh : h.length ≤ 1000) (hm : m.length ≤ 1000) (hb : b.length ≤ 1000) (fr nu dst un : Int) (t : ByteArray) (K : Int → Int → Int → L5 → L3 → L5 → Bool → Option R) : impl_doNote.c 4194304 id now next h m b (ByteArray.mk #[116, 97, 107, 101]) fr nu dst un t K = cond (decide (fr = id)) (K id now next h m b false) (impl_accept.c 4194304 id now next h m b fr nu dst un t K) := by
 rw [impl_doNote.u]
 refine (cf (by decide)).trans ((ct (dt rfl)).trans ?_)
 cases decide (fr = id) with
 | false => rfl
 | true =>
   rw [Bool.not_true, cond_false, cond_true]
   ·
     rw [impl_noteAt.val h (by omega)]
     cases decide ((0 : Int) ≤ ixL (isN fr nu) h 0) with
     | true => rfl
     | false =>
       rw [cond_false, impl_noteAt.val b (by omega)]
       cases decide ((0 : Int) ≤ ixL (isN fr nu) b 0) with
       | true => rfl
       | false => exact (cf (by decide)).trans (cf (by decide))
theorem impl_doNote.held {R : Type} (id now next : Int) (h : L5) (m : L3) (b : L5) (hh : h.length ≤ 1000) (hm : m.length ≤ 1000) (hb : b.length ≤ 1000) (fr nu dst un : Int) (t : ByteArray) (K : Int → Int → Int → L5 → L3 → L5 → Bool → Option R) : impl_doNote.c 4194304 id now next h m b (ByteArray.mk #[104, 101, 108, 100]) fr nu dst un t K = cond (h.any (isN fr nu)) (K id now next h m b false) (cond (b.any (isN fr nu)) (K id now next h m b false) (K id now next (inN (fr, nu, dst, un, t) h) m b true)) := by
 rw [impl_doNote.u]
 refine (cf (by decide)).trans ((cf (by decide)).trans ?_)
 rw [impl_noteAt.val h (by omega)]
 cases ha : h.any (isN fr nu) with
 | true => rw [dt (by obtain ⟨i, _, q, _⟩ := ixL_hit (isN fr nu) nd h 0 ha; omega)]; rfl
 | false =>
   rw [df (ixL_miss ha), cond_false, cond_false, impl_noteAt.val b (by omega)]
   cases hb2 : b.any (isN fr nu) with
   | true => rw [dt (by obtain ⟨i, _, q, _⟩ := ixL_hit (isN fr nu) nd b 0 hb2; omega)]; rfl
   | false =>
     rw [df (ixL_miss hb2), cond_false, cond_false]
     refine (ct (dt rfl)).trans ?_
     rw [impl_noteIn.val h hh _ _ _ _ _ ha]
theorem impl_doNote.inbox {R : Type} (id now next : Int) (h : L5) (m : L3) (b : L5) (hh : h.length ≤ 1000) (hm : m.length ≤ 1000) (hb : b.length ≤ 1000) (fr nu dst un : Int) (t : ByteArray) (K : Int → Int → Int → L5 → L3 → L5 → Bool → Option R) : impl_doNote.c 4194304 id now next h m b (ByteArray.mk #[105, 110, 98, 111, 120]) fr nu dst un t K = cond (h.any (isN fr nu)) (K id now next h m b false) (cond (b.any (isN fr nu)) (K id now next h m b false) (K id now next h m (inN (fr, nu, dst, un, t) b) true)) := by
 rw [impl_doNote.u]
 refine (cf (by decide)).trans ((cf (by decide)).trans ?_)
 rw [impl_noteAt.val h (by omega)]
 cases ha : h.any (isN fr nu) with
 | true => rw [dt (by obtain ⟨i, _, q, _⟩ := ixL_hit (isN fr nu) nd h 0 ha; omega)]; rfl
 | false =>
   rw [df (ixL_miss ha), cond_false, cond_false, impl_noteAt.val b (by omega)]
   cases hb2 : b.any (isN fr nu) with
   | true => rw [dt (by obtain ⟨i, _, q, _⟩ := ixL_hit (isN fr nu) nd b 0 hb2; omega)]; rfl
   | false =>
     rw [df (ixL_miss hb2), cond_false, cond_false]
     refine (cf (by decide)).trans ((ct (dt rfl)).trans ?_)
     rw [impl_noteIn.val b hb _ _ _ _ _ hb2]
theorem strings_Split.val {R : Type} (s sep : ByteArray) (hs : s.size ≤ 2097152) (h1 : 1 ≤ sep.size) (K : List ByteArray → Option R) : strings_Split.c 4194304 s sep K = K (Go.Lib.splitB sep 0 (Go.Lib.countB s sep) s) := by
 rw [strings_Split.u]
 exact ct (by rw [dt (show s.size < 4294967281 by omega), dt h1]; rfl)
theorem impl_noteOut.val {R : Type} (l : L5) (hl : l.length ≤ 1000) (i : Nat) (hi : i < l.length) (K : L5 → Option R) : impl_noteOut.c 4194304 l (i : Int) K = K (l.take i ++ l.drop (i + 1)) := by
 rw [impl_noteOut.u, w64_p1 i (by omega)]
 have p1 : part (cs := [.int .i64, .int .i64, .int .i64, .int .i64, .str]) l 0 (i : Int).toNat = l.take i := by rw [Int.toNat_natCast]; rfl
 have p2 : part (cs := [.int .i64, .int .i64, .int .i64, .int .i64, .str]) l (((i + 1 : Nat) : Int).toNat) (l.length - ((i + 1 : Nat) : Int).toNat) = l.drop (i + 1) := by rw [Int.toNat_natCast]; exact List.take_of_length_le (by simp)
 have g1 : (decide (0 ≤ (i : Int)) && decide ((i : Int) ≤ (l.length : Int))) = true := by simp; omega
 have g2 : (decide (0 ≤ ((i + 1 : Nat) : Int)) && decide (((i + 1 : Nat) : Int) ≤ (l.length : Int))) = true := by simp; omega
 have z1 : (l.take i).length ≤ 1000 := by simp; omega
 have z2 : (l.drop (i + 1)).length ≤ 1000 := by simp; omega
 rw [p1, p2]
 refine (ct g1).trans ((ct (lim_le (by simp; omega))).trans ((ct g2).trans ((ct (lim_le (by simp; omega))).trans ?_)))
 rfl
theorem impl_doMark.lett {R : Type} (id now next : Int) (h : L5) (m : L3) (b : L5) (hh : h.length ≤ 1000) (hm : m.length ≤ 1000) (hb : b.length ≤ 1000) (hx : ∀ e ∈ h, hasM m e.1 e.2.1 = false) (fr nu un : Int) (K : Int → Int → Int → L5 → L3 → L5 → Bool → Option R) : impl_doMark.c 4194304 id now next h m b (ByteArray.mk #[108, 101, 116]) fr nu un K = cond (h.any (isN fr nu)) (cond (decide ((h.getD (ixL (isN fr nu) h 0).toNat nd).2.2.2.1 = un)) (K id now next (h.take (ixL (isN fr nu) h 0).toNat ++ h.drop ((ixL (isN fr nu) h 0).toNat + 1)) (inM (fr, nu, un) m) b true) (K id now next h m b false)) (K id now next h m b false) := by
 rw [impl_doMark.u, impl_noteAt.val h (by omega), impl_noteAt.val b (by omega)]
 obtain ⟨r, q1, q2⟩ := impl_markAt.tot m (by omega) fr nu
 rw [q2]
 refine (ct (dt rfl)).trans ?_
 cases ha : h.any (isN fr nu) with
 | false =>
   rw [df (ixL_miss ha), cond_false, cond_false]
   refine (cf (by decide)).trans (cf (by decide))
 | true =>
   obtain ⟨i, i1, i2, i3⟩ := ixL_hit (isN fr nu) nd h 0 ha
   rw [Nat.zero_add] at i2
   rw [i2, dt (by omega : (0 : Int) ≤ (i : Int)), cond_true, cond_true, Int.toNat_natCast]
   refine (ct (gd i1)).trans ?_
   show cond (decide ((h.getD i nd).2.2.2.1 = un)) _ _ = _
   cases decide ((h.getD i nd).2.2.2.1 = un) with
   | false => exact (cf (by decide)).trans (cf (by decide))
   | true =>
     have e1 := hx (h.getD i nd) (by rw [getD_at i1]; exact List.getElem_mem i1)
     unfold isN at i3
     rw [Bool.and_eq_true, decide_eq_true_eq, decide_eq_true_eq] at i3
     rw [i3.1, i3.2] at e1
     rw [cond_true, cond_true, impl_noteOut.val h hh i i1, impl_markIn.val m hm _ _ _ e1]
theorem impl_doMark.eat {R : Type} (id now next : Int) (h : L5) (m : L3) (b : L5) (hh : h.length ≤ 1000) (hm : m.length ≤ 1000) (hb : b.length ≤ 1000) (fr nu un : Int) (K : Int → Int → Int → L5 → L3 → L5 → Bool → Option R) : impl_doMark.c 4194304 id now next h m b (ByteArray.mk #[101, 97, 116]) fr nu un K = cond (b.any (isN fr nu)) (cond (decide ((b.getD (ixL (isN fr nu) b 0).toNat nd).2.2.2.1 = un)) (K id now next h m (b.take (ixL (isN fr nu) b 0).toNat ++ b.drop ((ixL (isN fr nu) b 0).toNat + 1)) true) (K id now next h m b false)) (K id now next h m b false) := by
 rw [impl_doMark.u, impl_noteAt.val h (by omega), impl_noteAt.val b (by omega)]
 obtain ⟨r, q1, q2⟩ := impl_markAt.tot m (by omega) fr nu
 rw [q2]
 refine (cf (by decide)).trans ((ct (dt rfl)).trans ?_)
 cases ha : b.any (isN fr nu) with
 | false =>
   rw [df (ixL_miss ha), cond_false, cond_false]
   exact cf (by decide)
 | true =>
   obtain ⟨i, i1, i2, i3⟩ := ixL_hit (isN fr nu) nd b 0 ha
   rw [Nat.zero_add] at i2
   rw [i2, dt (by omega : (0 : Int) ≤ (i : Int)), cond_true, cond_true, Int.toNat_natCast]
   refine (ct (gd i1)).trans ?_
   show cond (decide ((b.getD i nd).2.2.2.1 = un)) _ _ = _
   cases decide ((b.getD i nd).2.2.2.1 = un) with
   | false => exact cf (by decide)
   | true => rw [cond_true, cond_true, impl_noteOut.val b hb i i1]
theorem impl_doMark.mark {R : Type} (id now next : Int) (h : L5) (m : L3) (b : L5) (hh : h.length ≤ 1000) (hm : m.length ≤ 1000) (hb : b.length ≤ 1000) (fr nu un : Int) (K : Int → Int → Int → L5 → L3 → L5 → Bool → Option R) : impl_doMark.c 4194304 id now next h m b (ByteArray.mk #[109, 97, 114, 107]) fr nu un K = cond (hasM m fr nu) (K id now next h m b false) (K id now next h (inM (fr, nu, un) m) b true) := by
 rw [impl_doMark.u, impl_noteAt.val h (by omega), impl_noteAt.val b (by omega)]
 obtain ⟨r, q1, q2⟩ := impl_markAt.tot m (by omega) fr nu
 rw [q2]
 refine (cf (by decide)).trans ((cf (by decide)).trans ((ct (dt rfl)).trans ?_))
 cases hm3 : hasM m fr nu with
 | true => rw [dt (q1.2 hm3)]; rfl
 | false => rw [df (fun hr => by rw [q1.1 hr] at hm3; cases hm3), Bool.not_false, cond_true, cond_false, impl_markIn.val m hm _ _ _ hm3]
set_option maxHeartbeats 4000000 in
theorem impl_apply.val {R : Type} (id now next : Int) (h : L5) (m : L3) (b : L5) (hh : h.length ≤ 900) (hm : m.length ≤ 900) (hb : b.length ≤ 900) (hx : ∀ e ∈ h, hasM m e.1 e.2.1 = false) (s : ByteArray) (hs : s.size ≤ 2097152) (K : Int → Int → Int → L5 → L3 → L5 → Bool → Option R) (N : Option R) (hN : ∀ i n x h m b, K i n x h m b false = N) :
   impl_apply.c 4194304 id now next h m b s K = recK (ba (wordL (tx s)).1) (resNat (numL 5 (wordL (tx s)).2)) (implR (ba (wordL (tx s)).2)) (t3I (ba (wordL (tx s)).2)) id now next h m b (fun i n x h m b => K i n x h m b true) N := by
 have hl := tx_length s
 rw [impl_apply.u, strings_Cut.val s _ hs]
 rcases cut_cases (tx s) with ⟨w, r, e, hw, hc, hwl⟩ | ⟨hw, hc, hwl⟩
 · have hc : Go.Lib.cut s.data.toList (ByteArray.mk #[32]).data.toList = (w, r, true) := hc
   rw [hc, hwl]
   dsimp only
   have er : ByteArray.mk r.toArray = ba r := rfl
   have ew : ByteArray.mk w.toArray = ba w := rfl
   have hr : (ba r).size ≤ 2097152 := by
     rw [ba_size]
     have := congrArg List.length e
     rw [List.length_append, List.length_cons] at this
     omega
   have hn : numL 5 r = numL 5 (tx (ba r)) := by rw [tx_ba]
   rw [er, ew, hn]
   refine (cf rfl).trans ?_
   have ht := implR_small (ba r)
   have hsp := splA_length (ba r)
   generalize ba r = r at hr ht hsp ⊢
   rcases wd_cases (ba w) with hW | hW | hW | hW | hW | hW | hW | hW | hW | hW
   · rw [hW, recK_time]
     obtain ⟨e1, e2, e3, e4, e5, e6, e7, e8, e9⟩ := wd_time
     simp only [e1, e2, e3, e4, e5, e6, e7, e8, e9, decide_true, cond_true, cond_false]
     rw [impl_natural.val]
     generalize resNat _ = tn
     cases tn.2 with
     | false => exact hN _ _ _ _ _ _
     | true => rw [cond_true, cond_true, impl_doNum.time id now next h m b (by omega) (by omega), hN]
   · rw [hW, recK_next]
     obtain ⟨e1, e2, e3, e4, e5, e6, e7, e8, e9⟩ := wd_next
     simp only [e1, e2, e3, e4, e5, e6, e7, e8, e9, decide_true, cond_true, cond_false]
     rw [impl_natural.val]
     generalize resNat _ = tn
     cases tn.2 with
     | false => exact hN _ _ _ _ _ _
     | true => rw [cond_true, cond_true, impl_doNum.next id now next h m b (by omega) (by omega), hN]
   · rw [hW, recK_own]
     obtain ⟨e1, e2, e3, e4, e5, e6, e7, e8, e9⟩ := wd_own
     simp only [e1, e2, e3, e4, e5, e6, e7, e8, e9, decide_true, cond_true, cond_false]
     rw [impl_NoteRead.val r hr]
     generalize implR r = nr at ht ⊢
     cases nr.2.2.2.2.2 with
     | false => exact hN _ _ _ _ _ _
     | true =>
       rw [cond_true, cond_true, impl_doNote.own id now next h m b (by omega) (by omega) (by omega), impl_accept.val id now _ h m b (by omega) (by omega) (by omega) _ _ _ _ _ (by omega), hN, hN]
   · rw [hW, recK_take]
     obtain ⟨e1, e2, e3, e4, e5, e6, e7, e8, e9⟩ := wd_take
     simp only [e1, e2, e3, e4, e5, e6, e7, e8, e9, decide_true, cond_true, cond_false]
     rw [impl_NoteRead.val r hr]
     generalize implR r = nr at ht ⊢
     cases nr.2.2.2.2.2 with
     | false => exact hN _ _ _ _ _ _
     | true =>
       rw [cond_true, cond_true, impl_doNote.take id now next h m b (by omega) (by omega) (by omega), impl_accept.val id now _ h m b (by omega) (by omega) (by omega) _ _ _ _ _ (by omega), hN]
   · rw [hW, recK_held]
     obtain ⟨e1, e2, e3, e4, e5, e6, e7, e8, e9⟩ := wd_held
     simp only [e1, e2, e3, e4, e5, e6, e7, e8, e9, decide_true, cond_true, cond_false]
     rw [impl_NoteRead.val r hr]
     generalize implR r = nr at ht ⊢
     cases nr.2.2.2.2.2 with
     | false => exact hN _ _ _ _ _ _
     | true =>
       rw [cond_true, cond_true, impl_doNote.held id now next h m b (by omega) (by omega) (by omega), hN]
   · rw [hW, recK_inbox]
     obtain ⟨e1, e2, e3, e4, e5, e6, e7, e8, e9⟩ := wd_inbox
     simp only [e1, e2, e3, e4, e5, e6, e7, e8, e9, decide_true, cond_true, cond_false]
     rw [impl_NoteRead.val r hr]
     generalize implR r = nr at ht ⊢
     cases nr.2.2.2.2.2 with
     | false => exact hN _ _ _ _ _ _
     | true =>
       rw [cond_true, cond_true, impl_doNote.inbox id now next h m b (by omega) (by omega) (by omega), hN]
   · rw [hW, recK_let]
     obtain ⟨e1, e2, e3, e4, e5, e6, e7, e8, e9⟩ := wd_let
     simp only [e1, e2, e3, e4, e5, e6, e7, e8, e9, decide_true, cond_true, cond_false]
     rw [strings_Split.val r _ hr (by decide), show Go.Lib.splitB (ByteArray.mk #[32]) 0 (Go.Lib.countB r (ByteArray.mk #[32])) r = splA r from rfl, impl_naturals.val _ (by omega)]
     unfold t3I
     dsimp only
     generalize natsA [] (splA r) = N3
     cases N3.2 with
     | false => exact hN _ _ _ _ _ _
     | true =>
       rw [cond_true, Bool.true_and]
       by_cases h3 : (N3.1.length : Int) = 3
       · rw [dt h3, cond_true, cond_true]
         refine (ct (by rw [h3]; rfl)).trans ((ct (by rw [h3]; rfl)).trans ((ct (by rw [h3]; rfl)).trans ?_))
         rw [impl_doMark.lett id now next h m b (by omega) (by omega) (by omega) hx, hN]
       · rw [df h3, cond_false, cond_false]
         exact hN _ _ _ _ _ _
   · rw [hW, recK_eat]
     obtain ⟨e1, e2, e3, e4, e5, e6, e7, e8, e9⟩ := wd_eat
     simp only [e1, e2, e3, e4, e5, e6, e7, e8, e9, decide_true, cond_true, cond_false]
     rw [strings_Split.val r _ hr (by decide), show Go.Lib.splitB (ByteArray.mk #[32]) 0 (Go.Lib.countB r (ByteArray.mk #[32])) r = splA r from rfl, impl_naturals.val _ (by omega)]
     unfold t3I
     dsimp only
     generalize natsA [] (splA r) = N3
     cases N3.2 with
     | false => exact hN _ _ _ _ _ _
     | true =>
       rw [cond_true, Bool.true_and]
       by_cases h3 : (N3.1.length : Int) = 3
       · rw [dt h3, cond_true, cond_true]
         refine (ct (by rw [h3]; rfl)).trans ((ct (by rw [h3]; rfl)).trans ((ct (by rw [h3]; rfl)).trans ?_))
         rw [impl_doMark.eat id now next h m b (by omega) (by omega) (by omega), hN]
       · rw [df h3, cond_false, cond_false]
         exact hN _ _ _ _ _ _
   · rw [hW, recK_mark]
     obtain ⟨e1, e2, e3, e4, e5, e6, e7, e8, e9⟩ := wd_mark
     simp only [e1, e2, e3, e4, e5, e6, e7, e8, e9, decide_true, cond_true, cond_false]
     rw [strings_Split.val r _ hr (by decide), show Go.Lib.splitB (ByteArray.mk #[32]) 0 (Go.Lib.countB r (ByteArray.mk #[32])) r = splA r from rfl, impl_naturals.val _ (by omega)]
     unfold t3I
     dsimp only
     generalize natsA [] (splA r) = N3
     cases N3.2 with
     | false => exact hN _ _ _ _ _ _
     | true =>
       rw [cond_true, Bool.true_and]
       by_cases h3 : (N3.1.length : Int) = 3
       · rw [dt h3, cond_true, cond_true]
         refine (ct (by rw [h3]; rfl)).trans ((ct (by rw [h3]; rfl)).trans ((ct (by rw [h3]; rfl)).trans ?_))
         rw [impl_doMark.mark id now next h m b (by omega) (by omega) (by omega), hN]
       · rw [df h3, cond_false, cond_false]
         exact hN _ _ _ _ _ _
   · rw [recK_else _ _ _ _ _ _ _ _ _ _ _ hW]
     obtain ⟨e1, e2, e3, e4, e5, e6, e7, e8, e9⟩ := hW
     simp only [e1, e2, e3, e4, e5, e6, e7, e8, e9, decide_true, cond_true, cond_false]
     exact hN _ _ _ _ _ _
 · have hc : Go.Lib.cut s.data.toList (ByteArray.mk #[32]).data.toList = (tx s, [], false) := hc
   rw [hc, hwl]
   dsimp only
   refine (ct rfl).trans ((hN _ _ _ _ _ _).trans (Eq.symm ?_))
   exact recK_none _ _ _ _ _ _ _ _ _ _ _ (by rw [numL_nil]; rfl) implR_empty t3I_empty
theorem impl_Note.val {R : Type} (k : Nat) (a : L5) (h : a.length ≤ 1099511627776) (K : L5 → Option R) : impl_Note.c k a K = K a := by
 rw [impl_Note.u]
 by_cases h0 : a.length = 0
 · have := List.eq_nil_of_length_eq_zero h0
   subst this
   exact ct rfl
 · refine (cf (df (by omega))).trans ((ct ?_).trans ?_)
   · rw [Int.toNat_natCast, lim_le h]
     simp
   · simp
theorem impl_Mark.val {R : Type} (k : Nat) (a : L3) (h : a.length ≤ 1099511627776) (K : L3 → Option R) : impl_Mark.c k a K = K a := by
 rw [impl_Mark.u]
 by_cases h0 : a.length = 0
 · have := List.eq_nil_of_length_eq_zero h0
   subst this
   exact ct rfl
 · refine (cf (df (by omega))).trans ((ct ?_).trans ?_)
   · rw [Int.toNat_natCast, lim_le h]
     simp
   · simp
theorem impl_keepCopy.val {R : Type} (i0 i1 i2 : Int) (h : L5) (m : L3) (b : L5) (hh : h.length ≤ 1000) (hm : m.length ≤ 1000) (hb : b.length ≤ 1000) (K : Int → Int → Int → L5 → L3 → L5 → Option R) : impl_keepCopy.c 4194304 i0 i1 i2 h m b K = K i0 i1 i2 h m b := by
 rw [impl_keepCopy.u, impl_Note.val _ _ (by omega), impl_Mark.val _ _ (by omega), impl_Note.val _ _ (by omega)]
theorem impl_KeepDo.val {R : Type} (id now next : Int) (h : L5) (m : L3) (b : L5) (h3 : h.length ≤ 2097152) (s3 : ∀ e ∈ h, e.2.2.2.2.size ≤ 2097152) (h4 : m.length ≤ 2097152) (h5 : b.length ≤ 2097152) (s5 : ∀ e ∈ b, e.2.2.2.2.size ≤ 2097152) (s : ByteArray) (hs : s.size ≤ 2097152) (K : Int → Int → Int → L5 → L3 → L5 → Bool → Option R) : impl_KeepDo.c 4194304 id now next h m b s K = doK id now next h m b s K := by
 rw [impl_KeepDo.u, impl_KeepOk.val _ _ _ _ _ _ h3 s3 h4 h5 s5]
 unfold doK
 cases hk : keepB id now next h m b with
 | false =>
   rw [cond_false]
   exact ct rfl
 | true =>
   obtain ⟨g1, g2, g3, g4, g5, g6⟩ := keepB_some hk
   obtain ⟨k1, k2, k3, k4, k5⟩ := keepB_small hk false
   refine (cf rfl).trans ?_
   rw [cond_true, impl_keepCopy.val id now next h m b (by omega) (by omega) (by omega)]
   refine (impl_apply.val id now next h m b (by omega) (by omega) (by omega) (fun e he => ((keepB_held hk).1 e he).2) s hs _ (K id now next h m b false) (fun i n x h' m' b' => ?_)).trans ?_
   · refine (ct rfl).trans ?_
     rw [impl_keepCopy.val id now next h m b (by omega) (by omega) (by omega)]
   · refine (recK_congr _ _ _ _ id now next h m b _ (fun i n x h' m' b' => cond (keepB i n x h' m' b') (K i n x h' m' b' true) (K id now next h m b false)) _ (by omega) (by omega) (by omega) k4 k5 (implR_small _) (fun i n x h' m' b' q1 q2 q3 q4 q5 => ?_)).trans ?_
     · refine (cf rfl).trans ?_
       rw [impl_KeepOk.val _ _ _ _ _ _ (by omega) (fun e he => Nat.le_trans (q4 e he) (by omega)) (by omega) (by omega) (fun e he => Nat.le_trans (q5 e he) (by omega))]
       cases keepB i n x h' m' b' with
       | false =>
         refine (ct rfl).trans ?_
         rw [impl_keepCopy.val id now next h m b (by omega) (by omega) (by omega)]
         rfl
       | true =>
         refine (cf rfl).trans ?_
         rw [impl_keepCopy.val i n x h' m' b' (by omega) (by omega) (by omega)]
         rfl
     · rfl
theorem laws_eqNote.val {R : Type} (k : Nat) (a0 : Int) (a1 : Int) (a2 : Int) (a3 : Int) (a4 : ByteArray) (b0 : Int) (b1 : Int) (b2 : Int) (b3 : Int) (b4 : ByteArray) (K : Bool → Option R) : laws_eqNote.c k a0 a1 a2 a3 a4 b0 b1 b2 b3 b4 K = K (decide ((a0, a1, a2, a3, a4) = (b0, b1, b2, b3, b4))) := by
 rw [laws_eqNote.u, nc0]
 simp only [nc]
 exact congrArg K (decide_eq_decide.2 (by simp))
theorem laws_eqNoteS.val {R : Type} (a b : L5) (h : a.length ≤ 2097152) (K : Bool → Option R) : laws_eqNoteS.c 4194304 a b K = K (decide (a = b)) := by
 rw [laws_eqNoteS.u]
 by_cases hl : a.length = b.length
 · refine (cf (by simp [hl])).trans ?_
   have key := eq_loop a b ((0 : Int), (0 : Int), (0 : Int), (0 : Int), ByteArray.empty) (K true) (K false) (fun n i => laws_eqNoteS.l4r (laws_eqNoteS.g 4194304) 4194304 a b (K true) (fun v => K v) n i) hl (fun n i hi => by
     rw [laws_eqNoteS.l4r_u]
     refine (ct (dt (by omega))).trans ((ct (gd hi)).trans ((ct (gd (by omega))).trans ?_))
     rw [laws_eqNote.val]
     simp only [Int.toNat_natCast, w64_p1 i (show i < 4611686018427387904 by omega)]
     cases hd : decide (a.getD i ((0 : Int), (0 : Int), (0 : Int), (0 : Int), ByteArray.empty) = b.getD i ((0 : Int), (0 : Int), (0 : Int), (0 : Int), ByteArray.empty))
     · exact ct rfl
     · exact cf rfl) (fun n => by
     rw [laws_eqNoteS.l4r_u]
     exact cf (df (by omega))) 4194304 (by omega)
   exact key.trans (by cases decide (a = b) <;> rfl)
 · refine (ct (by simp; omega)).trans ?_
   rw [df (fun e => hl (by rw [e]))]
theorem laws_eqMark.val {R : Type} (k : Nat) (a0 : Int) (a1 : Int) (a2 : Int) (b0 : Int) (b1 : Int) (b2 : Int) (K : Bool → Option R) : laws_eqMark.c k a0 a1 a2 b0 b1 b2 K = K (decide ((a0, a1, a2) = (b0, b1, b2))) := by
 rw [laws_eqMark.u, nc0]
 simp only [nc]
 exact congrArg K (decide_eq_decide.2 (by simp))
theorem laws_eqMarkS.val {R : Type} (a b : L3) (h : a.length ≤ 2097152) (K : Bool → Option R) : laws_eqMarkS.c 4194304 a b K = K (decide (a = b)) := by
 rw [laws_eqMarkS.u]
 by_cases hl : a.length = b.length
 · refine (cf (by simp [hl])).trans ?_
   have key := eq_loop a b ((0 : Int), (0 : Int), (0 : Int)) (K true) (K false) (fun n i => laws_eqMarkS.l4r (laws_eqMarkS.g 4194304) 4194304 a b (K true) (fun v => K v) n i) hl (fun n i hi => by
     rw [laws_eqMarkS.l4r_u]
     refine (ct (dt (by omega))).trans ((ct (gd hi)).trans ((ct (gd (by omega))).trans ?_))
     rw [laws_eqMark.val]
     simp only [Int.toNat_natCast, w64_p1 i (show i < 4611686018427387904 by omega)]
     cases hd : decide (a.getD i ((0 : Int), (0 : Int), (0 : Int)) = b.getD i ((0 : Int), (0 : Int), (0 : Int)))
     · exact ct rfl
     · exact cf rfl) (fun n => by
     rw [laws_eqMarkS.l4r_u]
     exact cf (df (by omega))) 4194304 (by omega)
   exact key.trans (by cases decide (a = b) <;> rfl)
 · refine (ct (by simp; omega)).trans ?_
   rw [df (fun e => hl (by rw [e]))]
theorem laws_eqKeep.val {R : Type} (a0 a1 a2 b0 b1 b2 : Int) (a3 a5 b3 b5 : (L5)) (a4 b4 : (L3)) (h3 : a3.length ≤ 2097152) (h4 : a4.length ≤ 2097152) (h5 : a5.length ≤ 2097152) (K : Bool → Option R) :
   laws_eqKeep.c 4194304 a0 a1 a2 a3 a4 a5 b0 b1 b2 b3 b4 b5 K = K (decide (a0 = b0 ∧ a1 = b1 ∧ a2 = b2 ∧ a3 = b3 ∧ a4 = b4 ∧ a5 = b5)) := by
 rw [laws_eqKeep.u]
 simp only [laws_eqNoteS.val _ _ h3, laws_eqMarkS.val _ _ h4, laws_eqNoteS.val _ _ h5, nc0, nc]
theorem laws_markText.l3r_val {R : Type} (x0 : ByteArray → Option R) : ∀ (d n v : Nat) (acc : List UInt8), v < 10 ^ d → d < n → d ≤ 18 → acc.length + d ≤ 1000 → laws_markText.l3r (laws_markText.g 4194304) 4194304 x0 n (v : Int) (ba acc) = x0 (ba ((if v = 0 then [] else decL v) ++ acc)) := by
 intro d
 induction d with
 | zero =>
   intro n v acc h1 h2 _ h3
   obtain ⟨n, rfl⟩ := Nat.exists_eq_succ_of_ne_zero (n := n) (by omega)
   have : v = 0 := by omega
   subst this
   rw [laws_markText.l3r_u]
   exact cf rfl
 | succ d ih =>
   intro n v acc h1 h2 h4 h3
   obtain ⟨n, rfl⟩ := Nat.exists_eq_succ_of_ne_zero (n := n) (by omega)
   rw [laws_markText.l3r_u]
   by_cases hv : v = 0
   · subst hv; exact cf rfl
   · have hp : 10 ^ (d + 1) ≤ 10 ^ 18 := Nat.pow_le_pow_right (by omega) (by omega)
     have hb : v < 1000000000000000000 := by omega
     refine (ct (dt (by omega))).trans ((ct rfl).trans ?_)
     have e1 : w64 ((48 : Int) + Int.tmod (v : Int) 10) = ((48 + v % 10 : Nat) : Int) := by
       have := tmodN v 10
       rw [show ((10 : Nat) : Int) = 10 from rfl] at this
       rw [this]
       exact w64_id (by omega) (by omega)
     have e2 : w64 (Int.tdiv (v : Int) 10) = ((v / 10 : Nat) : Int) := by
       have := tdivN v 10
       rw [show ((10 : Nat) : Int) = 10 from rfl] at this
       rw [this]
       exact w64_id (by omega) (by omega)
     simp only [e1, e2, ofBytes_one (48 + v % 10) (by omega), ba_append]
     refine (ct (dt ?_)).trans ((ct rfl).trans ?_)
     · rw [ba_size, ba_size]
       simp only [List.length_singleton]
       omega
     · have := ih n (v / 10) ([UInt8.ofNat (48 + v % 10)] ++ acc) (by rw [Nat.pow_succ] at h1; omega) (by omega) (by omega) (by simp; omega)
       rw [this]
       congr 2
       by_cases h10 : v < 10
       · have : v / 10 = 0 := by omega
         rw [this, if_pos rfl, if_neg hv, decL_lt h10]
         simp [dig, Nat.mod_eq_of_lt h10]
       · rw [if_neg (by omega), if_neg hv, decL_ge h10]
         simp [dig]
theorem laws_markText.val {R : Type} (m : Nat) (h : m ≤ 4398046511104) (K : ByteArray → Option R) : laws_markText.c 4194304 (m : Int) K = K (mkT m) := by
 rw [laws_markText.u]
 by_cases hm : m = 0
 · subst hm
   refine (ct rfl).trans ?_
   unfold mkT
   rw [decL_lt (by omega)]
   rfl
 · refine (cf (df (by omega))).trans ?_
   have := laws_markText.l3r_val (R := R) (fun v3 => cond (decide ((ByteArray.mk #[109]).size + v3.size ≤ 9223372036854775807)) (K ((ByteArray.mk #[109]) ++ v3)) none) 14 4194304 m [] (by omega) (by omega) (by omega) (by simp)
   refine this.trans ?_
   rw [if_neg hm, List.append_nil]
   have hl := decL_length (n := m) (d := 13) (by omega)
   have hs := ba_size (decL m)
   refine (ct (dt ?_)).trans ?_
   · have : (ByteArray.mk #[109]).size = 1 := rfl
     omega
   · congr 1
def laws_markNoteS.mk (p : Nat) : Int × Int × Int × Int × ByteArray := ((p : Int), ((p + 1 : Nat) : Int), ((p + 2 : Nat) : Int), ((p + 3 : Nat) : Int), mkT (p + 4))
theorem laws_markNoteS.val {R : Type} (a : L5) (m : Nat) (h : a.length ≤ 2097152) (hm : m ≤ 1099511627776) (K : Int → L5 → Option R) : laws_markNoteS.c 4194304 a (m : Int) K = K ((m + 5 * a.length : Nat) : Int) (mks laws_markNoteS.mk 5 m a.length) := by
 rw [laws_markNoteS.u]
 exact mark_loop laws_markNoteS.mk 5 a.length 2199023255552 (fun v w => K v w) (fun n v i w => laws_markNoteS.l4r (laws_markNoteS.g 4194304) 4194304 (fun v w => K v w) n v i w) (fun n m i w hw hi hb => by
     rw [laws_markNoteS.l4r_u]
     refine (ct (dt (by omega))).trans ?_
     simp only [Int.toNat_natCast, w64_p1 i (show i < 4611686018427387904 by omega), w64_p1 m (show m < 4611686018427387904 by omega), w64_p1 (m + 1) (show m + 1 < 4611686018427387904 by omega), w64_p1 (m + 2) (show m + 2 < 4611686018427387904 by omega), w64_p1 (m + 3) (show m + 3 < 4611686018427387904 by omega), w64_p1 (m + 4) (show m + 4 < 4611686018427387904 by omega)]
     refine (ct (gd (by first | omega | (simp only [List.length_set]; omega)))).trans ?_
     refine (ct (gd (by first | omega | (simp only [List.length_set]; omega)))).trans ?_
     refine (ct (gd (by first | omega | (simp only [List.length_set]; omega)))).trans ?_
     refine (ct (gd (by first | omega | (simp only [List.length_set]; omega)))).trans ?_
     refine (laws_markText.val (m + 4) (by omega) _).trans ?_
     refine (ct (gd (by first | omega | (simp only [List.length_set]; omega)))).trans ?_
     congr 1
     apply List.ext_getElem?
     intro j
     simp only [List.getElem?_set, List.length_set]
     split
     · rename_i e
       subst e
       have hi' : i < w.length := by omega
       simp [List.getD_eq_getElem?_getD, hi', List.getElem?_set, laws_markNoteS.mk]
       try omega
     · rfl
     try rfl) (fun n m w hw => by
     rw [laws_markNoteS.l4r_u]
     exact cf (df (by omega))) 4194304 m a (by omega) rfl (by omega)
def laws_markMarkS.mk (p : Nat) : Int × Int × Int := ((p : Int), ((p + 1 : Nat) : Int), ((p + 2 : Nat) : Int))
theorem laws_markMarkS.val {R : Type} (a : L3) (m : Nat) (h : a.length ≤ 2097152) (hm : m ≤ 1099511627776) (K : Int → L3 → Option R) : laws_markMarkS.c 4194304 a (m : Int) K = K ((m + 3 * a.length : Nat) : Int) (mks laws_markMarkS.mk 3 m a.length) := by
 rw [laws_markMarkS.u]
 exact mark_loop laws_markMarkS.mk 3 a.length 2199023255552 (fun v w => K v w) (fun n v i w => laws_markMarkS.l4r (laws_markMarkS.g 4194304) 4194304 (fun v w => K v w) n v i w) (fun n m i w hw hi hb => by
     rw [laws_markMarkS.l4r_u]
     refine (ct (dt (by omega))).trans ?_
     simp only [Int.toNat_natCast, w64_p1 i (show i < 4611686018427387904 by omega), w64_p1 m (show m < 4611686018427387904 by omega), w64_p1 (m + 1) (show m + 1 < 4611686018427387904 by omega), w64_p1 (m + 2) (show m + 2 < 4611686018427387904 by omega)]
     refine (ct (gd (by first | omega | (simp only [List.length_set]; omega)))).trans ?_
     refine (ct (gd (by first | omega | (simp only [List.length_set]; omega)))).trans ?_
     refine (ct (gd (by first | omega | (simp only [List.length_set]; omega)))).trans ?_
     congr 1
     apply List.ext_getElem?
     intro j
     simp only [List.getElem?_set, List.length_set]
     split
     · rename_i e
       subst e
       have hi' : i < w.length := by omega
       simp [List.getD_eq_getElem?_getD, hi', List.getElem?_set, laws_markMarkS.mk]
       try omega
     · rfl
     try rfl) (fun n m w hw => by
     rw [laws_markMarkS.l4r_u]
     exact cf (df (by omega))) 4194304 m a (by omega) rfl (by omega)
theorem laws_markKeep.val {R : Type} (a0 a1 a2 : Int) (a3 a5 : (L5)) (a4 : (L3)) (m : Nat) (h3 : a3.length ≤ 2097152) (h4 : a4.length ≤ 2097152) (h5 : a5.length ≤ 2097152) (hm : m ≤ 549755813888) (K : Int → (L5) → (L3) → (L5) → Option R) :
   laws_markKeep.c 4194304 a0 a1 a2 a3 a4 a5 (m : Int) K = K ((m + 5 * a3.length + 3 * a4.length + 5 * a5.length : Nat) : Int) (mks laws_markNoteS.mk 5 m a3.length) (mks laws_markMarkS.mk 3 (m + 5 * a3.length) a4.length) (mks laws_markNoteS.mk 5 (m + 5 * a3.length + 3 * a4.length) a5.length) := by
 rw [laws_markKeep.u, laws_markNoteS.val _ _ h3 (by omega), laws_markMarkS.val _ _ h4 (by omega), laws_markNoteS.val _ _ h5 (by omega)]
theorem laws_heldNoteS.val {R : Type} (N m : Nat) (h : N ≤ 2097152) (hm : m ≤ 1099511627776) (K : Int → Option R) : laws_heldNoteS.c 4194304 (mks laws_markNoteS.mk 5 m N) (m : Int) K = K ((m + 5 * N : Nat) : Int) := by
 rw [laws_heldNoteS.u]
 have hl := mks_length laws_markNoteS.mk 5 m N
 exact held_loop laws_markNoteS.mk ((0 : Int), (0 : Int), (0 : Int), (0 : Int), ByteArray.empty) 5 N 2199023255552 m (fun v => K v) (fun n v i => laws_heldNoteS.l4r (laws_heldNoteS.g 4194304) 4194304 (mks laws_markNoteS.mk 5 m N) (fun v => K v) (fun v => K v) n v i) (fun n p i hi hb hd => by
     rw [laws_heldNoteS.l4r_u]
     refine (ct (dt (by omega))).trans ?_
     simp only [Int.toNat_natCast, w64_p1 i (show i < 4611686018427387904 by omega), w64_p1 p (show p < 4611686018427387904 by omega), w64_p1 (p + 1) (show p + 1 < 4611686018427387904 by omega), w64_p1 (p + 2) (show p + 2 < 4611686018427387904 by omega), w64_p1 (p + 3) (show p + 3 < 4611686018427387904 by omega), w64_p1 (p + 4) (show p + 4 < 4611686018427387904 by omega), hd, laws_markNoteS.mk]
     refine (ct (gd (by omega))).trans ?_
     refine (cf (by simp)).trans ?_
     refine (ct (gd (by omega))).trans ?_
     refine (cf (by simp)).trans ?_
     refine (ct (gd (by omega))).trans ?_
     refine (cf (by simp)).trans ?_
     refine (ct (gd (by omega))).trans ?_
     refine (cf (by simp)).trans ?_
     refine (ct (gd (by omega))).trans ?_
     refine (laws_markText.val (p + 4) (by omega) _).trans ?_
     refine (cf (by simp)).trans ?_

     try rfl) (fun n p => by
     rw [laws_heldNoteS.l4r_u]
     exact cf (df (by omega))) 4194304 (by omega) (by omega)
theorem laws_heldMarkS.val {R : Type} (N m : Nat) (h : N ≤ 2097152) (hm : m ≤ 1099511627776) (K : Int → Option R) : laws_heldMarkS.c 4194304 (mks laws_markMarkS.mk 3 m N) (m : Int) K = K ((m + 3 * N : Nat) : Int) := by
 rw [laws_heldMarkS.u]
 have hl := mks_length laws_markMarkS.mk 3 m N
 exact held_loop laws_markMarkS.mk ((0 : Int), (0 : Int), (0 : Int)) 3 N 2199023255552 m (fun v => K v) (fun n v i => laws_heldMarkS.l4r (laws_heldMarkS.g 4194304) 4194304 (mks laws_markMarkS.mk 3 m N) (fun v => K v) (fun v => K v) n v i) (fun n p i hi hb hd => by
     rw [laws_heldMarkS.l4r_u]
     refine (ct (dt (by omega))).trans ?_
     simp only [Int.toNat_natCast, w64_p1 i (show i < 4611686018427387904 by omega), w64_p1 p (show p < 4611686018427387904 by omega), w64_p1 (p + 1) (show p + 1 < 4611686018427387904 by omega), w64_p1 (p + 2) (show p + 2 < 4611686018427387904 by omega), hd, laws_markMarkS.mk]
     refine (ct (gd (by omega))).trans ?_
     refine (cf (by simp)).trans ?_
     refine (ct (gd (by omega))).trans ?_
     refine (cf (by simp)).trans ?_
     refine (ct (gd (by omega))).trans ?_
     refine (cf (by simp)).trans ?_

     try rfl) (fun n p => by
     rw [laws_heldMarkS.l4r_u]
     exact cf (df (by omega))) 4194304 (by omega) (by omega)
theorem laws_heldKeep.val {R : Type} (a0 a1 a2 : Int) (n3 n4 n5 m : Nat) (h3 : n3 ≤ 2097152) (h4 : n4 ≤ 2097152) (h5 : n5 ≤ 2097152) (hm : m ≤ 549755813888) (K : Int → Option R) :
   laws_heldKeep.c 4194304 a0 a1 a2 (mks laws_markNoteS.mk 5 m n3) (mks laws_markMarkS.mk 3 (m + 5 * n3) n4) (mks laws_markNoteS.mk 5 (m + 5 * n3 + 3 * n4) n5) (m : Int) K = K ((m + 5 * n3 + 3 * n4 + 5 * n5 : Nat) : Int) := by
 rw [laws_heldKeep.u, laws_heldNoteS.val _ _ h3 (by omega)]
 refine (cf (df (by omega))).trans ?_
 rw [laws_heldMarkS.val _ _ h4 (by omega)]
 refine (cf (df (by omega))).trans ?_
 rw [laws_heldNoteS.val _ _ h5 (by omega)]
 exact cf (df (by omega))
theorem laws_szNote.tot (a b c d : Int) (t : ByteArray) (ht : (t.size : Int) ≤ 9223372036854775807) (v : Int) (h0 : 0 ≤ v) (h1 : v ≤ 1048576) : ∃ r : Int, r ≤ v ∧ (0 ≤ r → t.size ≤ 1048576) ∧ ∀ {R : Type} (K : Int → Option R), laws_szNote.c 4194304 a b c d t v K = K r := by
 have e : w64 (v - (t.size : Int)) = v - (t.size : Int) := w64_id (by omega) (by omega)
 by_cases h : v - (t.size : Int) < 0
 · exact ⟨-1, by omega, by omega, fun K => by rw [laws_szNote.u]; exact ct (by rw [e]; exact dt h)⟩
 · exact ⟨v - (t.size : Int), by omega, by omega, fun K => by rw [laws_szNote.u]; refine (cf (by rw [e]; exact df h)).trans ?_; rw [e]⟩
theorem laws_szNoteS.l4r_tot (l : L5) (hl : l.length ≤ 1048576) (hs : ∀ m ∈ l, (m.2.2.2.2.size : Int) ≤ 9223372036854775807) : ∀ (d i : Nat) (v : Int), i + d = l.length → 0 ≤ v → v ≤ 1048576 →
   ∃ r : Int, r ≤ v ∧ (0 ≤ r → ∀ m ∈ l.drop i, m.2.2.2.2.size ≤ 1048576) ∧ ∀ {R : Type} (K : Int → Option R) (n : Nat), d < n → laws_szNoteS.l4r (laws_szNoteS.g 4194304) 4194304 l K K n v (i : Int) = K r := by
 intro d
 induction d with
 | zero =>
   intro i v h1 h2 h3
   refine ⟨v, Int.le_refl _, fun _ m hm => ?_, fun K n hn => ?_⟩
   · rw [List.drop_eq_nil_of_le (by omega)] at hm; cases hm
   · obtain ⟨n, rfl⟩ := Nat.exists_eq_succ_of_ne_zero (n := n) (by omega)
     rw [laws_szNoteS.l4r_u]
     exact cf (df (by omega))
 | succ d ih =>
   intro i v h1 h2 h3
   have hi : i < l.length := by omega
   have hz := hs l[i] (List.getElem_mem hi)
   obtain ⟨r1, g1, g2, g3⟩ := laws_szNote.tot l[i].1 l[i].2.1 l[i].2.2.1 l[i].2.2.2.1 l[i].2.2.2.2 hz v h2 h3
   by_cases hneg : r1 < 0
   · refine ⟨-1, by omega, by omega, fun K n hn => ?_⟩
     obtain ⟨n, rfl⟩ := Nat.exists_eq_succ_of_ne_zero (n := n) (by omega)
     rw [laws_szNoteS.l4r_u, Int.toNat_natCast, getD_at hi]
     refine (ct (dt (by omega))).trans ((ct (gd hi)).trans ?_)
     rw [g3]
     exact ct (dt hneg)
   · obtain ⟨r, q1, q2, hr⟩ := ih (i + 1) r1 (by omega) (by omega) (by omega)
     refine ⟨r, by omega, fun h0 m hm => ?_, fun K n hn => ?_⟩
     · rw [List.drop_eq_getElem_cons hi] at hm
       rcases List.mem_cons.1 hm with rfl | hm
       · exact g2 (by omega)
       · exact q2 h0 m hm
     · obtain ⟨n, rfl⟩ := Nat.exists_eq_succ_of_ne_zero (n := n) (by omega)
       rw [laws_szNoteS.l4r_u, Int.toNat_natCast, getD_at hi, w64_p1 i (by omega)]
       refine (ct (dt (by omega))).trans ((ct (gd hi)).trans ?_)
       rw [g3]
       refine (cf (df hneg)).trans ?_
       exact hr K n (by omega)
theorem laws_szNoteS.tot (l : L5) (hl : (l.length : Int) ≤ 9223372036854775807) (hs : ∀ m ∈ l, (m.2.2.2.2.size : Int) ≤ 9223372036854775807) (v : Int) (h0 : 0 ≤ v) (h1 : v ≤ 1048576) :
   ∃ r : Int, r ≤ v ∧ (0 ≤ r → l.length ≤ 1048576 ∧ ∀ m ∈ l, m.2.2.2.2.size ≤ 1048576) ∧ ∀ {R : Type} (K : Int → Option R), laws_szNoteS.c 4194304 l v K = K r := by
 have hw : w64 (v - (l.length : Int)) = v - (l.length : Int) := w64_id (by omega) (by omega)
 by_cases h : 0 ≤ v - (l.length : Int)
 · obtain ⟨r, q1, q2, hr⟩ := laws_szNoteS.l4r_tot l (by omega) hs l.length 0 (v - (l.length : Int)) (by omega) (by omega) (by omega)
   refine ⟨r, by omega, fun h0 => ⟨by omega, by simpa using q2 h0⟩, fun K => ?_⟩
   rw [laws_szNoteS.u]
   refine (cf (by rw [hw]; exact df (by omega))).trans ?_
   rw [hw]
   exact hr K 4194304 (by omega)
 · refine ⟨-1, by omega, by omega, fun K => ?_⟩
   rw [laws_szNoteS.u]
   exact ct (by rw [hw]; exact dt (by omega))
theorem laws_szMarkS.tot (l : L3) (hl : (l.length : Int) ≤ 9223372036854775807) (v : Int) (h0 : 0 ≤ v) (h1 : v ≤ 1048576) : ∃ r : Int, r ≤ v ∧ (0 ≤ r → l.length ≤ 1048576) ∧ ∀ {R : Type} (K : Int → Option R), laws_szMarkS.c 4194304 l v K = K r := by
 have hw : w64 (v - (l.length : Int)) = v - (l.length : Int) := w64_id (by omega) (by omega)
 by_cases h : v - (l.length : Int) < 0
 · exact ⟨-1, by omega, by omega, fun K => by rw [laws_szMarkS.u]; exact ct (by rw [hw]; exact dt h)⟩
 · exact ⟨v - (l.length : Int), by omega, by omega, fun K => by rw [laws_szMarkS.u]; refine (cf (by rw [hw]; exact df h)).trans ?_; rw [hw]⟩
theorem laws_szKeep.tot (a b c : Int) (x3 x5 : L5) (x4 : L3) (l3 : (x3.length : Int) ≤ 9223372036854775807) (s3 : ∀ m ∈ x3, (m.2.2.2.2.size : Int) ≤ 9223372036854775807) (l4 : (x4.length : Int) ≤ 9223372036854775807) (l5 : (x5.length : Int) ≤ 9223372036854775807) (s5 : ∀ m ∈ x5, (m.2.2.2.2.size : Int) ≤ 9223372036854775807) :
   ∃ r : Int, (0 ≤ r → (x3.length ≤ 1048576 ∧ ∀ m ∈ x3, m.2.2.2.2.size ≤ 1048576) ∧ x4.length ≤ 1048576 ∧ (x5.length ≤ 1048576 ∧ ∀ m ∈ x5, m.2.2.2.2.size ≤ 1048576)) ∧ r ≤ 1048576 ∧ ∀ {R : Type} (K : Int → Option R), laws_szKeep.c 4194304 a b c x3 x4 x5 1048576 K = K r := by
 obtain ⟨r1, p1, q1, e1⟩ := laws_szNoteS.tot x3 l3 s3 1048576 (by omega) (by omega)
 by_cases n1 : r1 < 0
 · exact ⟨-1, by omega, by omega, fun K => by rw [laws_szKeep.u, e1]; exact ct (dt n1)⟩
 · obtain ⟨r2, p2, q2, e2⟩ := laws_szMarkS.tot x4 l4 r1 (by omega) (by omega)
   by_cases n2 : r2 < 0
   · exact ⟨-1, by omega, by omega, fun K => by rw [laws_szKeep.u, e1]; refine (cf (df n1)).trans ?_; rw [e2]; exact ct (dt n2)⟩
   · obtain ⟨r3, p3, q3, e3⟩ := laws_szNoteS.tot x5 l5 s5 r2 (by omega) (by omega)
     by_cases n3 : r3 < 0
     · exact ⟨-1, by omega, by omega, fun K => by rw [laws_szKeep.u, e1]; refine (cf (df n1)).trans ?_; rw [e2]; refine (cf (df n2)).trans ?_; rw [e3]; exact ct (dt n3)⟩
     · exact ⟨r3, fun h => ⟨q1 (by omega), q2 (by omega), q3 h⟩, by omega, fun K => by rw [laws_szKeep.u, e1]; refine (cf (df n1)).trans ?_; rw [e2]; refine (cf (df n2)).trans ?_; rw [e3]; exact cf (df n3)⟩
theorem spec_l6In.val {R : Type} (k : Nat) (a b c : Int) (K : Bool → Option R) : spec_l6In.c k a b c K = K (inB a b c) := by
 rw [spec_l6In.u]
 unfold inB
 by_cases h : b ≤ a <;> simp [h]
theorem spec_l3Keeper.val {R : Type} (k : Nat) (a : Int) (K : Bool → Option R) : spec_l3Keeper.c k a K = K (inB a 0 3) := by
 rw [spec_l3Keeper.u, spec_l6In.val]
theorem spec_NoteOk.l4r_val {R : Type} (a b c d : Int) (t : ByteArray) (ht : t.size ≤ 24) (x0 : Option R) (q : Bool → Option R) : ∀ (e i n : Nat), i + e = t.size → e < n →
   spec_NoteOk.l4r (spec_NoteOk.g 4194304) 4194304 a b c d t x0 q n (i : Int) = cond (((tx t).drop i).all chOk) x0 (q false) := by
 have hl := tx_length t
 intro e
 induction e with
 | zero =>
   intro i n h1 h2
   obtain ⟨n, rfl⟩ := Nat.exists_eq_succ_of_ne_zero (n := n) (by omega)
   rw [spec_NoteOk.l4r_u, List.drop_eq_nil_of_le (by omega)]
   exact cf (df (by omega))
 | succ e ih =>
   intro i n h1 h2
   obtain ⟨n, rfl⟩ := Nat.exists_eq_succ_of_ne_zero (n := n) (by omega)
   have hi : i < t.size := by omega
   have hlt : i < (tx t).length := by omega
   rw [spec_NoteOk.l4r_u, Int.toNat_natCast, byteAt_tx, getD_at hlt, w64_p1 i (by omega), List.drop_eq_getElem_cons hlt, List.all_cons]
   refine (ct (dt (by omega))).trans ((ct (gd hi)).trans ?_)
   by_cases c1 : (((tx t)[i].toNat : Nat) : Int) < 32
   · rw [show chOk (tx t)[i] = false from by simp [chOk]; omega, Bool.false_and]
     exact ct (dt c1)
   · refine (cf (df c1)).trans ((ct (gd hi)).trans ?_)
     by_cases c2 : (126 : Int) < (((tx t)[i].toNat : Nat) : Int)
     · rw [show chOk (tx t)[i] = false from by simp [chOk]; omega, Bool.false_and]
       exact ct (dt c2)
     · rw [show chOk (tx t)[i] = true from by simp [chOk]; omega, Bool.true_and, ← ih (i + 1) n (by omega) (by omega)]
       exact cf (df c2)
theorem spec_NoteOk.val {R : Type} (a b c d : Int) (t : ByteArray) (K : Bool → Option R) : spec_NoteOk.c 4194304 a b c d t K = K (ntOk a b c d t) := by
 rw [spec_NoteOk.u, spec_l3Keeper.val]
 cases h1 : inB a 0 3 with
 | false => exact (ct rfl).trans (by simp [ntOk, h1])
 | true =>
   refine (cf rfl).trans ?_
   rw [spec_l3Keeper.val]
   cases h2 : inB c 0 3 with
   | false => exact (ct rfl).trans (by simp [ntOk, h2])
   | true =>
     refine (cf rfl).trans ?_
     rw [spec_l6In.val]
     cases h3 : inB b 1 99 with
     | false => exact (ct rfl).trans (by simp [ntOk, h3])
     | true =>
       refine (cf rfl).trans ?_
       rw [spec_l6In.val]
       cases h4 : inB d 1 999 with
       | false => exact (ct rfl).trans (by simp [ntOk, h4])
       | true =>
         refine (cf rfl).trans ?_
         by_cases h5 : (t.size : Int) < 1
         · exact (ct (dt h5)).trans (by simp [ntOk, txOk, inB_no (x := (t.size : Int)) (a := 1) (b := 24) (by omega)])
         · refine (cf (df h5)).trans ?_
           by_cases h6 : (24 : Int) < (t.size : Int)
           · exact (ct (dt h6)).trans (by simp [ntOk, txOk, inB_no (x := (t.size : Int)) (a := 1) (b := 24) (by omega)])
           · refine (cf (df h6)).trans ?_
             refine (spec_NoteOk.l4r_val a b c d t (by omega) _ _ t.size 0 4194304 (by omega) (by omega)).trans ?_
             have e : ntOk a b c d t = (tx t).all chOk := by
               simp [ntOk, txOk, h1, h2, h3, h4, inB_yes (x := (t.size : Int)) (a := 1) (b := 24) (by omega) (by omega), tx]
             rw [List.drop_zero, e]
             cases (tx t).all chOk <;> rfl
theorem spec_l12Less.val {R : Type} (a b c d : Int) (K : Bool → Option R) : spec_l12Less.c 4194304 a b c d K = K (lessB a b c d) := by
 rw [spec_l12Less.u]
 unfold lessB
 cases decide (a < c) with
 | true => rfl
 | false => cases decide (a = c) <;> rfl
theorem spec_l12Notes.l4r_val {R : Type} (l : L5) (hl : l.length ≤ 2097152) (x0 : Option R) (q : Bool → Option R) :
   spec_l12Notes.l4r (spec_l12Notes.g 4194304) 4194304 l x0 q 4194304 0 = cond ((List.range' 0 l.length).all (noteP l)) x0 (q false) := by
 refine idx_loop l.length (noteP l) x0 (q false) (fun n i => spec_l12Notes.l4r (spec_l12Notes.g 4194304) 4194304 l x0 q n i) (fun n i hi => ?_) (fun n => ?_) 4194304 (by omega)
 · rw [spec_l12Notes.l4r_u, w64_p1 i (by omega)]
   refine (ct (dt (by omega))).trans ((ct (gd hi)).trans ?_)
   rw [Int.toNat_natCast, spec_NoteOk.val]
   unfold noteP
   cases ho : ntOk (l.getD i nd).1 (l.getD i nd).2.1 (l.getD i nd).2.2.1 (l.getD i nd).2.2.2.1 (l.getD i nd).2.2.2.2 with
   | false => exact ct rfl
   | true =>
     refine (cf rfl).trans ?_
     rw [Bool.true_and]
     by_cases h0 : 0 < i
     · have w : w64 ((i : Int) - 1) = ((i - 1 : Nat) : Int) := (w64_id (x := (i : Int) - 1) (by omega) (by omega)).trans (by omega)
       refine (ct (dt (by omega))).trans ?_
       simp only [w, Int.toNat_natCast]
       refine (ct (gd (by omega))).trans ((ct (gd (by omega))).trans ((ct (gd hi)).trans ((ct (gd hi)).trans ?_)))
       rw [spec_l12Less.val, dt h0, cond_true]
       cases lessB _ _ _ _ <;> rfl
     · refine (cf (df (by omega))).trans ?_
       rw [df h0]
       rfl
 · show spec_l12Notes.l4r (spec_l12Notes.g 4194304) 4194304 l x0 q (n + 1) (l.length : Int) = x0
   rw [spec_l12Notes.l4r_u]
   exact cf (df (by omega))
theorem spec_l12Notes.val {R : Type} (l : L5) (hl : l.length ≤ 2097152) (K : Bool → Option R) : spec_l12Notes.c 4194304 l 6 K = K (decide (l.length ≤ 6) && (List.range' 0 l.length).all (noteP l)) := by
 rw [spec_l12Notes.u]
 by_cases h : l.length ≤ 6
 · refine (cf (df (by omega))).trans ?_
   rw [spec_l12Notes.l4r_val l hl, dt h, Bool.true_and]
   cases (List.range' 0 l.length).all (noteP l) <;> rfl
 · refine (ct (dt (by omega))).trans ?_
   rw [df h, Bool.false_and]
theorem spec_l12Marks.l4r_val {R : Type} (l : L3) (hl : l.length ≤ 2097152) (x0 : Option R) (q : Bool → Option R) :
   spec_l12Marks.l4r (spec_l12Marks.g 4194304) 4194304 l x0 q 4194304 0 = cond ((List.range' 0 l.length).all (markP l)) x0 (q false) := by
 refine idx_loop l.length (markP l) x0 (q false) (fun n i => spec_l12Marks.l4r (spec_l12Marks.g 4194304) 4194304 l x0 q n i) (fun n i hi => ?_) (fun n => ?_) 4194304 (by omega)
 · rw [spec_l12Marks.l4r_u, w64_p1 i (by omega)]
   refine (ct (dt (by omega))).trans ((ct (gd hi)).trans ?_)
   simp only [Int.toNat_natCast]
   rw [spec_l3Keeper.val]
   unfold markP markOkB
   cases h1 : inB (l.getD i md).1 0 3 with
   | false => exact ct rfl
   | true =>
     refine (cf rfl).trans ?_
     rw [spec_l6In.val]
     cases h2 : inB (l.getD i md).2.1 1 99 with
     | false => exact ct rfl
     | true =>
       refine (cf rfl).trans ?_
       rw [spec_l6In.val]
       cases h3 : inB (l.getD i md).2.2 1 999 with
       | false => exact ct rfl
       | true =>
         refine (cf rfl).trans ?_
         rw [Bool.true_and, Bool.true_and, Bool.true_and]
         by_cases h0 : 0 < i
         · have w : w64 ((i : Int) - 1) = ((i - 1 : Nat) : Int) := (w64_id (x := (i : Int) - 1) (by omega) (by omega)).trans (by omega)
           refine (ct (dt (by omega))).trans ?_
           simp only [w, Int.toNat_natCast]
           refine (ct (gd (by omega))).trans ((ct (gd (by omega))).trans ?_)
           rw [spec_l12Less.val, dt h0, cond_true]
           cases lessB _ _ _ _ <;> rfl
         · refine (cf (df (by omega))).trans ?_
           rw [df h0]
           rfl
 · show spec_l12Marks.l4r (spec_l12Marks.g 4194304) 4194304 l x0 q (n + 1) (l.length : Int) = x0
   rw [spec_l12Marks.l4r_u]
   exact cf (df (by omega))
theorem spec_l12Marks.val {R : Type} (l : L3) (hl : l.length ≤ 2097152) (K : Bool → Option R) : spec_l12Marks.c 4194304 l K = K (decide (l.length ≤ 12) && (List.range' 0 l.length).all (markP l)) := by
 rw [spec_l12Marks.u]
 by_cases h : l.length ≤ 12
 · refine (cf (df (by omega))).trans ?_
   rw [spec_l12Marks.l4r_val l hl, dt h, Bool.true_and]
   cases (List.range' 0 l.length).all (markP l) <;> rfl
 · refine (ct (dt (by omega))).trans ?_
   rw [df h, Bool.false_and]
theorem spec_l12Way.val {R : Type} (a b c d : Int) (t : ByteArray) (id : Int) (K : Bool → Option R) : spec_l12Way.c 4194304 a b c d t id K = K (wayB a c id) := by
 rw [spec_l12Way.u]
 unfold wayB
 cases decide (a ≤ id) <;> cases decide (id < c) <;> cases decide (c < id) <;> rfl
theorem spec_l12Mark.l4r_tot (fr nu : Int) (l : L3) (hl : l.length ≤ 2097152) : ∀ (d i : Nat), i + d = l.length → ∃ r : Int, (0 ≤ r ↔ hasM (l.drop i) fr nu = true) ∧ ∀ {R : Type} (K : Int → Option R) (n : Nat), d < n → spec_l12Mark.l4r (spec_l12Mark.g 4194304) 4194304 fr nu l (K (-1)) (fun v => K v) n (i : Int) = K r := by
 intro d
 induction d with
 | zero =>
   intro i h1
   refine ⟨-1, ?_, fun K n hn => ?_⟩
   · rw [List.drop_eq_nil_of_le (by omega)]
     simp [hasM]
   · obtain ⟨n, rfl⟩ := Nat.exists_eq_succ_of_ne_zero (n := n) (by omega)
     rw [spec_l12Mark.l4r_u]
     exact cf (df (by omega))
 | succ d ih =>
   intro i h1
   have hi : i < l.length := by omega
   obtain ⟨r, q1, q2⟩ := ih (i + 1) (by omega)
   by_cases h : l[i].1 = fr ∧ l[i].2.1 = nu
   · refine ⟨(i : Int), ⟨fun _ => ?_, fun _ => by omega⟩, fun K n hn => ?_⟩
     · rw [List.drop_eq_getElem_cons hi]
       unfold hasM
       rw [List.any_cons, dt h.1, dt h.2]
       rfl
     · obtain ⟨n, rfl⟩ := Nat.exists_eq_succ_of_ne_zero (n := n) (by omega)
       rw [spec_l12Mark.l4r_u, Int.toNat_natCast, getD_at hi]
       exact (ct (dt (by omega))).trans ((ct (gd hi)).trans ((ct (dt h.1)).trans ((ct (gd hi)).trans (ct (dt h.2)))))
   · refine ⟨r, ?_, fun K n hn => ?_⟩
     · rw [q1, List.drop_eq_getElem_cons hi]
       unfold hasM
       rw [List.any_cons]
       have : (decide (l[i].1 = fr) && decide (l[i].2.1 = nu)) = false := by
         rw [Bool.and_eq_false_iff]
         by_cases h2 : l[i].1 = fr
         · exact .inr (df fun h3 => h ⟨h2, h3⟩)
         · exact .inl (df h2)
       rw [this, Bool.false_or]
     · obtain ⟨n, rfl⟩ := Nat.exists_eq_succ_of_ne_zero (n := n) (by omega)
       rw [spec_l12Mark.l4r_u, Int.toNat_natCast, getD_at hi, w64_p1 i (by omega), q2 K n (by omega)]
       refine (ct (dt (by omega))).trans ((ct (gd hi)).trans ?_)
       by_cases h2 : l[i].1 = fr
       · exact (ct (dt h2)).trans ((ct (gd hi)).trans (cf (df fun h3 => h ⟨h2, h3⟩)))
       · exact cf (df h2)
theorem spec_l12Mark.tot (l : L3) (hl : l.length ≤ 2097152) (fr nu : Int) : ∃ r : Int, (0 ≤ r ↔ hasM l fr nu = true) ∧ ∀ {R : Type} (K : Int → Option R), spec_l12Mark.c 4194304 l fr nu K = K r := by
 obtain ⟨r, q1, q2⟩ := spec_l12Mark.l4r_tot fr nu l hl l.length 0 (by omega)
 refine ⟨r, by simpa using q1, fun K => ?_⟩
 rw [spec_l12Mark.u]
 exact q2 K 4194304 (by omega)
theorem spec_KeepOk.l4r_val {R : Type} (id now next : Int) (held : L5) (marks : L3) (inbox : L5) (h3 : held.length ≤ 2097152) (h4 : marks.length ≤ 2097152) (x0 : Option R) (q : Bool → Option R) :
   spec_KeepOk.l4r (spec_KeepOk.g 4194304) 4194304 id now next held marks inbox x0 q 4194304 0 = cond ((List.range' 0 held.length).all (heldP id now next held marks)) x0 (q false) := by
 refine idx_loop held.length (heldP id now next held marks) x0 (q false) (fun n i => spec_KeepOk.l4r (spec_KeepOk.g 4194304) 4194304 id now next held marks inbox x0 q n i) (fun n i hi => ?_) (fun n => ?_) 4194304 (by omega)
 · rw [spec_KeepOk.l4r_u, w64_p1 i (by omega)]
   refine (ct (dt (by omega))).trans ((ct (gd hi)).trans ?_)
   simp only [Int.toNat_natCast]
   unfold heldP
   obtain ⟨r, hr, er⟩ := spec_l12Mark.tot marks h4 (held.getD i nd).1 (held.getD i nd).2.1
   have hr2 : ¬ 0 ≤ r → hasM marks (held.getD i nd).1 (held.getD i nd).2.1 = false := fun h => by
     cases e : hasM marks (held.getD i nd).1 (held.getD i nd).2.1 with
     | false => rfl
     | true => exact absurd (hr.2 e) h
   by_cases c1 : (held.getD i nd).2.2.2.1 ≤ now
   · refine (ct (dt c1)).trans ?_
     rw [dt c1]
     rfl
   · refine (cf (df c1)).trans ?_
     rw [spec_l12Way.val, df c1]
     cases wayB (held.getD i nd).1 (held.getD i nd).2.2.1 id with
     | false => exact ct rfl
     | true =>
       refine (cf rfl).trans ?_
       by_cases c2 : (held.getD i nd).1 = id
       · refine (ct (dt c2)).trans ?_
         rw [dt c2]
         by_cases c3 : next ≤ (held.getD i nd).2.1
         · refine (ct (dt c3)).trans ?_
           rw [dt c3]
           rfl
         · refine (cf (df c3)).trans ?_
           rw [df c3, er]
           by_cases c4 : 0 ≤ r
           · rw [hr.1 c4]
             exact ct (dt c4)
           · rw [hr2 c4]
             exact cf (df c4)
       · refine (cf (df c2)).trans ?_
         rw [df c2, er]
         by_cases c4 : 0 ≤ r
         · rw [hr.1 c4]
           exact ct (dt c4)
         · rw [hr2 c4]
           exact cf (df c4)
 · show spec_KeepOk.l4r (spec_KeepOk.g 4194304) 4194304 id now next held marks inbox x0 q (n + 1) (held.length : Int) = x0
   rw [spec_KeepOk.l4r_u]
   exact cf (df (by omega))
theorem spec_KeepOk.l9r_val {R : Type} (id now next : Int) (held : L5) (marks : L3) (inbox : L5) (h4 : marks.length ≤ 2097152) (x0 : Option R) (q : Bool → Option R) :
   spec_KeepOk.l9r (spec_KeepOk.g 4194304) 4194304 id now next held marks inbox x0 q 4194304 0 = cond ((List.range' 0 marks.length).all (markQ id now next marks)) x0 (q false) := by
 refine idx_loop marks.length (markQ id now next marks) x0 (q false) (fun n i => spec_KeepOk.l9r (spec_KeepOk.g 4194304) 4194304 id now next held marks inbox x0 q n i) (fun n i hi => ?_) (fun n => ?_) 4194304 (by omega)
 · rw [spec_KeepOk.l9r_u, w64_p1 i (by omega)]
   refine (ct (dt (by omega))).trans ((ct (gd hi)).trans ?_)
   simp only [Int.toNat_natCast]
   unfold markQ
   by_cases c1 : (marks.getD i md).2.2 ≤ now
   · refine (ct (dt c1)).trans ?_
     rw [dt c1]
     rfl
   · refine (cf (df c1)).trans ?_
     rw [df c1]
     by_cases c2 : (marks.getD i md).1 = id
     · refine (ct (dt c2)).trans ?_
       rw [dt c2]
       by_cases c3 : next ≤ (marks.getD i md).2.1
       · refine (ct (dt c3)).trans ?_
         rw [dt c3]
         rfl
       · rw [df c3]
         exact cf rfl
     · rw [df c2]
       exact cf rfl
 · show spec_KeepOk.l9r (spec_KeepOk.g 4194304) 4194304 id now next held marks inbox x0 q (n + 1) (marks.length : Int) = x0
   rw [spec_KeepOk.l9r_u]
   exact cf (df (by omega))
theorem spec_KeepOk.l14r_val {R : Type} (id now next : Int) (held : L5) (marks : L3) (inbox : L5) (h4 : marks.length ≤ 2097152) (h5 : inbox.length ≤ 2097152) (x0 : Option R) (q : Bool → Option R) :
   spec_KeepOk.l14r (spec_KeepOk.g 4194304) 4194304 id now next held marks inbox x0 q 4194304 0 = cond ((List.range' 0 inbox.length).all (inbP id now next inbox marks)) x0 (q false) := by
 refine idx_loop inbox.length (inbP id now next inbox marks) x0 (q false) (fun n i => spec_KeepOk.l14r (spec_KeepOk.g 4194304) 4194304 id now next held marks inbox x0 q n i) (fun n i hi => ?_) (fun n => ?_) 4194304 (by omega)
 · rw [spec_KeepOk.l14r_u, w64_p1 i (by omega)]
   refine (ct (dt (by omega))).trans ((ct (gd hi)).trans ?_)
   simp only [Int.toNat_natCast]
   unfold inbP
   obtain ⟨r, hr, er⟩ := spec_l12Mark.tot marks h4 (inbox.getD i nd).1 (inbox.getD i nd).2.1
   have hr2 : ¬ 0 ≤ r → hasM marks (inbox.getD i nd).1 (inbox.getD i nd).2.1 = false := fun h => by
     cases e : hasM marks (inbox.getD i nd).1 (inbox.getD i nd).2.1 with
     | false => rfl
     | true => exact absurd (hr.2 e) h
   by_cases c1 : (inbox.getD i nd).2.2.1 = id
   · refine (cf (by rw [dt c1]; rfl)).trans ?_
     rw [dt c1]
     by_cases c2 : (inbox.getD i nd).1 = id
     · refine (ct (dt c2)).trans ?_
       rw [dt c2]
       by_cases c3 : next ≤ (inbox.getD i nd).2.1
       · refine (ct (dt c3)).trans ?_
         rw [dt c3]
         rfl
       · refine (cf (df c3)).trans ?_
         rw [df c3]
         by_cases c5 : now < (inbox.getD i nd).2.2.2.1
         · refine (ct (dt c5)).trans ?_
           rw [dt c5, er]
           by_cases c4 : 0 ≤ r
           · rw [hr.1 c4]
             exact cf (df (by omega))
           · rw [hr2 c4]
             exact ct (dt (by omega))
         · rw [df c5]
           exact cf rfl
     · refine (cf (df c2)).trans ?_
       rw [df c2]
       by_cases c5 : now < (inbox.getD i nd).2.2.2.1
       · refine (ct (dt c5)).trans ?_
         rw [dt c5, er]
         by_cases c4 : 0 ≤ r
         · rw [hr.1 c4]
           exact cf (df (by omega))
         · rw [hr2 c4]
           exact ct (dt (by omega))
       · rw [df c5]
         exact cf rfl
   · refine (ct (by rw [df c1]; rfl)).trans ?_
     rw [df c1]
     rfl
 · show spec_KeepOk.l14r (spec_KeepOk.g 4194304) 4194304 id now next held marks inbox x0 q (n + 1) (inbox.length : Int) = x0
   rw [spec_KeepOk.l14r_u]
   exact cf (df (by omega))
theorem spec_KeepOk.val {R : Type} (id now next : Int) (held : L5) (marks : L3) (inbox : L5) (h3 : held.length ≤ 2097152) (h4 : marks.length ≤ 2097152) (h5 : inbox.length ≤ 2097152) (K : Bool → Option R) : spec_KeepOk.c 4194304 id now next held marks inbox K = K (keepB id now next held marks inbox) := by
 rw [spec_KeepOk.u, spec_l3Keeper.val]
 unfold keepB
 cases inB id 0 3 with
 | false => exact ct rfl
 | true =>
   refine (cf rfl).trans ?_
   rw [spec_l6In.val]
   cases inB now 0 999 with
   | false => exact ct rfl
   | true =>
     refine (cf rfl).trans ?_
     rw [spec_l6In.val]
     cases inB next 1 100 with
     | false => exact ct rfl
     | true =>
       refine (cf rfl).trans ?_
       rw [spec_l12Notes.val _ h3]
       cases decide (held.length ≤ 6) with
       | false => exact ct rfl
       | true =>
         cases (List.range' 0 held.length).all (noteP held) with
         | false => exact ct rfl
         | true =>
           refine (cf rfl).trans ?_
           rw [spec_l12Marks.val _ h4]
           cases decide (marks.length ≤ 12) with
           | false => exact ct rfl
           | true =>
             cases (List.range' 0 marks.length).all (markP marks) with
             | false => exact ct rfl
             | true =>
               refine (cf rfl).trans ?_
               rw [spec_l12Notes.val _ h5]
               cases decide (inbox.length ≤ 6) with
               | false => exact ct rfl
               | true =>
                 cases (List.range' 0 inbox.length).all (noteP inbox) with
                 | false => exact ct rfl
                 | true =>
                   refine (cf rfl).trans ?_
                   rw [spec_KeepOk.l4r_val _ _ _ _ _ _ h3 h4, spec_KeepOk.l9r_val _ _ _ _ _ _ h4, spec_KeepOk.l14r_val _ _ _ _ _ _ h4 h5]
                   cases (List.range' 0 held.length).all (heldP id now next held marks) with
                   | false => rfl
                   | true =>
                     cases (List.range' 0 marks.length).all (markQ id now next marks) with
                     | false => rfl
                     | true =>
                       cases (List.range' 0 inbox.length).all (inbP id now next inbox marks) <;> rfl
theorem spec_l6Dec.small {R : Type} (n k : Nat) (h : n < 10) (K : ByteArray → Option R) : spec_l6Dec.c (k + 1) (n : Int) K = K (ba (decL n)) := by
 rw [spec_l6Dec.u]
 refine (cf (df (by omega))).trans ((cf (df (by omega))).trans ((ct (dt (by omega))).trans ?_))
 have e : w64 ((48 : Int) + (n : Int)) = ((48 + n : Nat) : Int) := (w64_id (x := 48 + (n : Int)) (by omega) (by omega)).trans (by omega)
 simp only [e]
 rw [ofBytes_one _ (by omega), decL_lt h]
 rfl
theorem spec_l6Dec.deep (d : Nat) : ∀ (n k : Nat), n < 10 ^ (d + 1) → d < k → n < 9223372036854775808 → ∀ {R : Type} (K : ByteArray → Option R), spec_l6Dec.c k (n : Int) K = K (ba (decL n)) := by
 induction d with
 | zero =>
   intro n k h hk _ R K
   obtain ⟨k, rfl⟩ := Nat.exists_eq_succ_of_ne_zero (n := k) (by omega)
   exact spec_l6Dec.small n k (by omega) K
 | succ d ih =>
   intro n k h hk hn R K
   obtain ⟨k, rfl⟩ := Nat.exists_eq_succ_of_ne_zero (n := k) (by omega)
   by_cases h10 : n < 10
   · exact spec_l6Dec.small n k h10 K
   · have hq : n / 10 < 10 ^ (d + 1) := by
       rw [Nat.pow_succ] at h
       exact Nat.div_lt_of_lt_mul (by rw [Nat.mul_comm]; exact h)
     have e1 : w64 (Int.tdiv (n : Int) 10) = ((n / 10 : Nat) : Int) := by
       have := tdivN n 10
       rw [show ((10 : Nat) : Int) = 10 from rfl] at this
       rw [this]; exact w64_nat _ (by omega)
     have e2 : w64 ((48 : Int) + Int.tmod (n : Int) 10) = ((48 + n % 10 : Nat) : Int) := by
       have := tmodN n 10
       rw [show ((10 : Nat) : Int) = 10 from rfl] at this
       rw [this, w64_id (by omega) (by omega)]
       omega
     have hs : (decL (n / 10)).length ≤ 19 := decL_length (d := 18) (by omega)
     rw [spec_l6Dec.u]
     refine (cf (df (by omega))).trans ((cf (df (by omega))).trans ((cf (df (by omega))).trans ((ct rfl).trans ?_)))
     rw [e1, ih (n / 10) k hq (by omega) (by omega)]
     refine (ct rfl).trans ?_
     simp only [e2]
     refine (ct (dt (by rw [ba_size, ofBytes_size]; simp only [List.length_singleton]; omega))).trans ?_
     rw [ofBytes_one _ (by omega), ba_append, decL_ge h10]
     rfl
theorem spec_l6Dec.val {R : Type} (n : Nat) (hn : n < 9223372036854775808) (K : ByteArray → Option R) : spec_l6Dec.c 4194304 (n : Int) K = K (ba (decL n)) := spec_l6Dec.deep 18 n 4194304 (by omega) (by omega) hn K
theorem spec_l3Word.l4r_val {R : Type} (s : ByteArray) (hs : s.size ≤ 2097152) (K : ByteArray → ByteArray → Option R) : ∀ (d i n : Nat), i + d = s.size → d < n → (∀ c ∈ (tx s).take i, c ≠ 32) →
   spec_l3Word.l4r (spec_l3Word.g 4194304) 4194304 s (K s (ByteArray.mk #[])) (fun v w => K v w) n (i : Int) = K (ba (wordL (tx s)).1) (ba (wordL (tx s)).2) := by
 have hl := tx_length s
 intro d
 induction d with
 | zero =>
   intro i n h1 h2 h3
   obtain ⟨n, rfl⟩ := Nat.exists_eq_succ_of_ne_zero (n := n) (by omega)
   rw [List.take_of_length_le (by omega)] at h3
   rw [spec_l3Word.l4r_u, wordL_none h3]
   exact cf (df (by omega))
 | succ d ih =>
   intro i n h1 h2 h3
   obtain ⟨n, rfl⟩ := Nat.exists_eq_succ_of_ne_zero (n := n) (by omega)
   have hi : i < s.size := by omega
   have hlt : i < (tx s).length := by omega
   rw [spec_l3Word.l4r_u, Int.toNat_natCast, byteAt_tx, getD_at hlt, w64_p1 i (by omega), Int.toNat_natCast]
   refine (ct (dt (by omega))).trans ((ct (gd hi)).trans ?_)
   by_cases hc : (tx s)[i] = 32
   · refine (ct (by rw [hc]; rfl)).trans ((ct (by simp; omega)).trans ((ct (by simp; omega)).trans ?_))
     have e : tx s = (tx s).take i ++ 32 :: (tx s).drop (i + 1) := by
       have := List.take_append_drop i (tx s)
       rw [List.drop_eq_getElem_cons hlt, hc] at this
       exact this.symm
     have ew : wordL (tx s) = ((tx s).take i, (tx s).drop (i + 1)) := by
       conv => lhs; rw [e]
       rw [wordL_hit h3]
     rw [ew]
     have e1 : s.extract 0 i = ba ((tx s).take i) := by apply tx_inj; rw [tx_extract0, tx_ba]
     have e2 : s.extract (i + 1) s.size = ba ((tx s).drop (i + 1)) := by apply tx_inj; rw [tx_extractEnd, tx_ba]
     simp only [e1, e2]
   · refine (cf (df (fun h => hc (UInt8.toNat_inj.1 (by have h0 : (32 : UInt8).toNat = 32 := rfl; omega))))).trans ?_
     refine ih (i + 1) n (by omega) (by omega) ?_
     rw [List.take_add_one, List.getElem?_eq_getElem hlt]
     intro c hm
     rcases List.mem_append.1 hm with hm | hm
     · exact h3 c hm
     · have : c = (tx s)[i] := by simpa using hm
       rw [this]; exact hc
theorem spec_l3Word.val {R : Type} (s : ByteArray) (hs : s.size ≤ 2097152) (K : ByteArray → ByteArray → Option R) : spec_l3Word.c 4194304 s K = K (ba (wordL (tx s)).1) (ba (wordL (tx s)).2) := by
 rw [spec_l3Word.u]
 exact spec_l3Word.l4r_val s hs K s.size 0 4194304 (by omega) (by omega) (by simp)
theorem spec_l3Dec.l4r_val {R : Type} (t : ByteArray) (ht : t.size ≤ 4) (x0 q : Int → Option R) : ∀ (d i n : Nat), i + d = t.size → d < n → (∀ c ∈ (tx t).take i, isDig c = true) →
   spec_l3Dec.l4r (spec_l3Dec.g 4194304) 4194304 t x0 q n ((valL ((tx t).take i) : Nat) : Int) (i : Int) = cond ((tx t).all isDig) (x0 ((valL (tx t) : Nat) : Int)) (q (-1)) := by
 have hl := tx_length t
 intro d
 induction d with
 | zero =>
   intro i n h1 h2 hd
   obtain ⟨n, rfl⟩ := Nat.exists_eq_succ_of_ne_zero (n := n) (by omega)
   rw [List.take_of_length_le (by omega)] at hd ⊢
   rw [spec_l3Dec.l4r_u, List.all_eq_true.2 hd]
   exact cf (df (by omega))
 | succ d ih =>
   intro i n h1 h2 hd
   obtain ⟨n, rfl⟩ := Nat.exists_eq_succ_of_ne_zero (n := n) (by omega)
   have hi : i < t.size := by omega
   have hlt : i < (tx t).length := by omega
   have hno : isDig (tx t)[i] = false → (tx t).all isDig = false := fun hb => by
     rw [List.all_eq_false]
     exact ⟨_, List.getElem_mem hlt, by rw [hb]; simp⟩
   rw [spec_l3Dec.l4r_u, Int.toNat_natCast, byteAt_tx, getD_at hlt, w64_p1 i (by omega)]
   refine (ct (dt (by omega))).trans ((ct (gd hi)).trans ?_)
   by_cases c1 : (((tx t)[i].toNat : Nat) : Int) < 48
   · refine (ct (dt c1)).trans ?_
     rw [hno (by simp [isDig]; omega), cond_false]
   · refine (cf (df c1)).trans ((ct (gd hi)).trans ?_)
     by_cases c2 : (57 : Int) < (((tx t)[i].toNat : Nat) : Int)
     · refine (ct (dt c2)).trans ?_
       rw [hno (by simp [isDig]; omega), cond_false]
     · refine (cf (df c2)).trans ((ct (gd hi)).trans ?_)
       have ht1 : (tx t).take (i + 1) = (tx t).take i ++ [(tx t)[i]] := by rw [List.take_add_one, List.getElem?_eq_getElem hlt]; rfl
       have hv : valL ((tx t).take i) < 10000 := valL_small hd (by rw [List.length_take]; omega)
       have e1 : w64 (w64 (((valL ((tx t).take i) : Nat) : Int) * 10) + w64 (w8 ((((tx t)[i].toNat : Nat) : Int) - 48))) = ((valL ((tx t).take (i + 1)) : Nat) : Int) := by
         rw [ht1, valL_snoc]
         generalize valL ((tx t).take i) = v at hv
         generalize (tx t)[i].toNat = c at c1 c2
         rw [w8_id (x := (c : Int) - 48) (by omega) (by omega), w64_id (x := (c : Int) - 48) (by omega) (by omega), w64_id (x := (v : Int) * 10) (by omega) (by omega), w64_id (by omega) (by omega)]
         omega
       simp only [e1]
       refine ih (i + 1) n (by omega) (by omega) ?_
       rw [ht1]
       intro c hc
       rcases List.mem_append.1 hc with hc | hc
       · exact hd c hc
       · rw [List.mem_singleton] at hc
         subst hc
         simp [isDig]; omega
theorem spec_l3Dec.val {R : Type} (t : ByteArray) (K : Int → Option R) : spec_l3Dec.c 4194304 t K = K (resNum (numL 4 (tx t))) := by
 have hl := tx_length t
 rw [spec_l3Dec.u]
 by_cases h0 : (t.size : Int) < 1
 · refine (ct (dt h0)).trans ?_
   rw [List.eq_nil_of_length_eq_zero (show (tx t).length = 0 by omega), numL_nil]
   rfl
 · refine (cf (df h0)).trans ?_
   by_cases h4 : (4 : Int) < (t.size : Int)
   · refine (ct (dt h4)).trans ?_
     unfold numL
     rw [if_neg (by omega)]
     rfl
   · refine (cf (df h4)).trans ?_
     refine (spec_l3Dec.l4r_val t (by omega) _ _ t.size 0 4194304 (by omega) (by omega) (by simp)).trans ?_
     cases hd : (tx t).all isDig with
     | false =>
       refine (cf rfl).trans ?_
       unfold numL
       rw [if_neg (fun h => by rw [hd] at h; cases h.2.1)]
       rfl
     | true =>
       refine (ct rfl).trans ?_
       have hv : valL (tx t) < 10000 := valL_small (List.all_eq_true.1 hd) (by omega)
       rw [spec_l6Dec.val _ (by omega)]
       by_cases h : decL (valL (tx t)) = tx t
       · refine (cf (by rw [dt (show ba (decL (valL (tx t))) = t by rw [h, ba_tx])]; rfl)).trans ?_
         unfold numL
         rw [if_pos ⟨by omega, hd, h⟩]
         rfl
       · refine (ct (by rw [df (fun e => h (by rw [← tx_ba (decL (valL (tx t))), e]))]; rfl)).trans ?_
         unfold numL
         rw [if_neg (fun h' => h h'.2.2)]
         rfl
theorem spec_l12Time.l4r_val {R : Type} (t i0 i1 i2 : Int) (h : L5) (m : L3) (b : L5) (hl : h.length ≤ 2097152) (x : List _ → Option R) : spec_l12Time.l4r (spec_l12Time.g 4194304) 4194304 t i0 i1 i2 0 0 0 h m b [] [] [] x 4194304 0 [] = x ([] ++ h.filter (fun e => decide (t < e.2.2.2.1))) := by
 refine fil_loop h nd (fun e => decide (t < e.2.2.2.1)) x (fun n i w => spec_l12Time.l4r (spec_l12Time.g 4194304) 4194304 t i0 i1 i2 0 0 0 h m b [] [] [] x n i w) 2097152 (fun n i w hi hb => ?_) (fun n w => ?_) 4194304 [] (by omega) (by simpa using hl)
 · show spec_l12Time.l4r (spec_l12Time.g 4194304) 4194304 t i0 i1 i2 0 0 0 h m b [] [] [] x (n + 1) (i : Int) w = cond (decide _) (spec_l12Time.l4r (spec_l12Time.g 4194304) 4194304 t i0 i1 i2 0 0 0 h m b [] [] [] x n ((i + 1 : Nat) : Int) _) (spec_l12Time.l4r (spec_l12Time.g 4194304) 4194304 t i0 i1 i2 0 0 0 h m b [] [] [] x n ((i + 1 : Nat) : Int) _)
   rw [spec_l12Time.l4r_u, w64_p1 i (by omega)]
   refine (ct (dt (by omega))).trans ((ct (gd hi)).trans ?_)
   rw [Int.toNat_natCast]
   refine cond_congr ?_ rfl
   exact (ct (gd hi)).trans ((ct (lim_le (by simp; omega))).trans rfl)
 · show spec_l12Time.l4r (spec_l12Time.g 4194304) 4194304 t i0 i1 i2 0 0 0 h m b [] [] [] x (n + 1) (h.length : Int) w = _
   rw [spec_l12Time.l4r_u]
   exact cf (df (by omega))
theorem spec_l12Time.l10r_val {R : Type} (t i0 i1 i2 : Int) (h : L5) (m : L3) (b : L5) (u : L5) (hl : m.length ≤ 2097152) (x : List _ → Option R) : spec_l12Time.l10r (spec_l12Time.g 4194304) 4194304 t i0 i1 i2 0 0 0 u h m b [] [] [] x 4194304 0 [] = x ([] ++ m.filter (fun e => decide (t < e.2.2))) := by
 refine fil_loop m md (fun e => decide (t < e.2.2)) x (fun n i w => spec_l12Time.l10r (spec_l12Time.g 4194304) 4194304 t i0 i1 i2 0 0 0 u h m b [] [] [] x n i w) 2097152 (fun n i w hi hb => ?_) (fun n w => ?_) 4194304 [] (by omega) (by simpa using hl)
 · show spec_l12Time.l10r (spec_l12Time.g 4194304) 4194304 t i0 i1 i2 0 0 0 u h m b [] [] [] x (n + 1) (i : Int) w = cond (decide _) (spec_l12Time.l10r (spec_l12Time.g 4194304) 4194304 t i0 i1 i2 0 0 0 u h m b [] [] [] x n ((i + 1 : Nat) : Int) _) (spec_l12Time.l10r (spec_l12Time.g 4194304) 4194304 t i0 i1 i2 0 0 0 u h m b [] [] [] x n ((i + 1 : Nat) : Int) _)
   rw [spec_l12Time.l10r_u, w64_p1 i (by omega)]
   refine (ct (dt (by omega))).trans ((ct (gd hi)).trans ?_)
   rw [Int.toNat_natCast]
   refine cond_congr ?_ rfl
   exact (ct (gd hi)).trans ((ct (lim_le (by simp; omega))).trans rfl)
 · show spec_l12Time.l10r (spec_l12Time.g 4194304) 4194304 t i0 i1 i2 0 0 0 u h m b [] [] [] x (n + 1) (m.length : Int) w = _
   rw [spec_l12Time.l10r_u]
   exact cf (df (by omega))
theorem spec_l12Time.val {R : Type} (t i0 i1 i2 : Int) (h : L5) (m : L3) (b : L5) (hh : h.length ≤ 2097152) (hm : m.length ≤ 2097152) (K : Int → Int → Int → L5 → L3 → L5 → Option R) : spec_l12Time.c 4194304 i0 i1 i2 h m b t K = K i0 t i2 (h.filter (fun e => decide (t < e.2.2.2.1))) (m.filter (fun e => decide (t < e.2.2))) b := by
 rw [spec_l12Time.u, spec_l12Time.l4r_val t i0 i1 i2 h m b hh, List.nil_append, spec_l12Time.l10r_val t i0 i1 i2 h m b _ hm, List.nil_append]
theorem spec_NoteWrite.val {R : Type} (a b c d : Int) (t : ByteArray) (K : ByteArray → Option R) : spec_NoteWrite.c 4194304 a b c d t K = K (nwB a b c d t) := by
 rw [spec_NoteWrite.u, spec_NoteOk.val]
 unfold nwB
 cases ho : ntOk a b c d t with
 | false => exact ct rfl
 | true =>
   obtain ⟨h1, h2, h3, h4, h5, _⟩ := ntOk_some ho
   obtain ⟨a', rfl⟩ := Int.eq_ofNat_of_zero_le h1.1
   obtain ⟨b', rfl⟩ := Int.eq_ofNat_of_zero_le (show 0 ≤ b by omega)
   obtain ⟨c', rfl⟩ := Int.eq_ofNat_of_zero_le h3.1
   obtain ⟨d', rfl⟩ := Int.eq_ofNat_of_zero_le (show 0 ≤ d by omega)
   have hs : (ByteArray.mk #[32]).size = 1 := rfl
   have e1 := decL_length (n := a') (d := 0) (by omega)
   have e2 := decL_length (n := b') (d := 1) (by omega)
   have e3 := decL_length (n := c') (d := 0) (by omega)
   have e4 := decL_length (n := d') (d := 2) (by omega)
   have b1 := ba_size (decL a')
   have b2 := ba_size (decL b')
   have b3 := ba_size (decL c')
   have b4 := ba_size (decL d')
   refine (cf rfl).trans ?_
   rw [spec_l6Dec.val _ (by omega)]
   refine (ct (dt (by omega))).trans ?_
   rw [spec_l6Dec.val _ (by omega)]
   refine (ct (dt (by simp only [sz_append]; omega))).trans ((ct (dt (by simp only [sz_append]; omega))).trans ?_)
   simp only []
   rw [spec_l6Dec.val _ (by omega)]
   refine (ct (dt (by simp only [sz_append]; omega))).trans ((ct (dt (by simp only [sz_append]; omega))).trans ?_)
   rw [spec_l6Dec.val _ (by omega)]
   refine (ct (dt (by simp only [sz_append]; omega))).trans ((ct (dt (by simp only [sz_append]; omega))).trans ?_)
   refine (ct (dt (by simp only [sz_append]; omega))).trans ?_
   refine congrArg K ?_
   apply tx_inj
   rw [cond_true, tx_ba]
   simp only [tx_append, tx_ba, ntL, Int.toNat_natCast]
   rfl
theorem wordL_len : ∀ l : List UInt8, (wordL l).2.length ≤ l.length
 | [] => Nat.le_refl _
 | c :: l => by
   have := wordL_len l
   unfold wordL
   split
   · simp
   · simp only [List.length_cons]; omega
theorem spec_l3Nums.step {R : Type} (s : ByteArray) (hs : s.size ≤ 2097152) (i : Nat) (hi : i < 4) (w : List Int) (hw : w.length ≤ 100) (x : ByteArray → List Int → Option R) (n : Nat) :
   spec_l3Nums.l4r (spec_l3Nums.g 4194304) 4194304 4 x (n + 1) s (i : Int) w = spec_l3Nums.l4r (spec_l3Nums.g 4194304) 4194304 4 x n (ba (wordL (tx s)).2) ((i + 1 : Nat) : Int) (w ++ [numW (wordL (tx s)).1]) := by
 rw [spec_l3Nums.l4r_u, w64_p1 i (by omega)]
 refine (ct (dt (by omega))).trans ?_
 rw [spec_l3Word.val s hs, spec_l3Dec.val, tx_ba]
 exact ct (lim_le (by simp; omega))
theorem spec_l3Nums.val {R : Type} (s : ByteArray) (hs : s.size ≤ 2097152) (K : List Int → ByteArray → Option R) : spec_l3Nums.c 4194304 s 4 K =
   K [numW (wordL (tx s)).1, numW (wordL (wordL (tx s)).2).1, numW (wordL (wordL (wordL (tx s)).2).2).1, numW (wordL (wordL (wordL (wordL (tx s)).2).2).2).1] (ba (wordL (wordL (wordL (wordL (tx s)).2).2).2).2) := by
 have hl := tx_length s
 have b1 := wordL_len (tx s)
 have b2 := wordL_len (wordL (tx s)).2
 have b3 := wordL_len (wordL (wordL (tx s)).2).2
 rw [spec_l3Nums.u]
 refine (spec_l3Nums.step s hs 0 (by omega) [] (by simp) _ 4194303).trans ?_
 refine (spec_l3Nums.step _ (by rw [ba_size]; omega) 1 (by omega) _ (by simp) _ 4194302).trans ?_
 refine (spec_l3Nums.step _ (by rw [ba_size]; rw [tx_ba]; omega) 2 (by omega) _ (by simp) _ 4194301).trans ?_
 refine (spec_l3Nums.step _ (by rw [ba_size]; rw [tx_ba, tx_ba]; omega) 3 (by omega) _ (by simp) _ 4194300).trans ?_
 refine (spec_l3Nums.l4r_u 4194304 4 _ 4194299 _ _ _).trans ?_
 refine (cf (df (by omega))).trans ?_
 simp only [tx_ba]
 rfl
theorem spec_l3Nums.step3 {R : Type} (s : ByteArray) (hs : s.size ≤ 2097152) (i : Nat) (hi : i < 3) (w : List Int) (hw : w.length ≤ 100) (x : ByteArray → List Int → Option R) (n : Nat) :
   spec_l3Nums.l4r (spec_l3Nums.g 4194304) 4194304 3 x (n + 1) s (i : Int) w = spec_l3Nums.l4r (spec_l3Nums.g 4194304) 4194304 3 x n (ba (wordL (tx s)).2) ((i + 1 : Nat) : Int) (w ++ [numW (wordL (tx s)).1]) := by
 rw [spec_l3Nums.l4r_u, w64_p1 i (by omega)]
 refine (ct (dt (by omega))).trans ?_
 rw [spec_l3Word.val s hs, spec_l3Dec.val, tx_ba]
 exact ct (lim_le (by simp; omega))
theorem spec_l3Nums.val3 {R : Type} (s : ByteArray) (hs : s.size ≤ 2097152) (K : List Int → ByteArray → Option R) : spec_l3Nums.c 4194304 s 3 K =
   K [numW (wordL (tx s)).1, numW (wordL (wordL (tx s)).2).1, numW (wordL (wordL (wordL (tx s)).2).2).1] (ba (wordL (wordL (wordL (tx s)).2).2).2) := by
 have hl := tx_length s
 have b1 := wordL_len (tx s)
 have b2 := wordL_len (wordL (tx s)).2
 rw [spec_l3Nums.u]
 refine (spec_l3Nums.step3 s hs 0 (by omega) [] (by simp) _ 4194303).trans ?_
 refine (spec_l3Nums.step3 _ (by rw [ba_size]; omega) 1 (by omega) _ (by simp) _ 4194302).trans ?_
 refine (spec_l3Nums.step3 _ (by rw [ba_size]; rw [tx_ba]; omega) 2 (by omega) _ (by simp) _ 4194301).trans ?_
 refine (spec_l3Nums.l4r_u 4194304 3 _ 4194300 _ _ _).trans ?_
 refine (cf (df (by omega))).trans ?_
 simp only [tx_ba]
 rfl
theorem spec_NoteRead.val {R : Type} (s : ByteArray) (hs : s.size ≤ 2097152) (K : Int → Int → Int → Int → ByteArray → Bool → Option R) : spec_NoteRead.c 4194304 s K = K (specR s).1 (specR s).2.1 (specR s).2.2.1 (specR s).2.2.2.1 (specR s).2.2.2.2.1 (specR s).2.2.2.2.2 := by
 rw [spec_NoteRead.u, spec_l3Nums.val s hs]
 unfold specR
 dsimp only
 generalize numW _ = a
 generalize numW _ = b
 generalize numW _ = c
 generalize numW _ = d
 generalize ba _ = t
 refine (ct rfl).trans ((ct rfl).trans ((ct rfl).trans ((ct rfl).trans ?_)))
 by_cases h0 : s = ByteArray.mk #[]
 · refine (ct (dt h0)).trans ?_
   rw [dt h0]
   rfl
 · refine (cf (df h0)).trans ?_
   rw [df h0, cond_false, spec_NoteWrite.val]
   show cond (!decide (nwB a b c d t = s)) _ _ = _
   by_cases h1 : nwB a b c d t = s
   · refine (cf (by rw [dt h1]; rfl)).trans ?_
     rw [dt h1]
     rfl
   · refine (ct (by rw [df h1]; rfl)).trans ?_
     rw [df h1]
     rfl
theorem spec_l12PutNote.l4r_val {R : Type} (l : L5) (hl : l.length ≤ 1000) (b c d e : Int) (t : ByteArray) (x : Bool → L5 → Option R) : ∃ z u, spec_l12PutNote.l4r (spec_l12PutNote.g 4194304) 4194304 l b c d e t x 4194304 false 0 [] = x z u ∧ u ++ cond z [] [(b, c, d, e, t)] = [] ++ inN (b, c, d, e, t) l := by
 refine put_loop l nd (fun y => lessB b c y.1 y.2.1) (b, c, d, e, t) x (fun n z i w => spec_l12PutNote.l4r (spec_l12PutNote.g 4194304) 4194304 l b c d e t x n z i w) 2000 (fun n i w z hi hb => ?_) trivial (fun n z w => ?_) 4194304 [] (by omega) (by show 0 + l.length + 2 ≤ 2000; omega)
 · show spec_l12PutNote.l4r (spec_l12PutNote.g 4194304) 4194304 l b c d e t x (n + 1) z (i : Int) w = cond (!z && lessB _ _ _ _) (spec_l12PutNote.l4r (spec_l12PutNote.g 4194304) 4194304 l b c d e t x n true ((i + 1 : Nat) : Int) _) (spec_l12PutNote.l4r (spec_l12PutNote.g 4194304) 4194304 l b c d e t x n z ((i + 1 : Nat) : Int) _)
   rw [spec_l12PutNote.l4r_u, w64_p1 i (by omega)]
   refine (ct (dt (by omega))).trans ?_
   simp only [Int.toNat_natCast, gd hi, cond_true]
   cases z with
   | true => exact (ct (lim_le (by simp; omega))).trans rfl
   | false =>
     refine (spec_l12Less.val _ _ _ _ _).trans ?_
     generalize lessB _ _ _ _ = z2
     cases z2 with
     | true => exact (ct (lim_le (by simp; omega))).trans ((ct (lim_le (by simp; omega))).trans rfl)
     | false => exact (ct (lim_le (by simp; omega))).trans rfl
 · show spec_l12PutNote.l4r (spec_l12PutNote.g 4194304) 4194304 l b c d e t x (n + 1) z (l.length : Int) w = _
   rw [spec_l12PutNote.l4r_u]
   exact cf (df (by omega))
theorem spec_l12PutNote.val {R : Type} (l : L5) (hl : l.length ≤ 1000) (b c d e : Int) (t : ByteArray) (K : L5 → Option R) : spec_l12PutNote.c 4194304 l b c d e t K = K (inN (b, c, d, e, t) l) := by
 rw [spec_l12PutNote.u]
 obtain ⟨z, u, q1, q2⟩ := spec_l12PutNote.l4r_val l hl b c d e t _
 refine q1.trans ?_
 rw [List.nil_append] at q2
 have hu : u.length ≤ 1001 := by
   have := congrArg List.length q2
   rw [List.length_append, inN, ins_length] at this
   omega
 cases z with
 | true => rw [cond_true, List.append_nil] at q2; rw [← q2]; rfl
 | false => rw [cond_false] at q2; rw [← q2]; exact ct (lim_le (by simp; omega))
theorem spec_l12PutMark.l4r_val {R : Type} (l : L3) (hl : l.length ≤ 1000) (b c d : Int) (x : Bool → L3 → Option R) : ∃ z u, spec_l12PutMark.l4r (spec_l12PutMark.g 4194304) 4194304 l b c d x 4194304 false 0 [] = x z u ∧ u ++ cond z [] [(b, c, d)] = [] ++ inM (b, c, d) l := by
 refine put_loop l md (fun y => lessB b c y.1 y.2.1) (b, c, d) x (fun n z i w => spec_l12PutMark.l4r (spec_l12PutMark.g 4194304) 4194304 l b c d x n z i w) 2000 (fun n i w z hi hb => ?_) trivial (fun n z w => ?_) 4194304 [] (by omega) (by show 0 + l.length + 2 ≤ 2000; omega)
 · show spec_l12PutMark.l4r (spec_l12PutMark.g 4194304) 4194304 l b c d x (n + 1) z (i : Int) w = cond (!z && lessB _ _ _ _) (spec_l12PutMark.l4r (spec_l12PutMark.g 4194304) 4194304 l b c d x n true ((i + 1 : Nat) : Int) _) (spec_l12PutMark.l4r (spec_l12PutMark.g 4194304) 4194304 l b c d x n z ((i + 1 : Nat) : Int) _)
   rw [spec_l12PutMark.l4r_u, w64_p1 i (by omega)]
   refine (ct (dt (by omega))).trans ?_
   simp only [Int.toNat_natCast, gd hi, cond_true]
   cases z with
   | true => exact (ct (lim_le (by simp; omega))).trans rfl
   | false =>
     refine (spec_l12Less.val _ _ _ _ _).trans ?_
     generalize lessB _ _ _ _ = z2
     cases z2 with
     | true => exact (ct (lim_le (by simp; omega))).trans ((ct (lim_le (by simp; omega))).trans rfl)
     | false => exact (ct (lim_le (by simp; omega))).trans rfl
 · show spec_l12PutMark.l4r (spec_l12PutMark.g 4194304) 4194304 l b c d x (n + 1) z (l.length : Int) w = _
   rw [spec_l12PutMark.l4r_u]
   exact cf (df (by omega))
theorem spec_l12PutMark.val {R : Type} (l : L3) (hl : l.length ≤ 1000) (b c d : Int) (K : L3 → Option R) : spec_l12PutMark.c 4194304 l b c d K = K (inM (b, c, d) l) := by
 rw [spec_l12PutMark.u]
 obtain ⟨z, u, q1, q2⟩ := spec_l12PutMark.l4r_val l hl b c d _
 refine q1.trans ?_
 rw [List.nil_append] at q2
 have hu : u.length ≤ 1001 := by
   have := congrArg List.length q2
   rw [List.length_append, inM, ins_length] at this
   omega
 cases z with
 | true => rw [cond_true, List.append_nil] at q2; rw [← q2]; rfl
 | false => rw [cond_false] at q2; rw [← q2]; exact ct (lim_le (by simp; omega))
theorem spec_l12Held.val {R : Type} (l : L5) (hl : l.length ≤ 2097152) (fr nu : Int) (K : Int → Option R) : spec_l12Held.c 4194304 l fr nu K = K (ixL (isN fr nu) l 0) := by
 rw [spec_l12Held.u]
 refine ix_loop l nd (isN fr nu) K (fun n i => spec_l12Held.l4r (spec_l12Held.g 4194304) 4194304 fr nu l (K (-1)) (fun v => K v) n i) (fun n i hi => ?_) (fun n => ?_) 4194304 (by omega)
 · show spec_l12Held.l4r (spec_l12Held.g 4194304) 4194304 fr nu l (K (-1)) (fun v => K v) (n + 1) (i : Int) = cond (decide _ && decide _) (K (i : Int)) (spec_l12Held.l4r (spec_l12Held.g 4194304) 4194304 fr nu l (K (-1)) (fun v => K v) n ((i + 1 : Nat) : Int))
   rw [spec_l12Held.l4r_u, w64_p1 i (by omega)]
   refine (ct (dt (by omega))).trans ((ct (gd hi)).trans ?_)
   rw [Int.toNat_natCast]
   show cond (decide (_ = fr)) _ _ = _
   generalize decide ((l.getD i nd).1 = fr) = c1
   cases c1 with
   | false => rfl
   | true =>
     rw [cond_true, Bool.true_and]
     exact (ct (gd hi)).trans rfl
 · show spec_l12Held.l4r (spec_l12Held.g 4194304) 4194304 fr nu l (K (-1)) (fun v => K v) (n + 1) (l.length : Int) = _
   rw [spec_l12Held.l4r_u]
   exact cf (df (by omega))
theorem spec_l12Fresh.val {R : Type} (id now next : Int) (h : L5) (m : L3) (b : L5) (hh : h.length ≤ 1000) (hm : m.length ≤ 1000) (hb : b.length ≤ 1000) (fr nu dst un : Int) (t : ByteArray) (K : Bool → Option R) :
   spec_l12Fresh.c 4194304 id now next h m b fr nu dst un t K = K (newB now h m b fr nu dst un t) := by
 rw [spec_l12Fresh.u, spec_NoteOk.val]
 unfold newB
 cases ntOk fr nu dst un t with
 | false => rfl
 | true =>
   rw [cond_true, Bool.true_and]
   cases decide (now < un) with
   | false => rfl
   | true =>
     rw [cond_true, Bool.true_and, spec_l12Held.val h (by omega)]
     cases hn1 : h.any (isN fr nu) with
     | true => rw [df (show ¬(ixL (isN fr nu) h 0 < 0) by rw [ixL_neg, hn1]; simp)]; rfl
     | false =>
       rw [dt ((ixL_neg (isN fr nu) h 0).2 hn1), cond_true, Bool.not_false, Bool.true_and]
       obtain ⟨r, q1, q2⟩ := spec_l12Mark.tot m (by omega) fr nu
       rw [q2]
       cases hn3 : hasM m fr nu with
       | true => rw [df (show ¬(r < 0) by have := q1.2 hn3; omega), cond_false, Bool.not_true, Bool.and_false]
       | false =>
         have hr : r < 0 := by
           by_cases h0 : 0 ≤ r
           · rw [q1.1 h0] at hn3; cases hn3
           · omega
         rw [dt hr, cond_true, spec_l12Held.val b (by omega), Bool.not_false, Bool.and_true]
         congr 1
         rw [Bool.eq_iff_iff, decide_eq_true_iff, ixL_neg]
         simp
theorem spec_l12Take.tot (id now next : Int) (h : L5) (m : L3) (b : L5) (hh : h.length ≤ 900) (hm : m.length ≤ 900) (hb : b.length ≤ 900) (fr nu dst un : Int) (t : ByteArray) : ∃ (x0 x1 x2 : Int) (x3 : L5) (x4 : L3) (x5 : L5), ∀ {R : Type} (K : Int → Int → Int → L5 → L3 → L5 → Bool → Option R),
   spec_l12Take.c 4194304 id now next h m b fr nu dst un t K = cond (accB now h m b fr nu dst un t) (cond (decide (dst = id)) (K id now next h (inM (fr, nu, un) m) (inN (fr, nu, dst, un, t) b) true) (K id now next (inN (fr, nu, dst, un, t) h) m b true)) (K x0 x1 x2 x3 x4 x5 false) := by
 have ea : accB now h m b fr nu dst un t = (newB now h m b fr nu dst un t && decide (h.length + m.length + 1 ≤ 12)) := by
   unfold accB newB
   simp only [Bool.and_assoc]
 rw [ea]
 cases hf : newB now h m b fr nu dst un t with
 | false => exact ⟨id, now, next, h, m, b, fun K => by rw [spec_l12Take.u, spec_l12Fresh.val id now next h m b (by omega) (by omega) (by omega), hf]; rfl⟩
 | true =>
   rw [Bool.true_and]
   by_cases hd : dst = id
   · refine ⟨id, now, next, h, inM (fr, nu, un) m, inN (fr, nu, dst, un, t) b, fun K => ?_⟩
     rw [spec_l12Take.u, spec_l12Fresh.val id now next h m b (by omega) (by omega) (by omega), hf, Bool.not_true, cond_false, dt hd, Bool.not_true, cond_false, spec_l12PutNote.val b (by omega), spec_l12PutMark.val m (by omega)]
     show K _ _ _ _ _ _ (decide (w64 ((h.length : Int) + ((inM (fr, nu, un) m).length : Int)) ≤ 12)) = _
     rw [inM, ins_length, w64_pn _ _ (by omega), cond_true]
     by_cases h2 : h.length + m.length + 1 ≤ 12
     · rw [dt h2, dt (by omega)]; rfl
     · rw [df h2, df (show ¬((((h.length + (m.length + 1) : Nat)) : Int) ≤ 12) by omega)]; rfl
   · refine ⟨id, now, next, inN (fr, nu, dst, un, t) h, m, b, fun K => ?_⟩
     rw [spec_l12Take.u, spec_l12Fresh.val id now next h m b (by omega) (by omega) (by omega), hf, Bool.not_true, cond_false, df hd, Bool.not_false, cond_true, spec_l12PutNote.val h (by omega)]
     show K _ _ _ _ _ _ (decide (w64 (((inN (fr, nu, dst, un, t) h).length : Int) + (m.length : Int)) ≤ 12)) = _
     rw [inN, ins_length, w64_pn _ _ (by omega), cond_false]
     by_cases h2 : h.length + m.length + 1 ≤ 12
     · rw [dt h2, dt (by omega)]; rfl
     · rw [df h2, df (show ¬((((h.length + 1 + m.length : Nat)) : Int) ≤ 12) by omega)]; rfl
theorem spec_l12Let.hit {R : Type} (id now next : Int) (h : L5) (m : L3) (b : L5) (hh : h.length ≤ 1000) (hm : m.length ≤ 1000) (hb : b.length ≤ 1000) (fr nu : Int) (i : Nat) (hi : i < h.length) (hx : ixL (isN fr nu) h 0 = (i : Int)) (K : Int → Int → Int → L5 → L3 → L5 → Bool → Option R) :
   spec_l12Let.c 4194304 id now next h m b fr nu K = K id now next (h.take i ++ h.drop (i + 1)) (inM (fr, nu, (h.getD i nd).2.2.2.1) m) b true := by
 rw [spec_l12Let.u, spec_l12Held.val h (by omega), hx, df (show ¬((i : Int) < 0) by omega), cond_false, w64_p1 i (by omega)]
 have p1 : part (cs := [.int .i64, .int .i64, .int .i64, .int .i64, .str]) h 0 (i : Int).toNat = h.take i := by rw [Int.toNat_natCast]; rfl
 have p2 : part (cs := [.int .i64, .int .i64, .int .i64, .int .i64, .str]) h (((i + 1 : Nat) : Int).toNat) (h.length - ((i + 1 : Nat) : Int).toNat) = h.drop (i + 1) := by rw [Int.toNat_natCast]; exact List.take_of_length_le (by simp)
 have g1 : (decide (0 ≤ (i : Int)) && decide ((i : Int) ≤ (h.length : Int))) = true := by simp; omega
 have g2 : (decide (0 ≤ ((i + 1 : Nat) : Int)) && decide (((i + 1 : Nat) : Int) ≤ (h.length : Int))) = true := by simp; omega
 have z1 : (h.take i).length ≤ 1000 := by simp; omega
 have z2 : (h.drop (i + 1)).length ≤ 1000 := by simp; omega
 rw [p1, p2]
 refine (ct (gd hi)).trans ((ct g1).trans ((ct (lim_le (by simp; omega))).trans ((ct g2).trans ((ct (lim_le (by simp; omega))).trans ?_))))
 show spec_l12PutMark.c 4194304 m fr nu (h.getD ((i : Int).toNat) nd).2.2.2.1 _ = _
 rw [Int.toNat_natCast, spec_l12PutMark.val m hm]
 rfl
theorem spec_l12Eat.hit {R : Type} (id now next : Int) (h : L5) (m : L3) (b : L5) (hh : h.length ≤ 1000) (hm : m.length ≤ 1000) (hb : b.length ≤ 1000) (fr nu : Int) (i : Nat) (hi : i < b.length) (hx : ixL (isN fr nu) b 0 = (i : Int)) (K : Int → Int → Int → L5 → L3 → L5 → Bool → Option R) :
   spec_l12Eat.c 4194304 id now next h m b fr nu K = K id now next h m (b.take i ++ b.drop (i + 1)) true := by
 rw [spec_l12Eat.u, spec_l12Held.val b (by omega), hx, df (show ¬((i : Int) < 0) by omega), cond_false, w64_p1 i (by omega)]
 have p1 : part (cs := [.int .i64, .int .i64, .int .i64, .int .i64, .str]) b 0 (i : Int).toNat = b.take i := by rw [Int.toNat_natCast]; rfl
 have p2 : part (cs := [.int .i64, .int .i64, .int .i64, .int .i64, .str]) b (((i + 1 : Nat) : Int).toNat) (b.length - ((i + 1 : Nat) : Int).toNat) = b.drop (i + 1) := by rw [Int.toNat_natCast]; exact List.take_of_length_le (by simp)
 have g1 : (decide (0 ≤ (i : Int)) && decide ((i : Int) ≤ (b.length : Int))) = true := by simp; omega
 have g2 : (decide (0 ≤ ((i + 1 : Nat) : Int)) && decide (((i + 1 : Nat) : Int) ≤ (b.length : Int))) = true := by simp; omega
 have z1 : (b.take i).length ≤ 1000 := by simp; omega
 have z2 : (b.drop (i + 1)).length ≤ 1000 := by simp; omega
 rw [p1, p2]
 refine ((ct g1).trans ((ct (lim_le (by simp; omega))).trans ((ct g2).trans ((ct (lim_le (by simp; omega))).trans ?_))))
 skip
 skip
 rfl
theorem numW_rng (l : List UInt8) : (numW l = -1 ∨ (0 ≤ numW l ∧ numW l ≤ 9999)) ∧ (decI (numW l)).size ≤ 4 := by
 rcases resNum_cases l with ⟨_, e⟩ | ⟨n, e1, e2, e3⟩
 · rw [e]
   exact ⟨.inl rfl, by decide⟩
 · rw [e3, decI_nat, ba_size]
   rw [e1] at e2
   have h1 := valL_small (decL_dig n) e2
   rw [valL_dec] at h1
   exact ⟨.inr ⟨by omega, by omega⟩, e2⟩
theorem spec_l6Dec.neg {R : Type} (k : Nat) (K : ByteArray → Option R) : spec_l6Dec.c (k + 1 + 1) (-1) K = K (ByteArray.mk #[45, 49]) := by
 rw [spec_l6Dec.u]
 refine (cf (df (by omega))).trans ((ct (dt (by omega))).trans ?_)
 rw [show w64 (0 - (-1)) = ((1 : Nat) : Int) from w64_id (x := 0 - (-1)) (by omega) (by omega), spec_l6Dec.small 1 k (by omega)]
 refine (ct (dt (by rw [ba_size, decL_lt (by omega)]; decide))).trans ?_
 rw [decL_lt (by omega)]
 rfl
theorem spec_l6Dec.num {R : Type} (x : Int) (h : x = -1 ∨ (0 ≤ x ∧ x ≤ 9999)) (K : ByteArray → Option R) : spec_l6Dec.c 4194304 x K = K (decI x) := by
 rcases h with rfl | ⟨h0, h1⟩
 · exact spec_l6Dec.neg 4194302 K
 · obtain ⟨n, rfl⟩ := Int.eq_ofNat_of_zero_le h0
   rw [spec_l6Dec.val n (by omega), decI_nat]
set_option maxHeartbeats 4000000 in
theorem spec_l12Rec.val {R : Type} (id now next : Int) (h : L5) (m : L3) (b : L5) (hh : h.length ≤ 900) (hm : m.length ≤ 900) (hb : b.length ≤ 900) (s : ByteArray) (hs : s.size ≤ 2097152) (K : Int → Int → Int → L5 → L3 → L5 → Bool → Option R) (N : Option R) (hN : ∀ i n x h m b, K i n x h m b false = N) :
   spec_l12Rec.c 4194304 id now next h m b s K = recK (ba (wordL (tx s)).1) (numW (wordL (tx s)).2, true) (specR (ba (wordL (tx s)).2)) (t3S (ba (wordL (tx s)).2)) id now next h m b (fun i n x h m b => K i n x h m b true) N := by
 have hl := tx_length s
 have hr : (ba (wordL (tx s)).2).size ≤ 2097152 := by
   rw [ba_size]
   have := wordL_len (tx s)
   omega
 rw [spec_l12Rec.u, spec_l3Word.val s hs]
 have hn : numW (wordL (tx s)).2 = numW (tx (ba (wordL (tx s)).2)) := by rw [tx_ba]
 rw [hn]
 have ht := specR_small (ba (wordL (tx s)).2)
 generalize ba (wordL (tx s)).2 = r at hr ht ⊢
 generalize ba (wordL (tx s)).1 = W
 obtain ⟨tn, h1, h2, htn⟩ : ∃ tn : Int × Bool, numW (tx r) = tn.1 ∧ tn.2 = true ∧ (numW (tx r), true) = tn := ⟨(numW (tx r), true), rfl, rfl, rfl⟩
 rw [htn]
 rcases wd_cases W with hW | hW | hW | hW | hW | hW | hR
 · rw [hW, recK_time]
   obtain ⟨e1, e2, e3, e4, e5, e6, e7, e8, e9⟩ := wd_time
   refine (ct e1).trans ?_
   rw [spec_l3Dec.val, show resNum (numL 4 (tx r)) = tn.1 from h1, h2, cond_true]
   generalize tn.1 = n
   by_cases hn : n ≤ now
   · rw [dt hn, df (show ¬(now < n) by omega), cond_true, cond_false, hN]
   · rw [df hn, dt (show now < n by omega), cond_false, cond_true]
     rw [spec_l12Time.val n id now next h m b (by omega) (by omega)]
 · rw [hW, recK_next]
   obtain ⟨e1, e2, e3, e4, e5, e6, e7, e8, e9⟩ := wd_next
   refine (cf e1).trans ((cf e3).trans ((cf e4).trans ((ct e2).trans ?_)))
   rw [spec_l3Dec.val, show resNum (numL 4 (tx r)) = tn.1 from h1, h2, cond_true]
   generalize tn.1 = n
   by_cases hn : n ≤ next
   · rw [dt hn, df (show ¬(next < n) by omega), cond_true, cond_false, hN]
   · rw [df hn, dt (show next < n by omega), cond_false, cond_true]
 · rw [hW, recK_own]
   obtain ⟨e1, e2, e3, e4, e5, e6, e7, e8, e9⟩ := wd_own
   simp only [e1, e2, e3, e4, e5, e6, e7, e8, e9, decide_true, cond_true, cond_false]
   rw [spec_NoteRead.val r hr]
   generalize specR r = nr at ht ⊢
   cases nr.2.2.2.2.2 with
   | false => exact hN _ _ _ _ _ _
   | true =>
     rw [Bool.not_true, cond_false, cond_true]
     cases decide (nr.1 = id) with
     | false => exact hN _ _ _ _ _ _
     | true =>
       rw [Bool.not_true, cond_false, cond_true]
       cases decide (nr.2.1 = next) with
       | false => exact hN _ _ _ _ _ _
       | true =>
         obtain ⟨x0, x1, x2, x3, x4, x5, q⟩ := spec_l12Take.tot id now (w64 (next + 1)) h m b (by omega) (by omega) (by omega) nr.1 nr.2.1 nr.2.2.1 nr.2.2.2.1 nr.2.2.2.2.1
         rw [Bool.not_true, cond_false, cond_true, q, hN]
 · rw [hW, recK_take]
   obtain ⟨e1, e2, e3, e4, e5, e6, e7, e8, e9⟩ := wd_take
   simp only [e1, e2, e3, e4, e5, e6, e7, e8, e9, decide_true, cond_true, cond_false]
   rw [spec_NoteRead.val r hr]
   generalize specR r = nr at ht ⊢
   cases nr.2.2.2.2.2 with
   | false => exact hN _ _ _ _ _ _
   | true =>
     rw [Bool.not_true, cond_false, cond_true]
     cases decide (nr.1 = id) with
     | true => exact hN _ _ _ _ _ _
     | false =>
       obtain ⟨x0, x1, x2, x3, x4, x5, q⟩ := spec_l12Take.tot id now next h m b (by omega) (by omega) (by omega) nr.1 nr.2.1 nr.2.2.1 nr.2.2.2.1 nr.2.2.2.2.1
       rw [cond_false, cond_false, q, hN]
 · rw [hW, recK_held]
   obtain ⟨e1, e2, e3, e4, e5, e6, e7, e8, e9⟩ := wd_held
   simp only [e1, e2, e3, e4, e5, e6, e7, e8, e9, decide_true, cond_true, cond_false]
   rw [spec_NoteRead.val r hr]
   generalize specR r = nr at ht ⊢
   cases nr.2.2.2.2.2 with
   | false => exact hN _ _ _ _ _ _
   | true =>
     rw [Bool.not_true, cond_false, cond_true]
     rw [spec_l12Held.val h (by omega)]
     cases ha : h.any (isN nr.1 nr.2.1) with
     | true =>
       obtain ⟨i, _, q, _⟩ := ixL_hit (isN nr.1 nr.2.1) nd h 0 ha
       rw [dt (show (0 : Int) ≤ ixL (isN nr.1 nr.2.1) h 0 by omega), cond_true, cond_true, hN]
     | false =>
       rw [df (ixL_miss ha), cond_false, cond_false, spec_l12Held.val b (by omega)]
       cases hb2 : b.any (isN nr.1 nr.2.1) with
       | true =>
         obtain ⟨i, _, q, _⟩ := ixL_hit (isN nr.1 nr.2.1) nd b 0 hb2
         rw [dt (show (0 : Int) ≤ ixL (isN nr.1 nr.2.1) b 0 by omega), cond_true, cond_true, hN]
       | false =>
         rw [df (ixL_miss hb2), cond_false, cond_false, spec_l12PutNote.val h (by omega)]
 · rw [hW, recK_inbox]
   obtain ⟨e1, e2, e3, e4, e5, e6, e7, e8, e9⟩ := wd_inbox
   simp only [e1, e2, e3, e4, e5, e6, e7, e8, e9, decide_true, cond_true, cond_false]
   rw [spec_NoteRead.val r hr]
   generalize specR r = nr at ht ⊢
   cases nr.2.2.2.2.2 with
   | false => exact hN _ _ _ _ _ _
   | true =>
     rw [Bool.not_true, cond_false, cond_true]
     rw [spec_l12Held.val h (by omega)]
     cases ha : h.any (isN nr.1 nr.2.1) with
     | true =>
       obtain ⟨i, _, q, _⟩ := ixL_hit (isN nr.1 nr.2.1) nd h 0 ha
       rw [dt (show (0 : Int) ≤ ixL (isN nr.1 nr.2.1) h 0 by omega), cond_true, cond_true, hN]
     | false =>
       rw [df (ixL_miss ha), cond_false, cond_false, spec_l12Held.val b (by omega)]
       cases hb2 : b.any (isN nr.1 nr.2.1) with
       | true =>
         obtain ⟨i, _, q, _⟩ := ixL_hit (isN nr.1 nr.2.1) nd b 0 hb2
         rw [dt (show (0 : Int) ≤ ixL (isN nr.1 nr.2.1) b 0 by omega), cond_true, cond_true, hN]
       | false =>
         rw [df (ixL_miss hb2), cond_false, cond_false, spec_l12PutNote.val b (by omega)]
 · have e1 : decide (W = ByteArray.mk #[116, 105, 109, 101]) = false := by
     rcases hR with h | h | h | ⟨h1, h2, h3, h4, h5, h6, _⟩
     · rw [h]; decide
     · rw [h]; decide
     · rw [h]; decide
     · exact h1
   have e2 : decide (W = ByteArray.mk #[110, 101, 120, 116]) = false := by
     rcases hR with h | h | h | ⟨h1, h2, h3, h4, h5, h6, _⟩
     · rw [h]; decide
     · rw [h]; decide
     · rw [h]; decide
     · exact h2
   have e3 : decide (W = ByteArray.mk #[111, 119, 110]) = false := by
     rcases hR with h | h | h | ⟨h1, h2, h3, h4, h5, h6, _⟩
     · rw [h]; decide
     · rw [h]; decide
     · rw [h]; decide
     · exact h3
   have e4 : decide (W = ByteArray.mk #[116, 97, 107, 101]) = false := by
     rcases hR with h | h | h | ⟨h1, h2, h3, h4, h5, h6, _⟩
     · rw [h]; decide
     · rw [h]; decide
     · rw [h]; decide
     · exact h4
   have e5 : decide (W = ByteArray.mk #[104, 101, 108, 100]) = false := by
     rcases hR with h | h | h | ⟨h1, h2, h3, h4, h5, h6, _⟩
     · rw [h]; decide
     · rw [h]; decide
     · rw [h]; decide
     · exact h5
   have e6 : decide (W = ByteArray.mk #[105, 110, 98, 111, 120]) = false := by
     rcases hR with h | h | h | ⟨h1, h2, h3, h4, h5, h6, _⟩
     · rw [h]; decide
     · rw [h]; decide
     · rw [h]; decide
     · exact h6
   have hrec : ∀ (x y z : Int) (f : Bool), f = false → N = recK W tn (specR r) (x, y, z, f) id now next h m b (fun i n x h m b => K i n x h m b true) N := by
     intro x y z f hf
     subst hf
     rcases hR with hW | hW | hW | hW
     · rw [hW, recK_let]; rfl
     · rw [hW, recK_eat]; rfl
     · rw [hW, recK_mark]; rfl
     · rw [recK_else _ _ _ _ _ _ _ _ _ _ _ hW]
   simp only [e1, e2, e3, e4, e5, e6, cond_false]
   rw [spec_l3Nums.val3 r hr]
   unfold t3S
   dsimp only
   obtain ⟨hx, hx2⟩ := numW_rng (wordL (tx r)).1
   obtain ⟨hy, hy2⟩ := numW_rng (wordL (wordL (tx r)).2).1
   obtain ⟨hz, hz2⟩ := numW_rng (wordL (wordL (wordL (tx r)).2).2).1
   generalize numW (wordL (wordL (wordL (tx r)).2).2).1 = z at hz hz2 ⊢
   generalize numW (wordL (wordL (tx r)).2).1 = y at hy hy2 ⊢
   generalize numW (wordL (tx r)).1 = x at hx hx2 ⊢
   generalize ba (wordL (wordL (wordL (tx r)).2).2).2 = tl
   rw [show ([x, y, z] : List Int).getD 0 0 = x from rfl, show ([x, y, z] : List Int).getD 1 0 = y from rfl, show ([x, y, z] : List Int).getD 2 0 = z from rfl]
   by_cases htl : tl = ByteArray.mk #[]
   · have z32 : (ByteArray.mk #[32]).size = 1 := rfl
     refine (cf (by rw [dt htl]; rfl)).trans ((ct rfl).trans ?_)
     rw [spec_l6Dec.num x hx]
     refine (ct (dt (by omega))).trans ((ct rfl).trans ?_)
     rw [spec_l6Dec.num y hy]
     refine (ct (dt (by rw [ByteArray.size_append]; omega))).trans ((ct (dt (by rw [ByteArray.size_append, ByteArray.size_append]; omega))).trans ((ct rfl).trans ?_))
     rw [spec_l6Dec.num z hz]
     refine (ct (dt (by rw [ByteArray.size_append, ByteArray.size_append, ByteArray.size_append]; omega))).trans ?_
     by_cases hq : r = decI x ++ ByteArray.mk #[32] ++ decI y ++ ByteArray.mk #[32] ++ decI z
     · refine (cf (by rw [dt hq]; rfl)).trans ?_
       rw [dt htl, dt hq, Bool.true_and]
       rcases hR with hW | hW | hW | hW
       · rw [hW, recK_let]
         obtain ⟨_, _, _, _, _, _, e7, e8, e9⟩ := wd_let
         simp only [e7, e8, e9, decide_true, cond_true, cond_false]
         refine (ct rfl).trans ((ct rfl).trans ?_)
         rw [spec_l12Held.val h (by omega)]
         cases ha : h.any (isN x y) with
         | false =>
           rw [dt ((ixL_neg (isN x y) h 0).2 ha), cond_true, cond_false, hN]
         | true =>
           obtain ⟨i, i1, i2, i3⟩ := ixL_hit (isN x y) nd h 0 ha
           rw [Nat.zero_add] at i2
           rw [i2, Int.toNat_natCast, cond_true]
           refine (cf (df (by omega))).trans ((ct (gd i1)).trans ((ct rfl).trans ?_))
           show cond (!decide ((h.getD i nd).2.2.2.1 = z)) _ _ = _
           by_cases hu : (h.getD i nd).2.2.2.1 = z
           · rw [dt hu, Bool.not_true, cond_false, cond_true]
             refine (ct rfl).trans ((ct rfl).trans ?_)
             rw [spec_l12Let.hit id now next h m b (by omega) (by omega) (by omega) x y i i1 i2, hu]
           · rw [df hu, Bool.not_false, cond_true, cond_false, hN]
       · rw [hW, recK_eat]
         obtain ⟨_, _, _, _, _, _, e7, e8, e9⟩ := wd_eat
         simp only [e7, e8, e9, decide_true, cond_true, cond_false]
         refine (ct rfl).trans ((ct rfl).trans ?_)
         rw [spec_l12Held.val b (by omega)]
         cases ha : b.any (isN x y) with
         | false =>
           rw [dt ((ixL_neg (isN x y) b 0).2 ha), cond_true, cond_false, hN]
         | true =>
           obtain ⟨i, i1, i2, i3⟩ := ixL_hit (isN x y) nd b 0 ha
           rw [Nat.zero_add] at i2
           rw [i2, Int.toNat_natCast, cond_true]
           refine (cf (df (by omega))).trans ((ct (gd i1)).trans ((ct rfl).trans ?_))
           show cond (!decide ((b.getD i nd).2.2.2.1 = z)) _ _ = _
           by_cases hu : (b.getD i nd).2.2.2.1 = z
           · rw [dt hu, Bool.not_true, cond_false, cond_true]
             refine (ct rfl).trans ((ct rfl).trans ?_)
             rw [spec_l12Eat.hit id now next h m b (by omega) (by omega) (by omega) x y i i1 i2]
           · rw [df hu, Bool.not_false, cond_true, cond_false, hN]
       · rw [hW, recK_mark]
         obtain ⟨_, _, _, _, _, _, e7, e8, e9⟩ := wd_mark
         simp only [e7, e8, e9, decide_true, cond_true, cond_false]
         refine (ct rfl).trans ((ct rfl).trans ?_)
         obtain ⟨j, q1, q2⟩ := spec_l12Mark.tot m (by omega) x y
         rw [q2]
         cases hm3 : hasM m x y with
         | true => rw [dt (q1.2 hm3), cond_true, cond_true, hN]
         | false =>
           rw [df (fun hj => by rw [q1.1 hj] at hm3; cases hm3), cond_false, cond_false]
           refine (ct rfl).trans ((ct rfl).trans ((ct rfl).trans ?_))
           rw [spec_l12PutMark.val m (by omega)]
       · rw [recK_else _ _ _ _ _ _ _ _ _ _ _ hW]
         obtain ⟨_, _, _, _, _, _, e7, e8, e9⟩ := hW
         simp only [e7, e8, e9, cond_false]
         exact hN _ _ _ _ _ _
     · refine (ct (by rw [df hq]; rfl)).trans ((hN _ _ _ _ _ _).trans ?_)
       exact hrec x y z _ (by rw [df hq, Bool.and_false])
   · refine (ct (by rw [df htl]; rfl)).trans ((hN _ _ _ _ _ _).trans ?_)
     exact hrec x y z _ (by rw [df htl, Bool.false_and])
theorem spec_l12Copy.val {R : Type} (i0 i1 i2 : Int) (h : L5) (m : L3) (b : L5) (hh : h.length ≤ 1000) (hm : m.length ≤ 1000) (hb : b.length ≤ 1000) (K : Int → Int → Int → L5 → L3 → L5 → Option R) : spec_l12Copy.c 4194304 i0 i1 i2 h m b K = K i0 i1 i2 h m b := by
 rw [spec_l12Copy.u]
 refine (ct (lim_le (by simp; omega))).trans ((ct (lim_le (by simp; omega))).trans ((ct (lim_le (by simp; omega))).trans ?_))
 rfl
theorem spec_KeepDo.val {R : Type} (id now next : Int) (h : L5) (m : L3) (b : L5) (h3 : h.length ≤ 2097152) (h4 : m.length ≤ 2097152) (h5 : b.length ≤ 2097152) (s : ByteArray) (hs : s.size ≤ 2097152) (K : Int → Int → Int → L5 → L3 → L5 → Bool → Option R) : spec_KeepDo.c 4194304 id now next h m b s K = doK id now next h m b s K := by
 rw [spec_KeepDo.u, spec_KeepOk.val _ _ _ _ _ _ h3 h4 h5]
 unfold doK
 cases hk : keepB id now next h m b with
 | false =>
   rw [cond_false]
   exact ct rfl
 | true =>
   obtain ⟨g1, g2, g3, g4, g5, g6⟩ := keepB_some hk
   obtain ⟨k1, k2, k3, k4, k5⟩ := keepB_small hk false
   refine (cf rfl).trans ?_
   rw [cond_true, spec_l12Copy.val id now next h m b (by omega) (by omega) (by omega)]
   refine (spec_l12Rec.val id now next h m b (by omega) (by omega) (by omega) s hs _ (K id now next h m b false) (fun i n x h' m' b' => ?_)).trans ?_
   · refine (ct rfl).trans ?_
     rw [spec_l12Copy.val id now next h m b (by omega) (by omega) (by omega)]
   · refine (recK_congr _ _ _ _ id now next h m b _ (fun i n x h' m' b' => cond (keepB i n x h' m' b') (K i n x h' m' b' true) (K id now next h m b false)) _ (by omega) (by omega) (by omega) k4 k5 (specR_small _) (fun i n x h' m' b' q1 q2 q3 q4 q5 => ?_)).trans ?_
     · refine (cf rfl).trans ?_
       rw [spec_KeepOk.val _ _ _ _ _ _ (by omega) (by omega) (by omega)]
       cases keepB i n x h' m' b' with
       | false =>
         refine (ct rfl).trans ?_
         rw [spec_l12Copy.val id now next h m b (by omega) (by omega) (by omega)]
         rfl
       | true =>
         refine (cf rfl).trans ?_
         rw [spec_l12Copy.val i n x h' m' b' (by omega) (by omega) (by omega)]
         rfl
     · rw [← implR_eq]
       exact recK_bad _ _ _ _ _ _ _ _ _ _ _ _ _ _ hk (tn_rel _) (t3_rel _)
theorem laws_toNote.val {R : Type} (a b c d : Int) (t : ByteArray) (K : Int → Int → Int → Int → ByteArray → Option R) : laws_toNote.c 4194304 a b c d t K = K a b c d t := by rw [laws_toNote.u]
theorem laws_toNoteS.l4r_val {R : Type} (l : L5) (hl : l.length ≤ 2097152) (x : L5 → Option R) : ∀ (d i n : Nat) (w : L5), i + d = l.length → d < n → w.length = l.length → w.take i = l.take i →
   laws_toNoteS.l4r (laws_toNoteS.g 4194304) 4194304 l x n (i : Int) w = x l := by
 intro d
 induction d with
 | zero =>
   intro i n w h1 h2 h3 h4
   obtain ⟨n, rfl⟩ := Nat.exists_eq_succ_of_ne_zero (n := n) (by omega)
   rw [laws_toNoteS.l4r_u]
   refine (cf (df (by omega))).trans ?_
   rw [List.take_of_length_le (by omega), List.take_of_length_le (by omega)] at h4
   rw [h4]
 | succ d ih =>
   intro i n w h1 h2 h3 h4
   obtain ⟨n, rfl⟩ := Nat.exists_eq_succ_of_ne_zero (n := n) (by omega)
   have hi : i < l.length := by omega
   rw [laws_toNoteS.l4r_u, Int.toNat_natCast, getD_at hi, w64_p1 i (by omega)]
   refine (ct (dt (by omega))).trans ((ct (gd hi)).trans ?_)
   rw [laws_toNote.u]
   refine (ct (gd (by omega))).trans ?_
   refine ih (i + 1) n _ (by omega) (by omega) (by rw [List.length_set]; exact h3) ?_
   apply List.ext_getElem?
   intro j
   rw [List.getElem?_take, List.getElem?_take]
   by_cases hj : j < i + 1
   · rw [if_pos hj, if_pos hj, List.getElem?_set]
     by_cases he : i = j
     · subst he
       rw [if_pos rfl, if_pos (by omega), List.getElem?_eq_getElem hi]
     · rw [if_neg he]
       have := congrArg (fun z => z[j]?) h4
       simp only [List.getElem?_take] at this
       rw [if_pos (by omega), if_pos (by omega)] at this
       exact this
   · rw [if_neg hj, if_neg hj]
theorem laws_toNoteS.val {R : Type} (l : L5) (hl : l.length ≤ 2097152) (K : L5 → Option R) : laws_toNoteS.c 4194304 l K = K l := by
 rw [laws_toNoteS.u]
 refine (ct (by simp [lim_le (show l.length ≤ 1099511627776 by omega)])).trans ?_
 rw [Int.toNat_natCast]
 exact laws_toNoteS.l4r_val l hl (fun w => K w) l.length 0 4194304 _ (by omega) (by omega) (by rw [List.length_replicate]) (by simp)
theorem laws_toMarkS.l4r_val {R : Type} (l : L3) (hl : l.length ≤ 2097152) (x : L3 → Option R) : ∀ (d i n : Nat) (w : L3), i + d = l.length → d < n → w.length = l.length → w.take i = l.take i →
   laws_toMarkS.l4r (laws_toMarkS.g 4194304) 4194304 l x n (i : Int) w = x l := by
 intro d
 induction d with
 | zero =>
   intro i n w h1 h2 h3 h4
   obtain ⟨n, rfl⟩ := Nat.exists_eq_succ_of_ne_zero (n := n) (by omega)
   rw [laws_toMarkS.l4r_u]
   refine (cf (df (by omega))).trans ?_
   rw [List.take_of_length_le (by omega), List.take_of_length_le (by omega)] at h4
   rw [h4]
 | succ d ih =>
   intro i n w h1 h2 h3 h4
   obtain ⟨n, rfl⟩ := Nat.exists_eq_succ_of_ne_zero (n := n) (by omega)
   have hi : i < l.length := by omega
   rw [laws_toMarkS.l4r_u, Int.toNat_natCast, getD_at hi, w64_p1 i (by omega)]
   refine (ct (dt (by omega))).trans ((ct (gd hi)).trans ?_)
   rw [laws_toMark.u]
   refine (ct (gd (by omega))).trans ?_
   refine ih (i + 1) n _ (by omega) (by omega) (by rw [List.length_set]; exact h3) ?_
   apply List.ext_getElem?
   intro j
   rw [List.getElem?_take, List.getElem?_take]
   by_cases hj : j < i + 1
   · rw [if_pos hj, if_pos hj, List.getElem?_set]
     by_cases he : i = j
     · subst he
       rw [if_pos rfl, if_pos (by omega), List.getElem?_eq_getElem hi]
     · rw [if_neg he]
       have := congrArg (fun z => z[j]?) h4
       simp only [List.getElem?_take] at this
       rw [if_pos (by omega), if_pos (by omega)] at this
       exact this
   · rw [if_neg hj, if_neg hj]
theorem laws_toMarkS.val {R : Type} (l : L3) (hl : l.length ≤ 2097152) (K : L3 → Option R) : laws_toMarkS.c 4194304 l K = K l := by
 rw [laws_toMarkS.u]
 refine (ct (by simp [lim_le (show l.length ≤ 1099511627776 by omega)])).trans ?_
 rw [Int.toNat_natCast]
 exact laws_toMarkS.l4r_val l hl (fun w => K w) l.length 0 4194304 _ (by omega) (by omega) (by rw [List.length_replicate]) (by simp)
theorem laws_toKeep.val {R : Type} (a b c : Int) (x3 x5 : L5) (x4 : L3) (h3 : x3.length ≤ 2097152) (h4 : x4.length ≤ 2097152) (h5 : x5.length ≤ 2097152) (K : Int → Int → Int → L5 → L3 → L5 → Option R) : laws_toKeep.c 4194304 a b c x3 x4 x5 K = K a b c x3 x4 x5 := by
 rw [laws_toKeep.u, laws_toNoteS.val _ h3, laws_toMarkS.val _ h4, laws_toNoteS.val _ h5]
theorem laws_FnExactKeepDo.law {R : Type} (a b c : Int) (x3 : L5) (x4 : L3) (x5 : L5) (s : ByteArray) (_ha : -9223372036854775808 ≤ a ∧ a ≤ 9223372036854775807) (_hb : -9223372036854775808 ≤ b ∧ b ≤ 9223372036854775807) (_hc : -9223372036854775808 ≤ c ∧ c ≤ 9223372036854775807)
   (l3 : (x3.length : Int) ≤ 9223372036854775807) (w3 : ∀ m ∈ x3, (-9223372036854775808 ≤ m.1 ∧ m.1 ≤ 9223372036854775807) ∧ (-9223372036854775808 ≤ m.2.1 ∧ m.2.1 ≤ 9223372036854775807) ∧ (-9223372036854775808 ≤ m.2.2.1 ∧ m.2.2.1 ≤ 9223372036854775807) ∧ (-9223372036854775808 ≤ m.2.2.2.1 ∧ m.2.2.2.1 ≤ 9223372036854775807) ∧ (m.2.2.2.2.size : Int) ≤ 9223372036854775807)
   (l4 : (x4.length : Int) ≤ 9223372036854775807) (_w4 : ∀ m ∈ x4, (-9223372036854775808 ≤ m.1 ∧ m.1 ≤ 9223372036854775807) ∧ (-9223372036854775808 ≤ m.2.1 ∧ m.2.1 ≤ 9223372036854775807) ∧ (-9223372036854775808 ≤ m.2.2 ∧ m.2.2 ≤ 9223372036854775807))
   (l5 : (x5.length : Int) ≤ 9223372036854775807) (w5 : ∀ m ∈ x5, (-9223372036854775808 ≤ m.1 ∧ m.1 ≤ 9223372036854775807) ∧ (-9223372036854775808 ≤ m.2.1 ∧ m.2.1 ≤ 9223372036854775807) ∧ (-9223372036854775808 ≤ m.2.2.1 ∧ m.2.2.1 ≤ 9223372036854775807) ∧ (-9223372036854775808 ≤ m.2.2.2.1 ∧ m.2.2.2.1 ≤ 9223372036854775807) ∧ (m.2.2.2.2.size : Int) ≤ 9223372036854775807)
   (_hs : (s.size : Int) ≤ 9223372036854775807) (K : Bool → Option R) : laws_FnExactKeepDo.c 4194304 a b c x3 x4 x5 s K = K true := by
 obtain ⟨r, q1, _, hr⟩ := laws_szKeep.tot a b c x3 x5 x4 l3 (fun m hm => (w3 m hm).2.2.2.2) l4 l5 (fun m hm => (w5 m hm).2.2.2.2)
 rw [laws_FnExactKeepDo.u]
 by_cases h0 : (1048576 : Int) < (s.size : Int)
 · exact ct (dt h0)
 · refine (cf (df h0)).trans ?_
   have hs : s.size ≤ 2097152 := by omega
   rw [hr]
   by_cases h1 : r < 0
   · exact ct (dt h1)
   · obtain ⟨⟨n3, s3⟩, n4, n5, s5⟩ := q1 (by omega)
     have n3 : x3.length ≤ 2097152 := by omega
     have n4 : x4.length ≤ 2097152 := by omega
     have n5 : x5.length ≤ 2097152 := by omega
     have s3 : ∀ m ∈ x3, m.2.2.2.2.size ≤ 2097152 := fun m hm => by have := s3 m hm; omega
     have s5 : ∀ m ∈ x5, m.2.2.2.2.size ≤ 2097152 := fun m hm => by have := s5 m hm; omega
     refine (cf (df h1)).trans ?_
     rw [laws_toKeep.val _ _ _ _ _ _ n3 n4 n5, spec_KeepDo.val a b c x3 x4 x5 n3 n4 n5 s hs, doK_doV, laws_toKeep.val _ _ _ _ _ _ n3 n4 n5, impl_KeepDo.val a b c x3 x4 x5 n3 s3 n4 n5 s5 s hs, doK_doV]
     obtain ⟨d3, d4, d5, _, _⟩ := doV_small a b c x3 x4 x5 s
     generalize DEQ : doV a b c x3 x4 x5 s = D at d3 d4 d5 ⊢
     have e3 : D.2.2.2.1.length ≤ 2097152 := by omega
     have e4 : D.2.2.2.2.1.length ≤ 2097152 := by omega
     have e5 : D.2.2.2.2.2.1.length ≤ 2097152 := by omega
     rw [laws_eqKeep.val _ _ _ _ _ _ _ _ _ _ _ _ e3 e4 e5]
     refine (cf (by simp)).trans ((cf (by simp)).trans ?_)
     rw [laws_toKeep.val _ _ _ _ _ _ n3 n4 n5, laws_eqKeep.val _ _ _ _ _ _ _ _ _ _ _ _ n3 n4 n5]
     refine (cf (by simp)).trans ?_
     refine (laws_markKeep.val a b c x3 x5 x4 1 n3 n4 n5 (by omega) _).trans ?_
     refine (cf (df (by omega))).trans ?_
     rw [laws_eqKeep.val _ _ _ _ _ _ _ _ _ _ _ _ e3 e4 e5]
     refine (cf (by simp)).trans ((cf (by simp)).trans ?_)
     refine (laws_markKeep.val D.1 D.2.1 D.2.2.1 D.2.2.2.1 D.2.2.2.2.2.1 D.2.2.2.2.1 1 e3 e4 e5 (by omega) _).trans ?_
     refine (laws_heldKeep.val D.1 D.2.1 D.2.2.1 D.2.2.2.1.length D.2.2.2.2.1.length D.2.2.2.2.2.1.length 1 e3 e4 e5 (by omega) _).trans ?_
     refine (cf (df (by omega))).trans ((cf (by simp)).trans ?_)
     rw [laws_toKeep.val _ _ _ _ _ _ n3 n4 n5, impl_KeepDo.val a b c x3 x4 x5 n3 s3 n4 n5 s5 s hs, doK_doV]
     rw [DEQ]
     rw [laws_eqKeep.val _ _ _ _ _ _ _ _ _ _ _ _ e3 e4 e5]
     refine (cf (by simp)).trans ((cf (by simp)).trans ?_)
     refine (laws_heldKeep.val D.1 D.2.1 D.2.2.1 D.2.2.2.1.length D.2.2.2.2.1.length D.2.2.2.2.2.1.length 1 e3 e4 e5 (by omega) _).trans ?_
     exact (cf (df (by omega))).trans (cf (by simp))
end Go.Ev.F
