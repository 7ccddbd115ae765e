/- That the machine does what the evaluator says: a part of the proof. No condition beyond those that stand in each. -/
import Derived.Test.YtmeeloeielallaaGreatDoorSoD
import Derived.WalkKit
namespace Go.Ev
universe u
set_option linter.unusedVariables false
set_option linter.unusedSimpArgs false
/-! ### A region whose order is drawn: one more operation of any order. No condition beyond those that stand in each. -/
theorem appS_false {S : Nat → Bool} : ∀ {L : List Ent} {st : St}, (∀ e ∈ L, S e.i = false) → appS S L st = st
 | [], _, _ => rfl
 | e :: l, st, h => by
   show appS S l _ = st
   rw [h e (by simp)]
   exact appS_false fun e' he' => h e' (List.mem_cons_of_mem _ he')
theorem StepW.sub {P : Program} {B : Base} {ops : Array Oper} {o : Oper} {st : St} {v : LV} {wr : List (Nat × Blk)} {rs ws : List Nat} (h : StepW P B ops o st v wr rs ws) : ∀ id ∈ fstB wr, id ∈ ws := by
 cases h with
 | ran _ hr => exact hr.sub
 | out => intro id hid; cases hid
theorem boundB_iff {o : Oper} {i : Nat} : boundB o i = true ↔ ∃ x ∈ o.after.toList, bindsAny x = true ∧ x.on = i := by
 simp only [boundB, List.any_eq_true, Bool.and_eq_true]
 constructor
 · rintro ⟨x, h1, h2, h3⟩; exact ⟨x, h1, h2, Nat.eq_of_beq_eq_true h3⟩
 · rintro ⟨x, h1, h2, rfl⟩; exact ⟨x, h1, h2, by simp⟩
theorem binds_any (x : Edge) : Region.binds .any x = bindsAny x := by
 unfold Region.binds bindsAny
 cases x.ground <;> rfl
/-! ### A region whose order is drawn: the step. No condition beyond those that stand in each. -/
section
variable {P : Program} {B : Base} {ops : Array Oper} {st st' : St} {L : List Ent}
/-- What is listed is closed under what binds. -/
def Closed (ops : Array Oper) (S : Nat → Bool) : Prop := ∀ k o, S k = true → ops[k]? = some o → ∀ i, boundB o i = true → S i = true
theorem no_touch (h : Ents P B ops ops.toList 0 [] st st' L) {S : Nat → Bool} (hc : Closed ops S) {L1 L2 L3 : List Ent} {d e : Ent} (hL : L = L1 ++ d :: (L2 ++ e :: L3)) (hu : (∀ i, boundB e.o i = true → S i = true) ∧ S d.i = false) :
   NoTouch ops d.lg e.o e.rs e.ws := by
 obtain ⟨_, _, h3, _, _, _⟩ := ents_split h (L1 ++ d :: L2) e L3 (by simp [hL])
 have hd : d.lg ∈ (((L1 ++ d :: L2).map Ent.lg).reverse ++ []) := by simp
 rcases okAfter_mem h3 _ hd with g | g | ⟨m, g1, g2, g3⟩
 · have := hu.1 _ g
   rw [show d.lg.i = d.i from rfl, hu.2] at this; cases this
 · simpa using g
 · exfalso
   have hm : m ∈ (L1 ++ d :: L2).map Ent.lg := by
     rw [List.append_nil] at g1
     exact List.mem_reverse.mp g1
   obtain ⟨x, hx, rfl⟩ := List.mem_map.mp hm
   obtain ⟨A, A', hA⟩ := List.append_of_mem hx
   have hL' : L = A ++ x :: (A' ++ e :: L3) := by
     have e1 : L1 ++ d :: (L2 ++ e :: L3) = (L1 ++ d :: L2) ++ e :: L3 := by simp
     rw [hL, e1, hA]; simp
   obtain ⟨_, _, _, _, e5, e6⟩ := ents_split h A x (A' ++ e :: L3) hL'
   have hxo : ops[x.i]? = some x.o := by rw [e5]; simpa using e6
   have := hc x.i x.o (hu.1 _ g2) hxo d.i g3
   rw [hu.2] at this; cases this
end
/-! ### A region whose order is drawn: the invariant, and the law of regions. No condition beyond those that stand in each. -/
section
variable {P : Program} {B : Base} {ops : Array Oper} {st st' : St} {L : List Ent}
theorem ents_at (h : Ents P B ops ops.toList 0 [] st st' L) {i : Nat} {o : Oper} (ho : ops[i]? = some o) : ∃ L1 e L2, L = L1 ++ e :: L2 ∧ e.i = i ∧ e.o = o ∧ L1.length = i := by
 have hl := (ents_len h).1
 have hi : i < L.length := by
   rw [hl]
   have := (Array.getElem?_eq_some_iff.1 ho).1
   simpa using this
 refine ⟨L.take i, L[i], L.drop (i + 1), ?_, ?_⟩
 · rw [List.getElem_cons_drop, List.take_append_drop]
 · have hs : L = L.take i ++ L[i] :: L.drop (i + 1) := by rw [List.getElem_cons_drop, List.take_append_drop]
   have hlen : (L.take i).length = i := by rw [List.length_take]; omega
   obtain ⟨_, _, _, _, e5, e6⟩ := ents_split h _ _ _ hs
   rw [hlen] at e5 e6
   refine ⟨by omega, ?_, hlen⟩
   rw [Array.getElem?_toList, ho] at e6
   cases e6; rfl
theorem ents_ne (h : Ents P B ops ops.toList 0 [] st st' L) {L1 L2 : List Ent} {e : Ent} (hL : L = L1 ++ e :: L2) : (∀ d ∈ L1, d.i ≠ e.i) ∧ ∀ d ∈ L2, d.i ≠ e.i := by
 obtain ⟨_, _, _, _, e5, _⟩ := ents_split h L1 e L2 hL
 constructor
 · intro d hd
   obtain ⟨A, A', hA⟩ := List.append_of_mem hd
   obtain ⟨_, _, _, _, g5, _⟩ := ents_split h A d (A' ++ e :: L2) (by rw [hL, hA]; simp)
   have : L1.length = A.length + (A'.length + 1) := by rw [hA]; simp
   omega
 · intro d hd
   obtain ⟨A, A', hA⟩ := List.append_of_mem hd
   obtain ⟨_, _, _, _, g5, _⟩ := ents_split h (L1 ++ e :: A) d A' (by rw [hL, hA]; simp)
   have : (L1 ++ e :: A).length = L1.length + (A.length + 1) := by simp
   omega
def plusS (S : Nat → Bool) (i : Nat) : Nat → Bool := fun j => S j || Nat.beq j i
theorem draw_step (h : Ents P B ops ops.toList 0 [] st st' L) {S : Nat → Bool} (hc : Closed ops S) {i : Nat} {o : Oper} (ho : ops[i]? = some o) (hS : S i = false) (hb : ∀ j, boundB o j = true → S j = true) :
   ∃ e : Ent, e.o = o ∧ e.i = i ∧ StepW P B ops o e.st e.v e.wr e.rs e.ws ∧ (∀ t ∈ o.looksAt ops, (appS S L st).tm t = e.st.tm t) ∧ (∀ id, id ∈ e.rs ∨ id ∈ e.ws → (appS S L st).bl id = e.st.bl id) ∧ (appS S L st).app o e.v e.wr = appS (plusS S i) L st := by
 obtain ⟨L1, e, L2, hL, rfl, rfl, hlen⟩ := ents_at h ho
 obtain ⟨hs, ha, _, hst, _, _⟩ := ents_split h L1 e L2 hL
 obtain ⟨n1, n2⟩ := ents_ne h hL
 have before : ∀ d ∈ L1, S d.i = false → NoTouch ops d.lg e.o e.rs e.ws := by
   intro d hd hf
   obtain ⟨A, A', hA⟩ := List.append_of_mem hd
   exact no_touch h hc (L1 := A) (L2 := A') (L3 := L2) (by rw [hL, hA]; simp) ⟨hb, hf⟩
 have behind : ∀ f ∈ L2, S f.i = true → NoTouch ops e.lg f.o f.rs f.ws ∧ ∀ id ∈ fstB f.wr, id ∈ f.ws := by
   intro f hf ht
   obtain ⟨A, A', hA⟩ := List.append_of_mem hf
   have hL' : L = L1 ++ e :: (A ++ f :: A') := by rw [hL, hA]
   obtain ⟨k1, _, _, _, k5, k6⟩ := ents_split h (L1 ++ e :: A) f A' (by rw [hL']; simp)
   have hfo : ops[f.i]? = some f.o := by rw [k5]; simpa using k6
   exact ⟨no_touch h hc hL' ⟨fun j hj => hc f.i f.o ht hfo j hj, hS⟩, k1.sub⟩
 have sub1 : ∀ d ∈ L1, ∀ id ∈ fstB d.wr, id ∈ d.ws := by
   intro d hd
   obtain ⟨A, A', hA⟩ := List.append_of_mem hd
   obtain ⟨k1, _⟩ := ents_split h A d (A' ++ e :: L2) (by rw [hL, hA]; simp)
   exact k1.sub
 have e1 : appS S L st = appS S L2 (appS S L1 st) := by
   rw [hL, appS_app]
   show appS S L2 (match S e.i with | true => (appS S L1 st).app e.o e.v e.wr | false => appS S L1 st) = _
   rw [hS]
 have none2 : ∀ s, appS (fun _ => false) L2 s = s := fun s => appS_false fun _ _ => rfl
 refine ⟨e, rfl, rfl, hs, fun t ht => ?_, fun id hid => ?_, ?_⟩
 · rw [e1, hst, ← none2 (appS (fun _ => true) L1 st)]
   refine appS_tm (fun f hf hne => ?_) (appS_tm (fun d hd hne => ?_) rfl)
   · have ht' : S f.i = true := by simpa using hne
     have := (Oper.apart_spec (behind f hf ht').1.1).2.2
     exact fun hd => this t hd ht
   · have hf' : S d.i = false := by simpa using hne
     have := (Oper.apart_spec (before d hd hf').1).1
     exact fun hd => this t hd ht
 · rw [e1, hst, ← none2 (appS (fun _ => true) L1 st)]
   refine appS_bl (fun f hf hne => ?_) (appS_bl (fun d hd hne => ?_) rfl)
   · have ht' : S f.i = true := by simpa using hne
     obtain ⟨⟨_, g1, g2, g3⟩, g4⟩ := behind f hf ht'
     intro hm
     have hm := g4 id hm
     rcases hid with q | q
     · exact g1 id hm q
     · exact g3 id hm q
   · have hf' : S d.i = false := by simpa using hne
     obtain ⟨_, g1, g2, g3⟩ := before d hd hf'
     intro hm
     have hm := sub1 d hd id hm
     rcases hid with q | q
     · exact g2 id q hm
     · exact g3 id q hm
 · have p1 : plusS S e.i e.i = true := by simp [plusS]
   have pn : ∀ d : Ent, d.i ≠ e.i → plusS S e.i d.i = S d.i := by
     intro d hd
     unfold plusS
     cases hx : Nat.beq d.i e.i with
     | false => simp
     | true => exact absurd (Nat.eq_of_beq_eq_true hx) hd
   have e2 : appS (plusS S e.i) L st = appS S L2 ((appS S L1 st).app e.o e.v e.wr) := by
     rw [hL, appS_app]
     show appS (plusS S e.i) L2 (match plusS S e.i e.i with | true => (appS (plusS S e.i) L1 st).app e.o e.v e.wr | false => appS (plusS S e.i) L1 st) = _
     rw [p1, appS_congr (S' := S) (L := L2) fun d hd => pn d (n2 d hd), appS_congr (S' := S) (L := L1) fun d hd => pn d (n1 d hd)]
   rw [e2, e1]
   symm
   refine appS_push fun f hf ht => ?_
   obtain ⟨⟨g0, g1, g2, g3⟩, g4⟩ := behind f hf ht
   refine ⟨fun d hd => (Oper.apart_spec g0).2.1 d hd, fun id hid hm => ?_⟩
   exact g3 id (g4 id hm) (hs.sub id hid)
/-- How many are not listed yet. -/
def openN (l : Array Bool) : Nat := (l.toList.filter fun b => !b).length
theorem openN_set {l : Array Bool} {i : Nat} (h : l.getD i true = false) : openN (l.setIfInBounds i true) + 1 = openN l := by
 unfold openN
 have hi : i < l.size := by
   rcases Nat.lt_or_ge i l.size with g | g
   · exact g
   · simp [Array.getD, Nat.not_lt.2 g] at h
 rw [Array.toList_setIfInBounds]
 have hb : l.toList[i]? = some false := by
   rw [Array.getElem?_toList, Array.getElem?_eq_getElem hi]
   simp [Array.getD, hi] at h
   rw [h]
 clear h hi
 generalize l.toList = m at *
 induction m generalizing i with
 | nil => simp at hb
 | cons x m ih =>
   cases i with
   | zero => simp at hb; subst hb; simp
   | succ i =>
     simp only [List.getElem?_cons_succ] at hb
     have := ih hb
     simp only [List.set_cons_succ]
     cases x <;> simp [List.filter_cons] at this ⊢ <;> omega
variable {N : Nat} {W0 : World} {M : Fr}
theorem draw_any (h : Ents P B ops ops.toList 0 [] st st' L) (hM : MOk B W0 M) (hd : ∀ o ∈ ops.toList, ∀ d, o.dst = some d → d < N) {Q : Exit → Act → World → Prop} (hq : ∀ μ' a' w', Inv N W0 M st' μ' a' w' → Q .normal a' w') :
   ∀ (fuel : Nat) (listed : Array Bool), listed.size = ops.size → openN listed ≤ fuel → Closed ops (fun i => listed.getD i false) → ∀ μ a w, Inv N W0 M (appS (fun i => listed.getD i false) L st) μ a w → wpAny P .any ops Q fuel listed a w := by
 have stop : ∀ listed : Array Bool, listed.size = ops.size → Region.ready .any ops listed = [] → ∀ i, i < ops.size → listed.getD i false = true := by
   intro listed hsz hr i
   induction i using Nat.strongRecOn with
   | ind i ih =>
     intro hi
     cases hg : listed.getD i false with
     | true => rfl
     | false =>
       exfalso
       have ho : ops[i]? = some ops[i] := Array.getElem?_eq_getElem hi
       obtain ⟨L1, e, L2, hL, he1, he2, _⟩ := ents_at h ho
       obtain ⟨_, ha, _, _, _, _⟩ := ents_split h L1 e L2 hL
       have : i ∈ Region.ready .any ops listed := by
         rw [mem_ready]
         refine ⟨?_, ops[i], ho, fun x hx hb => ?_⟩
         · have hi' : i < listed.size := by omega
           simp [Array.getD, hi'] at hg ⊢
           exact hg
         · rw [binds_any] at hb
           rw [he2, he1] at ha
           have hlt := ha x (by simpa using hx) hb
           exact ih x.on hlt (by omega)
       rw [hr] at this
       cases this
 have fin : ∀ listed : Array Bool, listed.size = ops.size → Region.ready .any ops listed = [] → appS (fun i => listed.getD i false) L st = st' := by
   intro listed hsz hr
   rw [(ents_len h).2]
   refine appS_congr fun e he => ?_
   obtain ⟨A, A', hA⟩ := List.append_of_mem he
   obtain ⟨_, _, _, _, k5, k6⟩ := ents_split h A e A' hA
   refine stop listed hsz hr e.i ?_
   have : (ops.toList)[e.i]? = some e.o := by rw [k5]; simpa using k6
   have := (List.getElem?_eq_some_iff.1 this).1
   simpa using this
 intro fuel
 induction fuel with
 | zero =>
   intro listed hsz hf hc μ a w hi
   have hr : Region.ready .any ops listed = [] := by
     cases hx : Region.ready .any ops listed with
     | nil => rfl
     | cons i l =>
       have : i ∈ Region.ready .any ops listed := by rw [hx]; simp
       rw [mem_ready] at this
       have := openN_set this.1
       omega
   refine ⟨hr, ?_⟩
   rw [fin listed hsz hr] at hi
   exact hq _ _ _ hi
 | succ fuel ih =>
   intro listed hsz hf hc μ a w hi
   refine ⟨fun hr => ?_, fun i hir => ?_⟩
   · rw [fin listed hsz hr] at hi
     exact hq _ _ _ hi
   · rw [mem_ready] at hir
     obtain ⟨h0, o, ho, hall⟩ := hir
     have hlt : i < ops.size := (Array.getElem?_eq_some_iff.1 ho).1
     have hlt' : i < listed.size := by omega
     have hSi : listed.getD i false = false := by
       simp [Array.getD, hlt'] at h0 ⊢
       exact h0
     have hb : ∀ j, boundB o j = true → listed.getD j false = true := by
       intro j hj
       obtain ⟨x, hx, hx2, rfl⟩ := boundB_iff.1 hj
       exact hall x (by simpa using hx) (by rw [binds_any]; exact hx2)
     obtain ⟨e, he1, he2, hs, g1, g2, g3⟩ := draw_step h hc ho hSi hb
     have hS' : (fun j => (listed.setIfInBounds i true).getD j false) = plusS (fun j => listed.getD j false) i := by
       funext j
       unfold plusS
       by_cases hji : j = i
       · subst hji; simp [hlt']
       · rw [getD_set_ne false (fun x => hji x.symm)]
         cases hx : Nat.beq j i with
         | false => simp
         | true => exact absurd (Nat.eq_of_beq_eq_true hx) hji
     refine hs.wp g1 g2 ho hi hM (hd o ?_) fun μ' a' w' hi' => ?_
     · have : ops.toList[i]? = some o := by simpa using ho
       exact List.mem_of_getElem? this
     · refine ih _ (by simp [hsz]) (by have := openN_set h0; omega) ?_ μ' a' w' ?_
       · rw [hS']
         intro k o' hk hko j hj
         simp only [plusS, Bool.or_eq_true] at hk ⊢
         rcases hk with hk | hk
         · exact .inl (hc k o' hk hko j hj)
         · have hk := Nat.eq_of_beq_eq_true hk
           subst hk
           rw [ho] at hko; cases hko
           exact .inl (hb j hj)
       · rw [hS', ← g3]; exact hi'
end
section
variable {R : Type} {N : Nat} {B : Base} {E : Env} {G : Cons R}
theorem reg_ok (hP : E.P.follows .mixedOrders = true) (hE : ∀ t ∈ E.eqs, eqFree E.P t = true) (hG : GOk E.P B G) : RegOk N B E G := by
 intro id ops draw st K r h hd
 cases draw with
 | false => exact reg_text hE hG id ops st K r h hd
 | true =>
   obtain ⟨st', h1, h2⟩ := evOps_tr (B := B) rfl hE hG ops id true ops.toList 0 [] st h
   obtain ⟨L, hL⟩ := tr_ents h2
   refine ⟨st', h1, fun W0 M hM μ a w hi => wp_region_any hP ?_⟩
   refine draw_any hL hM hd (fun μ' a' w' hi' => ⟨rfl, μ', hi'⟩) ops.size _ (by simp) ?_ ?_ μ a _ ?_
   · unfold openN; simp
   · intro k o hk hko
     have : k < ops.size := (Array.getElem?_eq_some_iff.1 hko).1
     simp [Array.getD, this] at hk
   · rw [appS_false]
     · exact hi.drew _
     · intro e he
       simp [Array.getD]
end
/-! ### A function's answer, told of the memory. No condition beyond those that stand in each. -/
def ResIs (P : Program) (w : World) (tmps : Array Value) (r : ResultVar) (x : Value) : Prop :=
 match r with
 | .tmp t => tmps.getD t undef = x
 | .cell a t => (do loadVar t (← asAddr (tmps.getD a undef)) : Sem Value).run P w = .ok x w
theorem results_run (fn : Func) (tmps : Array Value) (ys : List Value) (P : Program) (w : World) (h : All2 (ResIs P w tmps) fn.results.toList ys) : (results fn tmps).run P w = .ok (packV ys) w := by
 have key : ∀ (F : ResultVar → Sem Value) (rs : List ResultVar) (ys : List Value), (∀ r x, ResIs P w tmps r x → (F r).run P w = .ok x w) → All2 (ResIs P w tmps) rs ys → (rs.mapM F : Sem (List Value)).run P w = .ok ys w := by
   intro F rs ys hF h
   induction h with
   | nil => rfl
   | cons h1 h2 ih =>
     rw [List.mapM_cons]
     simp [hF _ _ h1, ih]
 have e : fn.results = fn.results.toList.toArray := by simp
 unfold results
 rw [e, List.mapM_toArray]
 simp only [map_eq_pure_bind, bind_assoc, pure_bind]
 rw [Sem.run_bind, key _ fn.results.toList ys (fun r x hx => by
     cases r with
     | tmp t => unfold ResIs at hx; simp only at hx; subst hx; rfl
     | cell a t => exact hx) h]
 cases ys with
 | nil => rfl
 | cons y l =>
   cases l with
   | nil => rfl
   | cons y' l => rfl
section
variable {N : Nat} {W0 : World} {M : Fr} {st : St} {μ : Lay} {a : Act} {w : World}
theorem pc_ans (h : Inv N W0 M st μ a w) {c : Cell} {p : PC} {x : Value} (hp : pcOf st.bl c = some p) (hx : RC st.bl μ c x) :
   PCIs (fun k => k) w p x ∧ ItsRel st.bl μ (resIts st.bl [c]) (pcIts (fun k => k) [p] [x]) := by
 cases c with
 | s v => cases hp; exact ⟨hx, .nil⟩
 | any => cases hp
 | ptr _ _ _ => cases hp
 | sl id =>
   simp only [pcOf] at hp
   split at hp
   · rename_i k cs xs hb
     cases hp
     have hrow := h.row hb hx
     have hB := h.bl id _ hb
     refine ⟨⟨hB.1, hrow, fun hk ad n cap e => ?_⟩, ?_⟩
     · rcases RowIs_addr hx hb with ⟨_, e2⟩ | ⟨p, hm, e2⟩
       · rw [e2] at e; cases e
       · rw [e2] at e; cases e
         obtain ⟨_, hB⟩ := hB
         rw [hm] at hB
         obtain ⟨_, _, cells, t, fr, g1, _, g3, g2⟩ := hB
         exact ⟨cells, t, fr, g1, g2 hk, g3⟩
     · have hr : resIts st.bl [.sl id] = [(isWr k, id)] := by
         simp only [resIts, hb]
         cases k <;> rfl
       rw [hr]
       show ItsRel st.bl μ [(isWr k, id)] (rowIts _ x ++ [])
       rcases RowIs_addr hx hb with ⟨_, e2⟩ | ⟨p, hm, e2⟩
       · rw [e2]; exact .skip .nil
       · rw [e2]
         simp only [rowIts]
         exact .cons hb (by simp) hm .nil
   · cases hp
 | sub id o n =>
   simp only [pcOf] at hp
   split at hp
   · rename_i k cs xs hb
     cases hp
     have hrow := h.sub hb hx
     have hB := h.bl id _ hb
     refine ⟨⟨hB.1, hrow, fun hk => absurd rfl hk⟩, ?_⟩
     show ItsRel st.bl μ [(false, id)] (rowIts _ x ++ [])
     obtain ⟨b, hb', ⟨ad, cc, rfl, g1, g2, g3, g4⟩, g5⟩ := hx
     cases ad with
     | none => exact .skip .nil
     | some q =>
       obtain ⟨_, p, hp, hr⟩ := g4 q rfl
       show ItsRel st.bl μ [(false, id)] [(false, q.block)]
       rw [hr]
       exact .cons hb (by simp) hp .nil
   · cases hp
theorem resIts_cons (bl : Nat → Option Blk) (c : Cell) (xs : List Cell) : resIts bl (c :: xs) = resIts bl [c] ++ resIts bl xs := by
 cases c with
 | sl id =>
   simp only [resIts]
   split <;> rfl
 | _ => rfl
theorem pcs_ans (h : Inv N W0 M st μ a w) : ∀ {xs : List Cell} {ps : List PC} {vs : List Value}, pcsOf st.bl xs = some ps → All2 (RC st.bl μ) xs vs →
   All2 (PCIs (fun k => k) w) ps vs ∧ ItsRel st.bl μ (resIts st.bl xs) (pcIts (fun k => k) ps vs)
 | [], ps, _, hp, .nil => by cases hp; exact ⟨.nil, .nil⟩
 | c :: xs, ps, _, hp, .cons (b := x) (m := vs) h1 h2 => by
   simp only [pcsOf] at hp
   split at hp
   · rename_i p hc
     split at hp
     · rename_i qs hq
       cases hp
       obtain ⟨g1, g2⟩ := pc_ans h hc h1
       obtain ⟨g3, g4⟩ := pcs_ans h hq h2
       refine ⟨.cons g1 g3, ?_⟩
       rw [resIts_cons, pcIts_cons]
       exact g2.app g4
     · cases hp
   · cases hp
theorem rv_ans (h : Inv N W0 M st μ a w) {v : LV} {rv : RV} {x : Value} (hp : rvOf st.bl v = some rv) (hx : RL st.bl μ v x) :
   RVIs (fun k => k) w rv x ∧ ItsRel st.bl μ (resVIts st.bl v) (rvIts (fun k => k) w rv x) := by
 unfold rvOf at hp
 split at hp
 · rename_i id
   split at hp
   · rename_i xs hb
     split at hp
     · rename_i ps hps
       cases hp
       obtain ⟨p, cells, t, fr, g1, rfl, g3, g4, g5⟩ := box_cells h hb hx
       obtain ⟨k1, k2⟩ := pcs_ans h hps g5
       have hat := cellsAt_eq g3
       refine ⟨⟨p.r, cells, t, fr, rfl, g3, g4, k1⟩, ?_⟩
       have hr : resVIts st.bl (.c (.ptr id 0 0)) = (true, id) :: resIts st.bl xs := by simp only [resVIts, hb]
       rw [hr]
       show ItsRel st.bl μ ((true, id) :: resIts st.bl xs) ((true, p.r) :: pcIts _ ps (cellsAt w p.r))
       rw [hat]
       exact .cons hb (by simp) g1 k2
     · cases hp
   · cases hp
 · rename_i c hc
   split at hp
   · rename_i p hpc
     cases hp
     have hnp : ∀ id i j, c ≠ .ptr id i j := by intro id i j e; subst e; cases hpc
     obtain ⟨k1, k2⟩ := pc_ans h hpc hx
     refine ⟨⟨p, rfl, k1⟩, ?_⟩
     have hr : resVIts st.bl (.c c) = resIts st.bl [c] := by cases c <;> first | rfl | exact absurd rfl (hnp _ _ _)
     rw [hr]
     exact k2
   · cases hp
 · rename_i xs
   split at hp
   · rename_i ps hps
     cases hp
     obtain ⟨vs, rfl, hv⟩ := hx
     obtain ⟨k1, k2⟩ := pcs_ans h hps hv
     exact ⟨⟨vs, rfl, k1⟩, k2⟩
   · cases hp
 · cases hp
/-- A result's value. -/
theorem res_val (h : Inv N W0 M st μ a w) {P : Program} {r : ResultVar} {v : LV} (hv : resLV P st r = some v) : ∃ x, ResIs P w a.tmps r x ∧ RL st.bl μ v x := by
 cases r with
 | tmp t => cases hv; exact ⟨_, rfl, h.tm t⟩
 | cell c t =>
   have hc := h.tm c
   simp only [resLV] at hv
   split at hv
   · rename_i id htm
     rw [htm] at hc
     split at hv
     · rename_i xs hb
       obtain ⟨p, cells, ty, fr, g1, g2, g3, g4, g5⟩ := box_cells h hb hc
       split at hv
       · rename_i fs hg
         split at hv
         · rename_i hs
           cases hv
           have hs := Nat.eq_of_beq_eq_true hs
           have hlen := g5.len
           refine ⟨.agg cells, ?_, cells, rfl, g5⟩
           have := run_loadCells_at (P := P) (o := 0) (n := sizeOf? P t) g3 cells.toList (by rw [hs]; exact hlen.symm) (fun q v hq => by simpa using hq)
           unfold ResIs
           simp only
           rw [g2]
           simp [asAddr, loadVar, run_isAgg_struct hg, run_sizeOf' hg, this]
         · cases hv
       · cases hv
       · cases hv
       · rename_i d hn1 hn2 hg
         split at hv
         · rename_i x
           cases hv
           cases g5' : cells.toList with
           | nil => rw [g5'] at g5; cases g5
           | cons y l =>
             rw [g5'] at g5
             cases g5 with
             | cons k1 k2 =>
               cases k2
               refine ⟨y, ?_, k1⟩
               unfold ResIs
               simp only
               rw [g2]
               have hy : cells[0]? = some y := by
                 have : cells.toList[0]? = some y := by rw [g5']; rfl
                 simpa using this
               have hcell : w.cell? ⟨p.r, 0, none⟩ = some y := by simp [World.cell?, g3, hy]
               simp [asAddr, run_loadVar_one hg hn1 hn2 hcell]
         · cases hv
     · cases hv
   · cases hv
-- nil slices as empty rows
def KsOk (ks : List (Option (List Sc))) : Prop := ∀ cs, some cs ∈ ks → cs ≠ []
theorem cellKinds_ok (P : Program) : ∀ (d : Nat) (t : TypeId), KsOk (cellKinds P d t)
 | 0, t => by intro cs h; cases h
 | d + 1, t => by
   intro cs h
   simp only [cellKinds] at h
   split at h
   · rename_i e he
     simp only [List.mem_singleton] at h
     exact (scs_some h.symm).1
   · rename_i fs hf
     simp only [List.mem_flatMap] at h
     obtain ⟨f, _, hf⟩ := h
     exact cellKinds_ok P d f.type cs hf
   · simp at h
theorem KsOk.tail {ks : List (Option (List Sc))} (h : KsOk ks) : KsOk ks.tail := fun cs hc => h cs (List.mem_of_mem_tail hc)
theorem RowIs_nil (cs : List Sc) : RowIs w cs [] (.slice none 0 0) := ⟨none, 0, rfl, Nat.le_refl _, fun _ => ⟨rfl, rfl⟩, fun p hp => by cases hp⟩
theorem typedNil_row (ro : Bool) (ks : List (Option (List Sc))) (k : Kind) (cs : List Sc) (xs : List (RowT cs)) (ps : List PC) : typedNil ro ks (.row k cs xs :: ps) = .row (tyK ro k) cs xs :: typedNil ro ks.tail ps := by
 cases ks with
 | nil => rfl
 | cons o ks => cases o <;> rfl
theorem typedNil_s (ro : Bool) (ks : List (Option (List Sc))) (v : Value) (ps : List PC) (h : v ≠ .slice none 0 0 ∨ ∀ cs ks', ks ≠ some cs :: ks') : typedNil ro ks (.s v :: ps) = .s v :: typedNil ro ks.tail ps := by
 conv => lhs; unfold typedNil
 split
 · rename_i e; cases e
 · rename_i e; cases e
   rcases h with h | h
   · exact absurd rfl h
   · exact absurd rfl (h _ _)
 · rename_i e; cases e
 · rename_i e; cases e; rfl
theorem typed_is (ro : Bool) : ∀ (ks : List (Option (List Sc))) (ps : List PC) (vs : List Value), KsOk ks → All2 (PCIs (fun k => k) w) ps vs → All2 (PCIs (fun k => k) w) (typedNil ro ks ps) vs ∧
   (ro = false → pcIts (fun k => k) (typedNil ro ks ps) vs = pcIts (fun k => k) ps vs) ∧ (ro = true → ∀ it ∈ pcIts (fun k => k) (typedNil ro ks ps) vs, it.1 = false ∧ ∃ m, (m, it.2) ∈ pcIts (fun k => k) ps vs)
 | ks, [], _, hk, .nil => by
   have : typedNil ro ks [] = [] := by cases ks <;> (try rename_i o _; cases o) <;> rfl
   rw [this]
   exact ⟨.nil, fun _ => rfl, fun _ it h => by cases h⟩
 | ks, p :: ps, _, hk, .cons (b := x) (m := vs) h1 h2 => by
   obtain ⟨g1, g2, g3⟩ := typed_is ro ks.tail ps vs hk.tail h2
   have other : ∀ v, p = .s v → typedNil ro ks (p :: ps) = p :: typedNil ro ks.tail ps → All2 (PCIs (fun k => k) w) (typedNil ro ks (p :: ps)) (x :: vs) ∧
       (ro = false → pcIts (fun k => k) (typedNil ro ks (p :: ps)) (x :: vs) = pcIts (fun k => k) (p :: ps) (x :: vs)) ∧ (ro = true → ∀ it ∈ pcIts (fun k => k) (typedNil ro ks (p :: ps)) (x :: vs), it.1 = false ∧ ∃ m, (m, it.2) ∈ pcIts (fun k => k) (p :: ps) (x :: vs)) := by
     intro v e hh
     subst e
     rw [hh]
     exact ⟨.cons h1 g1, g2, g3⟩
   cases p with
   | row k cs xs =>
     rw [typedNil_row]
     obtain ⟨q1, q2, q3⟩ := h1
     cases ro with
     | false =>
       refine ⟨.cons ⟨q1, q2, q3⟩ g1, fun _ => ?_, fun e => by cases e⟩
       exact congrArg (rowIts (isWr k) x ++ ·) (g2 rfl)
     | true =>
       refine ⟨.cons ⟨q1, q2, fun hk => absurd rfl hk⟩ g1, fun e => (by cases e), fun _ it hit => ?_⟩
       have hit : it ∈ rowIts false x ++ pcIts (fun k => k) (typedNil true ks.tail ps) vs := hit
       rw [List.mem_append] at hit
       rcases hit with hit | hit
       · have : ∃ m, (m, it.2) ∈ rowIts (isWr k) x ∧ it.1 = false := by
           cases x with
           | slice ad n c =>
             cases ad with
             | none => cases hit
             | some q => simp only [rowIts, List.mem_singleton] at hit ⊢; subst hit; exact ⟨_, rfl, rfl⟩
           | _ => cases hit
         obtain ⟨m, e1, e2⟩ := this
         exact ⟨e2, m, List.mem_append_left _ e1⟩
       · obtain ⟨e1, m, e2⟩ := g3 rfl it hit
         exact ⟨e1, m, List.mem_append_right _ e2⟩
   | s v =>
     cases ks with
     | nil => exact other v rfl (typedNil_s _ _ _ _ (.inr fun _ _ e => by cases e))
     | cons o ks =>
       cases o with
       | none => exact other v rfl (typedNil_s _ _ _ _ (.inr fun _ _ e => by cases e))
       | some cs =>
         by_cases hv : v = .slice none 0 0
         · subst hv
           obtain ⟨rfl, _⟩ := h1
           have hh : typedNil ro (some cs :: ks) (.s (.slice none 0 0) :: ps) = .row (tyK ro .own) cs [] :: typedNil ro ks ps := rfl
           rw [hh]
           have e1 : ∀ (m : Bool) (l : List (Bool × Nat)), rowIts m (.slice none 0 0) ++ l = l := fun _ _ => rfl
           have hc : cs ≠ [] := hk cs (by simp)
           refine ⟨.cons ⟨hc, RowIs_nil cs, fun _ ad n cap e => by cases e⟩ g1, fun e => ?_, fun e it hit => ?_⟩
           · exact g2 e
           · exact g3 e it hit
         · exact other v rfl (typedNil_s _ _ _ _ (.inl hv))
end
/-! ### A function's answers, all of them; what the call began with. No condition beyond those that stand in each. -/
section
variable {N : Nat} {W0 : World} {M : Fr} {st : St} {μ : Lay} {a : Act} {w : World}
def kId : Kind → Kind := fun k => k
theorem typed_rv (P : Program) (ro : Bool) (t : TypeId) {rv : RV} {x : Value} (h : RVIs kId w rv x) : RVIs kId w (typedRV P ro t rv) x ∧
   (ro = false → rvIts kId w (typedRV P ro t rv) x = rvIts kId w rv x) ∧ (ro = true → (∀ ps, rv ≠ .ref ps) → ∀ it ∈ rvIts kId w (typedRV P ro t rv) x, it.1 = false ∧ ∃ m, (m, it.2) ∈ rvIts kId w rv x) := by
 cases rv with
 | ref ps => exact ⟨h, fun _ => rfl, fun _ hn => absurd rfl (hn ps)⟩
 | val agg ps =>
   cases agg with
   | false =>
     obtain ⟨p, rfl, hp⟩ := h
     obtain ⟨g1, g2, g3⟩ := typed_is ro (cellKinds P 4 t) [p] [x] (cellKinds_ok P 4 t) (.cons hp .nil)
     have hl : ∃ q, typedNil ro (cellKinds P 4 t) [p] = [q] := by
       have := g1.len
       match hh : typedNil ro (cellKinds P 4 t) [p], this with
       | [q], _ => exact ⟨q, rfl⟩
     obtain ⟨q, hq⟩ := hl
     refine ⟨⟨q, hq, ?_⟩, g2, fun e _ => g3 e⟩
     rw [hq] at g1
     cases g1 with
     | cons g _ => exact g
   | true =>
     obtain ⟨vs, rfl, hp⟩ := h
     obtain ⟨g1, g2, g3⟩ := typed_is ro (cellKinds P 4 t) ps vs.toList (cellKinds_ok P 4 t) hp
     exact ⟨⟨vs, rfl, g1⟩, g2, fun e _ => g3 e⟩
theorem typed_ref {P : Program} {ro : Bool} {t : TypeId} {rv : RV} {l : List RV} (h : noRef (typedRV P ro t rv :: l) = true) : (∀ ps, rv ≠ .ref ps) ∧ noRef l = true := by
 cases rv with
 | ref ps => cases h
 | val agg ps => exact ⟨fun _ e => (by cases e), h⟩
theorem res_are (h : Inv N W0 M st μ a w) (P : Program) (ro : Bool) : ∀ {rs : List ResultVar} {ts : List TypeId} {vs : List RV}, resOf P ro st rs ts = some vs →
   ∃ ys : List Value, All2 (ResIs P w a.tmps) rs ys ∧ All2 (RVIs kId w) vs ys ∧ ∃ its, ItsRel st.bl μ (resAll P st rs) its ∧ (ro = false → rvsIts kId w vs ys = its) ∧
     (ro = true → noRef vs = true → ∀ it ∈ rvsIts kId w vs ys, it.1 = false ∧ ∃ m, (m, it.2) ∈ its)
 | [], ts, vs, hr => by
   have : vs = [] := by cases ts <;> (simp only [resOf, Option.some.injEq] at hr; exact hr.symm)
   subst this
   exact ⟨[], .nil, .nil, [], .nil, fun _ => rfl, fun _ _ it hit => by cases hit⟩
 | r :: rs, [], vs, hr => by cases hr
 | r :: rs, t :: ts, vs, hr => by
   simp only [resOf] at hr
   split at hr
   · rename_i rv vs' h1 h2
     cases hr
     split at h1
     · rename_i v hv
       obtain ⟨ys, k0, k1, its, k2, k3, k4⟩ := res_are h P ro h2
       obtain ⟨x, hx, hrl⟩ := res_val h hv
       obtain ⟨g1, g2⟩ := rv_ans h h1 hrl
       obtain ⟨q1, q2, q3⟩ := typed_rv P ro t (w := w) g1
       refine ⟨x :: ys, .cons hx k0, .cons q1 k1, rvIts kId w rv x ++ its, ?_, fun e => ?_, fun e hn it hit => ?_⟩
       · have e : resAll P st (r :: rs) = resVIts st.bl v ++ resAll P st rs := by simp only [resAll, hv]
         rw [e]
         exact g2.app k2
       · show rvIts kId w (typedRV P ro t rv) _ ++ rvsIts kId w vs' _ = _
         rw [q2 e, k3 e]
       · obtain ⟨n1, n2⟩ := typed_ref hn
         have hit : it ∈ rvIts kId w (typedRV P ro t rv) x ++ rvsIts kId w vs' ys := hit
         rw [List.mem_append] at hit
         rcases hit with hit | hit
         · obtain ⟨e1, m, e2⟩ := q3 e n1 it hit
           exact ⟨e1, m, List.mem_append_left _ e2⟩
         · obtain ⟨e1, m, e2⟩ := k4 e n2 it hit
           exact ⟨e1, m, List.mem_append_right _ e2⟩
     · cases h1
   · cases hr
def pcRo : PC → Bool := fun | .row .ro _ _ => true | _ => false
theorem pcs_ro : ∀ {ps : List PC} {vs : List Value} {it : Bool × Nat}, it ∈ pcIts kId ps vs → it.1 = false → ps.any pcRo = true
 | .row k cs xs :: ps, x :: vs, it, h, e => by
   have h : it ∈ rowIts (isWr k) x ++ pcIts kId ps vs := h
   rw [List.mem_append] at h
   rcases h with h | h
   · have : isWr k = false := by
       cases x with
       | slice ad n c =>
         cases ad with
         | none => cases h
         | some q => simp only [rowIts, List.mem_singleton] at h; subst h; exact e
       | _ => cases h
     cases k with
     | ro => simp [pcRo]
     | _ => cases this
   · have := pcs_ro h e
     simp only [List.any_cons, Bool.or_eq_true]
     exact .inr this
 | .s v :: ps, x :: vs, it, h, e => by
   have := pcs_ro (ps := ps) (vs := vs) h e
   simp only [List.any_cons, Bool.or_eq_true]
   exact .inr this
 | [], [], it, h, e => by cases h
 | [], _ :: _, it, h, e => by cases h
 | .row _ _ _ :: _, [], it, h, e => by cases h
 | .s _ :: _, [], it, h, e => by cases h
theorem hasRo_cons (v : RV) (l : List RV) : hasRo (v :: l) = ((match v with | .val _ ps => ps.any pcRo | .ref ps => ps.any pcRo) || hasRo l) := by
 cases v <;> rfl
theorem rvs_ro : ∀ {vs : List RV} {ys : List Value} {it : Bool × Nat}, it ∈ rvsIts kId w vs ys → it.1 = false → hasRo vs = true
 | v :: vs, y :: ys, it, h, e => by
   have h : it ∈ rvIts kId w v y ++ rvsIts kId w vs ys := h
   rw [List.mem_append] at h
   rw [hasRo_cons, Bool.or_eq_true]
   rcases h with h | h
   · left
     cases v with
     | val agg ps =>
       cases agg with
       | false => exact pcs_ro (vs := [y]) h e
       | true =>
         cases y with
         | agg vs => exact pcs_ro (vs := vs.toList) h e
         | _ => cases h
     | ref ps =>
       cases y with
       | pointer q =>
         cases q with
         | none => cases h
         | some ad =>
           have h : it ∈ (true, ad.block) :: pcIts kId ps (cellsAt w ad.block) := h
           simp only [List.mem_cons] at h
           rcases h with rfl | h
           · cases e
           · exact pcs_ro h e
       | _ => cases h
   · exact .inr (rvs_ro h e)
 | [], [], _, h, _ => by cases h
 | [], _ :: _, _, h, _ => by cases h
 | _ :: _, [], _, h, _ => by cases h
end
/-! ### What a call began with, by name. No condition beyond those that stand in each. -/
/-- What may be turned, where the call begins. -/
inductive TEnt (w : World) (pl : Lay) (ln : Nat → Nat) : Turn → Tgt → Prop
 | ref {id p cells t fr} : pl id = some p → w.heap[p.r]? = some (.cells cells t fr) → (∀ (j : Nat) x x', cells[j]? = some x → SlOk (pl (id - 31 + j)) (ln (id - 31 + j)) x' → x = x') → cells.size ≤ 31 → TEnt w pl ln (.ref id) (.ref (.pointer (some ⟨p.r, 0, none⟩)))
 | row {id x} : SlOk (pl id) (ln id) x → TEnt w pl ln (.row id) (.row x)
 | nil {x} : TEnt w pl ln .nil (.row x)
def plOf (bl : Nat → Option Blk) (μ : Lay) : Lay := fun id => match bl id with
 | some _ => μ id
 | none => some ⟨0, 0, 0, 0⟩
def lnOf (bl : Nat → Option Blk) : Nat → Nat := fun id => match bl id with
 | some (.row _ _ xs) => xs.length
 | some _ => 0
 | none => 1
theorem SlOk.one {m : Option Place} {n : Nat} {x x' : Value} (h : SlOk m n x) (h' : SlOk m n x') : x = x' := by
 unfold SlOk at h h'
 cases m with
 | none => exact h.2.trans h'.2.symm
 | some m => exact h.2.trans h'.2.symm
theorem rowIds_s {v : Value} (hv : v ≠ .slice none 0 0) (id : Nat) (ps : List PC) : rowIds id (.s v :: ps) = rowIds (id + 1) ps := by
 conv => lhs; unfold rowIds
 split
 · rename_i e; cases e
 · rename_i e; cases e
 · rename_i e; cases e; exact absurd rfl hv
 · rename_i e; cases e; rfl
section
variable {w : World} {bl : Nat → Option Blk} {μ : Lay}
theorem sl_ent {id : Nat} {k : Kind} {cs : List Sc} {xs : List (RowT cs)} {x : Value} (hb : bl id = some (.row k cs xs)) (h : RC bl μ (.sl id) x) : SlOk (plOf bl μ id) (lnOf bl id) x := by
 obtain ⟨b, len, h1, h2, h3⟩ := h
 rw [hb] at h1; cases h1
 have := h3 _ _ _ rfl
 subst this
 unfold plOf lnOf
 rw [hb]
 exact h2
theorem rows_ent (kind : Kind → Kind) : ∀ (ps : List PC) (vs : List Value) (id : Nat), All2 (RC bl μ) (takeIn kind id ps).1 vs → (∀ i b, (i, b) ∈ (takeIn kind id ps).2 → bl i = some b) →
   All2 (TEnt w (plOf bl μ) (lnOf bl)) (rowIds id ps) (pcTgts ps vs)
 | [], _, id, .nil, hb => .nil
 | .row k cs xs :: ps, _, id, .cons (b := x) (m := vs) h1 h2, hb => by
   have h := rows_ent kind ps vs (id + 1) h2 (fun i b hm => hb i b (List.mem_cons_of_mem _ hm))
   exact .cons (.row (sl_ent (hb id _ (List.mem_cons_self ..)) h1)) h
 | .s v :: ps, _, id, .cons (b := x) (m := vs) h1 h2, hb => by
   have h := rows_ent kind ps vs (id + 1) h2 hb
   by_cases hv : v = .slice none 0 0
   · subst hv; exact .cons .nil h
   · rw [rowIds_s hv, pcTgts_s hv]; exact h
theorem rows_its (kind kind' : Kind → Kind) : ∀ (ps : List PC) (vs : List Value) (id : Nat) (it : Bool × Nat), All2 (RC bl μ) (takeIn kind id ps).1 vs → it ∈ pcIts kind' ps vs →
   ∃ i p, Turn.row i ∈ rowIds id ps ∧ μ i = some p ∧ p.r = it.2 ∧ bl i ≠ none
 | [], _, id, it, .nil, h => by cases h
 | .row k cs xs :: ps, _, id, it, .cons (b := x) (m := vs) h1 h2, h => by
   have h : it ∈ rowIts (isWr (kind' k)) x ++ pcIts kind' ps vs := h
   rw [List.mem_append] at h
   rcases h with h | h
   · obtain ⟨b, len, g1, g2, g3⟩ := h1
     unfold SlOk at g2
     cases hm : μ id with
     | none => rw [hm] at g2; obtain ⟨_, rfl⟩ := g2; cases h
     | some m =>
       rw [hm] at g2
       obtain ⟨_, rfl⟩ := g2
       simp only [rowIts, List.mem_singleton] at h
       subst h
       exact ⟨id, m, List.mem_cons_self .., hm, rfl, by rw [g1]; simp⟩
   · obtain ⟨i, p, g1, g2⟩ := rows_its kind kind' ps vs (id + 1) it h2 h
     exact ⟨i, p, List.mem_cons_of_mem _ g1, g2⟩
 | .s v :: ps, _, id, it, .cons (b := x) (m := vs) h1 h2, h => by
   obtain ⟨i, p, g1, g2⟩ := rows_its kind kind' ps vs (id + 1) it h2 h
   refine ⟨i, p, ?_, g2⟩
   by_cases hv : v = .slice none 0 0
   · subst hv; exact List.mem_cons_of_mem _ g1
   · rw [rowIds_s hv]; exact g1
theorem its_rows (kind : Kind → Kind) : ∀ (ps : List PC) (vs : List Value) (it : Bool × Nat), it ∈ pcIts kind ps vs → it.2 ∈ (pcIts (fun _ => .ro) ps vs).map fun x => x.2
 | .row k cs xs :: ps, x :: vs, it, h => by
   have h : it ∈ rowIts (isWr (kind k)) x ++ pcIts kind ps vs := h
   show it.2 ∈ (rowIts _ x ++ pcIts (fun _ => .ro) ps vs).map fun x => x.2
   rw [List.map_append, List.mem_append]
   rw [List.mem_append] at h
   rcases h with h | h
   · left
     cases x with
     | slice ad n c =>
       cases ad with
       | none => cases h
       | some q => simp only [rowIts, List.mem_singleton] at h; subst h; simp [rowIts]
     | _ => cases h
   · exact .inr (its_rows kind ps vs it h)
 | .s v :: ps, x :: vs, it, h => its_rows kind ps vs it h
 | [], [], it, h => by cases h
 | [], _ :: _, it, h => by cases h
 | .row _ _ _ :: _, [], it, h => by cases h
 | .s _ :: _, [], it, h => by cases h
theorem its_false (kind : Kind → Kind) (hk : ∀ k, kind k = .ro) : ∀ (ps : List PC) (vs : List Value) (it : Bool × Nat), it ∈ pcIts kind ps vs → it.1 = false
 | .row k cs xs :: ps, x :: vs, it, h => by
   have h : it ∈ rowIts (isWr (kind k)) x ++ pcIts kind ps vs := h
   rw [List.mem_append] at h
   rcases h with h | h
   · rw [hk] at h
     cases x with
     | slice ad n c =>
       cases ad with
       | none => cases h
       | some q => simp only [rowIts, List.mem_singleton] at h; subst h; rfl
     | _ => cases h
   · exact its_false kind hk ps vs it h
 | .s v :: ps, x :: vs, it, h => its_false kind hk ps vs it h
 | [], [], it, h => by cases h
 | [], _ :: _, it, h => by cases h
 | .row _ _ _ :: _, [], it, h => by cases h
 | .s _ :: _, [], it, h => by cases h
-- names
theorem takeIn_names (kind : Kind → Kind) : ∀ (ps : List PC) (id i : Nat), i ∈ fstB (takeIn kind id ps).2 → ∃ j k cs xs, i = id + j ∧ ps[j]? = some (.row k cs xs)
 | [], id, i, h => by cases h
 | .s v :: ps, id, i, h => by
   obtain ⟨j, k, cs, xs, rfl, h2⟩ := takeIn_names kind ps (id + 1) i h
   exact ⟨j + 1, k, cs, xs, by omega, by simpa using h2⟩
 | .row k cs xs :: ps, id, i, h => by
   have h : i ∈ id :: fstB (takeIn kind (id + 1) ps).2 := h
   simp only [List.mem_cons] at h
   rcases h with rfl | h
   · exact ⟨0, k, cs, xs, rfl, rfl⟩
   · obtain ⟨j, k, cs, xs, rfl, h2⟩ := takeIn_names kind ps (id + 1) i h
     exact ⟨j + 1, k, cs, xs, by omega, by simpa using h2⟩
theorem takeIn_at (kind : Kind → Kind) : ∀ (ps : List PC) (id j : Nat) (k : Kind) (cs : List Sc) (xs : List (RowT cs)), ps[j]? = some (.row k cs xs) → (takeIn kind id ps).1[j]? = some (.sl (id + j)) ∧ (id + j, .row (kind k) cs xs) ∈ (takeIn kind id ps).2
 | [], id, j, k, cs, xs, h => by simp at h
 | .s v :: ps, id, 0, k, cs, xs, h => by simp at h
 | .s v :: ps, id, j + 1, k, cs, xs, h => by
   obtain ⟨h1, h2⟩ := takeIn_at kind ps (id + 1) j k cs xs (by simpa using h)
   have e : id + 1 + j = id + (j + 1) := by omega
   rw [e] at h1 h2
   exact ⟨by simpa [takeIn] using h1, h2⟩
 | .row k' cs' xs' :: ps, id, 0, k, cs, xs, h => by
   simp only [List.getElem?_cons_zero, Option.some.injEq] at h
   cases h
   exact ⟨rfl, List.mem_cons_self ..⟩
 | .row k' cs' xs' :: ps, id, j + 1, k, cs, xs, h => by
   obtain ⟨h1, h2⟩ := takeIn_at kind ps (id + 1) j k cs xs (by simpa using h)
   have e : id + 1 + j = id + (j + 1) := by omega
   rw [e] at h1 h2
   exact ⟨by simpa [takeIn] using h1, List.mem_cons_of_mem _ h2⟩
theorem takeIn_len (kind : Kind → Kind) : ∀ (ps : List PC) (id : Nat), (takeIn kind id ps).1.length = ps.length
 | [], _ => rfl
 | .s v :: ps, id => by simp [takeIn, takeIn_len kind ps]
 | .row _ _ _ :: ps, id => by simp [takeIn, takeIn_len kind ps]
def RV.pcs : RV → List PC
 | .val _ ps => ps
 | .ref ps => ps
theorem takeRV_names (kind : Kind → Kind) (v : RV) (id i : Nat) (h : i ∈ fstB (takeRV kind id v).2) : (∃ j k cs xs, i = id + j ∧ v.pcs[j]? = some (.row k cs xs)) ∨ i = id + 31 := by
 cases v with
 | val agg ps => exact .inl (takeIn_names kind ps id i h)
 | ref ps =>
   have h : i ∈ (id + 31) :: fstB (takeIn kind id ps).2 := h
   simp only [List.mem_cons] at h
   rcases h with h | h
   · exact .inr h
   · exact .inl (takeIn_names kind ps id i h)
theorem entered_ge (muts : List Nat) : ∀ (l : List RV) (n i : Nat), i ∈ fstB (entered muts n l).2.1 → 32 * n ≤ i
 | [], n, i, h => by cases h
 | v :: l, n, i, h => by
   have h : i ∈ fstB ((takeRV (inKind muts n v) (32 * n) v).2 ++ (entered muts (n + 1) l).2.1) := h
   rw [fstB_app, List.mem_append] at h
   rcases h with h | h
   · rcases takeRV_names _ v _ i h with ⟨j, _, _, _, rfl, _⟩ | rfl <;> omega
   · have := entered_ge muts l (n + 1) i h; omega
end
/-! ### What a call began with: all its arguments. No condition beyond those that stand in each. -/
section
variable {w : World} {bl : Nat → Option Blk} {μ : Lay}
structure EntFacts (w : World) (bl : Nat → Option Blk) (μ : Lay) (muts : List Nat) (n : Nat) (l : List RV) (xs : List Value) : Prop where
 tgt : All2 (TEnt w (plOf bl μ) (lnOf bl)) (entered muts n l).2.2 (argTgts muts n l xs)
 wr : ∀ r, (true, r) ∈ argsIts muts w n l xs → ∃ id p, (Turn.ref id ∈ (entered muts n l).2.2 ∨ Turn.row id ∈ (entered muts n l).2.2) ∧ μ id = some p ∧ p.r = r ∧ bl id ≠ none
 all : ∀ it ∈ argsIts muts w n l xs, it.2 ∈ argsRows w l xs ∨ ∃ id p, Turn.ref id ∈ (entered muts n l).2.2 ∧ μ id = some p ∧ p.r = it.2 ∧ bl id ≠ none
def turnsOf (muts : List Nat) (n : Nat) : RV → List Turn
 | .ref _ => [.ref (32 * n + 31)]
 | .val _ ps => match muts.contains n with
   | true => rowIds (32 * n) ps
   | false => []
theorem entered_turns (muts : List Nat) (n : Nat) (v : RV) (l : List RV) : (entered muts n (v :: l)).2.2 = turnsOf muts n v ++ (entered muts (n + 1) l).2.2 := by
 cases v <;> rfl
/-- One argument. -/
structure HeadFacts (w : World) (bl : Nat → Option Blk) (μ : Lay) (muts : List Nat) (n : Nat) (v : RV) (x : Value) : Prop where
 tgt : All2 (TEnt w (plOf bl μ) (lnOf bl)) (turnsOf muts n v) (rvTgts (muts.contains n) v x)
 wr : ∀ r, (true, r) ∈ rvIts (inKind muts n v) w v x → ∃ id p, (Turn.ref id ∈ turnsOf muts n v ∨ Turn.row id ∈ turnsOf muts n v) ∧ μ id = some p ∧ p.r = r ∧ bl id ≠ none
 all : ∀ it ∈ rvIts (inKind muts n v) w v x, it.2 ∈ rvRows w v x ∨ ∃ id p, Turn.ref id ∈ turnsOf muts n v ∧ μ id = some p ∧ p.r = it.2 ∧ bl id ≠ none
theorem head_row {muts : List Nat} {n : Nat} {ps : List PC} {vs : List Value} {v : RV} {x : Value} (agg : Bool) (hv : v = .val agg ps) (h1 : rvIts (inKind muts n v) w v x = pcIts (inKind muts n v) ps vs) (h2 : rvTgts (muts.contains n) v x = match muts.contains n with | true => pcTgts ps vs | false => [])
   (h3 : rvRows w v x = (pcIts (fun _ => .ro) ps vs).map fun x => x.2) (hc : All2 (RC bl μ) (takeIn (inKind muts n v) (32 * n) ps).1 vs) (hb : ∀ i b, (i, b) ∈ (takeIn (inKind muts n v) (32 * n) ps).2 → bl i = some b) : HeadFacts w bl μ muts n v x := by
 subst hv
 cases hm : muts.contains n with
 | true =>
   have ht : turnsOf muts n (.val agg ps) = rowIds (32 * n) ps := by simp only [turnsOf, hm]
   rw [hm] at h2
   refine ⟨?_, fun r hr => ?_, fun it hit => ?_⟩
   · rw [ht, hm, h2]; exact rows_ent _ ps vs _ hc hb
   · rw [h1] at hr
     obtain ⟨i, p, g1, g2, g3, g4⟩ := rows_its _ _ ps vs (32 * n) _ hc hr
     exact ⟨i, p, .inr (by rw [ht]; exact g1), g2, g3, g4⟩
   · rw [h1] at hit; rw [h3]
     exact .inl (its_rows _ ps vs it hit)
 | false =>
   have ht : turnsOf muts n (.val agg ps) = [] := by simp only [turnsOf, hm]
   have hk : ∀ k, inKind muts n (.val agg ps) k = .ro := by intro k; simp only [inKind, hm, fixRo]
   rw [hm] at h2
   refine ⟨?_, fun r hr => ?_, fun it hit => ?_⟩
   · rw [ht, hm, h2]; exact .nil
   · rw [h1] at hr
     have := its_false _ hk ps vs _ hr
     cases this
   · rw [h1] at hit; rw [h3]
     exact .inl (its_rows _ ps vs it hit)
theorem entry_head (hB : ∀ id b, bl id = some b → BR w bl μ id b) {muts : List Nat} {n : Nat} {v : RV} {x : Value} (hx : RVIs (inKind muts n v) w v x) (hlen : v.pcs.length ≤ 31)
   (hr : RL bl μ (asLV (takeRV (inKind muts n v) (32 * n) v).1.1 (takeRV (inKind muts n v) (32 * n) v).1.2) x) (hb : ∀ i b, (i, b) ∈ (takeRV (inKind muts n v) (32 * n) v).2 → bl i = some b)
   (hd : ∀ i, 32 * n ≤ i → i < 32 * n + 32 → bl i ≠ none → i ∈ fstB (takeRV (inKind muts n v) (32 * n) v).2) : HeadFacts w bl μ muts n v x := by
 cases v with
 | val agg ps =>
   cases agg with
   | false =>
     obtain ⟨p, rfl, hp⟩ := hx
     refine head_row false rfl rfl ?_ rfl (vs := [x]) ?_ hb
     · cases hm : muts.contains n <;> rfl
     · have hl : ∃ c, (takeIn (inKind muts n (.val false [p])) (32 * n) [p]).1 = [c] := by cases p <;> exact ⟨_, rfl⟩
       obtain ⟨c, hc⟩ := hl
       have hr : RL bl μ (asLV false (takeIn (inKind muts n (.val false [p])) (32 * n) [p]).1) x := hr
       rw [hc] at hr ⊢
       exact .cons hr .nil
   | true =>
     obtain ⟨vs, rfl, hp⟩ := hx
     refine head_row true rfl rfl ?_ rfl (vs := vs.toList) ?_ hb
     · cases hm : muts.contains n <;> rfl
     · have hr : RL bl μ (.agg (takeIn (inKind muts n (.val true ps)) (32 * n) ps).1) (.agg vs) := hr
       obtain ⟨vs', e, hr⟩ := hr
       cases e
       exact hr
 | ref ps =>
   obtain ⟨r, cells, t, fr, rfl, h1, h2, h3⟩ := hx
   have hr : RC bl μ (.ptr (32 * n + 31) 0 0) (.pointer (some ⟨r, 0, none⟩)) := hr
   have hbox : bl (32 * n + 31) = some (.box (takeIn (inKind muts n (.ref ps)) (32 * n) ps).1) := hb _ _ (List.mem_cons_self ..)
   obtain ⟨b, m, g1, g2, g3, _⟩ := hr
   have hBx := hB _ _ hbox
   obtain ⟨m', cells', t', fr', k1, k2, k3, k4, k5⟩ := hBx
   rw [g2] at k1; cases k1
   have hmr : m.r = r := by
     simp only [Value.pointer.injEq, Option.some.injEq, Addr.mk.injEq] at g3
     exact g3.1.symm
   rw [hmr, h1] at k3
   cases k3
   have hpl : plOf bl μ (32 * n + 31) = some m := by unfold plOf; rw [hbox]; exact g2
   refine ⟨?_, fun q hq => ?_, fun it hit => ?_⟩
   · show All2 _ [Turn.ref (32 * n + 31)] [Tgt.ref (.pointer (some ⟨r, 0, none⟩))]
     rw [← hmr]
     refine .cons (.ref hpl (by rw [hmr]; exact h1) (fun j x x' hx hs => ?_) ?_) .nil
     rotate_left
     · have := k5.len
       rw [takeIn_len] at this
       have hlen : ps.length ≤ 31 := hlen
       simp at this
       omega
     have ej : 32 * n + 31 - 31 + j = 32 * n + j := by omega
     rw [ej] at hs
     have hxl : cells.toList[j]? = some x := by simpa using hx
     have hjl : j < ps.length := by
       have := k5.len
       rw [takeIn_len] at this
       have h := (List.getElem?_eq_some_iff.1 hxl).1
       omega
     have hj31 : j < 31 := Nat.lt_of_lt_of_le hjl hlen
     cases hbj : bl (32 * n + j) with
     | none =>
       unfold plOf lnOf at hs
       rw [hbj] at hs
       simp only [SlOk] at hs
       omega
     | some bj =>
       have hm := hd (32 * n + j) (by omega) (by omega) (by rw [hbj]; simp)
       rcases takeRV_names _ _ _ _ hm with ⟨j', k, cs, ys, e, hps⟩ | e
       · have e : j' = j := by omega
         subst e
         obtain ⟨q1, q2⟩ := takeIn_at (inKind muts n (.ref ps)) ps (32 * n) j' k cs ys hps
         have hbr := hb _ _ (List.mem_cons_of_mem _ q2)
         exact (sl_ent hbr (All2.at k5 q1 hxl)).one hs
       · omega
   · have hq : (true, q) ∈ (true, r) :: pcIts (inKind muts n (.ref ps)) ps (cellsAt w r) := hq
     simp only [List.mem_cons, Prod.mk.injEq, true_and] at hq
     rcases hq with rfl | hq
     · exact ⟨32 * n + 31, m, .inl (List.mem_singleton.2 rfl), g2, hmr, by rw [hbox]; simp⟩
     · have := its_false (inKind muts n (.ref ps)) (fun _ => rfl) _ _ _ hq
       cases this
   · have hit : it ∈ (true, r) :: pcIts (inKind muts n (.ref ps)) ps (cellsAt w r) := hit
     simp only [List.mem_cons] at hit
     rcases hit with rfl | hit
     · exact .inr ⟨32 * n + 31, m, List.mem_singleton.2 rfl, g2, hmr, by rw [hbox]; simp⟩
     · exact .inl (its_rows _ _ _ _ hit)
theorem entry_facts (hB : ∀ id b, bl id = some b → BR w bl μ id b) {muts : List Nat} : ∀ (l : List RV) (xs : List Value) (n : Nat) (f : Nat → Value), ArgsAre muts w n l xs → (∀ v ∈ l, v.pcs.length ≤ 31) → (∀ i x, xs[i]? = some x → f (n + i) = x) →
   (∀ t, n ≤ t → RL bl μ (look (.c .any) (entered muts n l).1 t) (f t)) → (∀ id b, (id, b) ∈ (entered muts n l).2.1 → bl id = some b) → (∀ i, 32 * n ≤ i → bl i ≠ none → i ∈ fstB (entered muts n l).2.1) → EntFacts w bl μ muts n l xs
 | [], _, n, f, .nil, _, _, _, _, _ => ⟨.nil, fun r hr => (by cases hr), fun it hit => by cases hit⟩
 | v :: l, _, n, f, .cons (x := x) (xs := xs) h1 h2, hl, hf, hr, hb, hd => by
   have hb1 : ∀ i b, (i, b) ∈ (takeRV (inKind muts n v) (32 * n) v).2 → bl i = some b := fun i b hm => hb i b (List.mem_append_left _ hm)
   have hb2 : ∀ i b, (i, b) ∈ (entered muts (n + 1) l).2.1 → bl i = some b := fun i b hm => hb i b (List.mem_append_right _ hm)
   have hd' : ∀ i, 32 * n ≤ i → bl i ≠ none → i ∈ fstB (takeRV (inKind muts n v) (32 * n) v).2 ∨ i ∈ fstB (entered muts (n + 1) l).2.1 := by
     intro i hi hn
     have h := hd i hi hn
     have h : i ∈ fstB ((takeRV (inKind muts n v) (32 * n) v).2 ++ (entered muts (n + 1) l).2.1) := h
     rw [fstB_app, List.mem_append] at h
     exact h
   have T := entry_facts hB l xs (n + 1) f h2 (fun v hv => hl v (List.mem_cons_of_mem _ hv)) (fun i y hy => by have := hf (i + 1) y (by simpa using hy); rw [← this]; congr 1; omega)
     (fun t ht => by
       have := hr t (by omega)
       have e : look (LV.c .any) (entered muts n (v :: l)).1 t = look (LV.c .any) (entered muts (n + 1) l).1 t := by
         show (match Nat.beq t n with | true => _ | false => look (LV.c .any) (entered muts (n + 1) l).1 t) = _
         cases hb : Nat.beq t n with
         | true => have := Nat.eq_of_beq_eq_true hb; omega
         | false => rfl
       rw [e] at this
       exact this) hb2 (fun i hi hn => by
         rcases hd' i (by omega) hn with h | h
         · exfalso
           rcases takeRV_names _ _ _ _ h with ⟨j, k, cs, ys, e, hps⟩ | e
           · have := (List.getElem?_eq_some_iff.1 hps).1
             have := hl v (List.mem_cons_self ..)
             omega
           · omega
         · exact h)
   have hx := hf 0 x (by simp)
   simp only [Nat.add_zero] at hx
   have Hd : HeadFacts w bl μ muts n v x := by
     refine entry_head hB h1 (hl v (List.mem_cons_self ..)) ?_ hb1 (fun i hi hi2 hn => ?_)
     · have := hr n (Nat.le_refl _)
       have e : look (LV.c .any) (entered muts n (v :: l)).1 n = asLV (takeRV (inKind muts n v) (32 * n) v).1.1 (takeRV (inKind muts n v) (32 * n) v).1.2 := by
         show (match Nat.beq n n with | true => _ | false => look (LV.c .any) (entered muts (n + 1) l).1 n) = _
         rw [show Nat.beq n n = true by simp]
       rw [e, hx] at this
       exact this
     · rcases hd' i hi hn with h | h
       · exact h
       · have := entered_ge muts l (n + 1) i h; omega
   refine ⟨?_, fun r hr => ?_, fun it hit => ?_⟩
   · rw [entered_turns]
     exact Hd.tgt.app T.tgt
   · rw [entered_turns]
     have hr : (true, r) ∈ rvIts (inKind muts n v) w v x ++ argsIts muts w (n + 1) l xs := hr
     rw [List.mem_append] at hr
     rcases hr with hr | hr
     · obtain ⟨id, p, g1, g2⟩ := Hd.wr r hr
       exact ⟨id, p, g1.imp (List.mem_append_left _) (List.mem_append_left _), g2⟩
     · obtain ⟨id, p, g1, g2⟩ := T.wr r hr
       exact ⟨id, p, g1.imp (List.mem_append_right _) (List.mem_append_right _), g2⟩
   · rw [entered_turns]
     have hit : it ∈ rvIts (inKind muts n v) w v x ++ argsIts muts w (n + 1) l xs := hit
     show it.2 ∈ rvRows w v x ++ argsRows w l xs ∨ _
     rw [List.mem_append] at hit
     rw [List.mem_append]
     rcases hit with hit | hit
     · rcases Hd.all it hit with g | ⟨id, p, g1, g2⟩
       · exact .inl (.inl g)
       · exact .inr ⟨id, p, List.mem_append_left _ g1, g2⟩
     · rcases T.all it hit with g | ⟨id, p, g1, g2⟩
       · exact .inl (.inr g)
       · exact .inr ⟨id, p, List.mem_append_right _ g1, g2⟩
end
/-! ### A function: what the evaluator says of it, a call of it does. No condition beyond those that stand in each. -/
section
variable {N : Nat} {w : World} {M : Fr} {st : St} {μ : Lay} {a : Act} {w' : World}
theorem back_upd {pl : Lay} {ln : Nat → Nat} (h : Inv N w M st μ a w') (hent : ∀ id b, id < 1000 → st.bl id = some b → μ id = pl id ∧ ∀ k cs xs, b = .row k cs xs → xs.length = ln id) :
   ∀ (xs : List Cell) (id : Nat) (ps : List PC) (l m : List Value), updCells st id xs = some ps → All2 (RC st.bl μ) xs m → l.length = m.length → id + xs.length ≤ 1000 → (∀ (j : Nat) x x', l[j]? = some x → SlOk (pl (id + j)) (ln (id + j)) x' → x = x') → Back3 ps l m
 | [], id, ps, l, _, hu, .nil, hl, _, _ => by
   cases hu
   have := List.eq_nil_of_length_eq_zero hl
   subst this
   exact .nil
 | c :: xs, id, ps, l, _, hu, .cons (b := y) (m := m) h1 h2, hl, hid, ho => by
   cases l with
   | nil => simp at hl
   | cons x l =>
     have hrec : ∀ ps, updCells st (id + 1) xs = some ps → Back3 ps l m := fun ps hp => back_upd h hent xs (id + 1) ps l m hp h2 (by simpa using hl) (by simp at hid; omega) (fun j x x' hx hs => by
       refine ho (j + 1) x x' (by simpa using hx) ?_
       have e : id + (j + 1) = id + 1 + j := by omega
       rw [e]; exact hs)
     cases c with
     | s v =>
       simp only [updCells] at hu
       split at hu
       · rename_i qs hq
         cases hu
         obtain ⟨rfl, _⟩ := h1
         exact .s (hrec qs hq)
       · cases hu
     | sl i =>
       simp only [updCells] at hu
       split at hu
       · rename_i k cs ys qs hi hb hq
         cases hu
         have hi := Nat.eq_of_beq_eq_true hi
         subst hi
         simp only [List.length_cons] at hid
         obtain ⟨e1, e2⟩ := hent i _ (by omega) hb
         have e2 := e2 _ _ _ rfl
         obtain ⟨b, len, g1, g2, g3⟩ := h1
         rw [hb] at g1; cases g1
         have g3 := g3 _ _ _ rfl
         subst g3
         rw [e1, e2] at g2
         have := ho 0 x y (by simp) (by simpa using g2)
         subst this
         exact .row (hrec qs hq)
       · cases hu
     | any => simp [updCells] at hu
     | ptr _ _ _ => simp [updCells] at hu
     | sub _ _ _ => simp [updCells] at hu
theorem upds_are {pl : Lay} {ln : Nat → Nat} (h : Inv N w M st μ a w') (hent : ∀ id b, id < 1000 → st.bl id = some b → μ id = pl id ∧ ∀ k cs xs, b = .row k cs xs → xs.length = ln id) :
   ∀ {ts : List Turn} {tg : List Tgt} {us : List (List PC)}, updsOf st ts = some us → All2 (TEnt w pl ln) ts tg → (∀ id, Turn.ref id ∈ ts ∨ Turn.row id ∈ ts → id < 1000) → All2 (TgtIs w w') tg us
 | [], _, us, hu, .nil, _ => by cases hu; exact .nil
 | x :: ts, _, us, hu, .cons (b := g) (m := tg) h1 h2, hid => by
   have hrec : ∀ us, updsOf st ts = some us → All2 (TgtIs w w') tg us := fun us hu => upds_are h hent hu h2 (fun id hm => hid id (hm.imp (List.mem_cons_of_mem _) (List.mem_cons_of_mem _)))
   cases h1 with
   | nil => simp [updsOf] at hu
   | row hs =>
     rename_i id x
     simp only [updsOf] at hu
     split at hu
     · rename_i v vs h3 h4
       cases hu
       split at h3
       · rename_i k cs xs hb
         cases h3
         obtain ⟨e1, e2⟩ := hent id _ (hid id (.inr (List.mem_cons_self ..))) hb
         have e2 := e2 _ _ _ rfl
         refine .cons ⟨k, cs, xs, rfl, ?_⟩ (hrec _ h4)
         refine h.row hb ⟨_, xs.length, hb, ?_, fun k ds ys e => by cases e; rfl⟩
         rw [e1, e2]; exact hs
       · cases h3
     · cases hu
   | ref hp hc ho hz =>
     rename_i id p cells t fr
     simp only [updsOf] at hu
     split at hu
     · rename_i v vs h3 h4
       cases hu
       split at h3
       · rename_i xs hb
         obtain ⟨e1, _⟩ := hent id _ (hid id (.inl (List.mem_cons_self ..))) hb
         obtain ⟨m', cells', t', fr', k1, k2, k3, k4, k5⟩ := h.bl id _ hb
         rw [e1, hp] at k1
         cases k1
         obtain ⟨c2, q1, q2⟩ := h.since.shape p.r cells t fr (lt_of_some hc) hc
         rw [k3] at q1
         cases q1
         refine .cons ⟨p.r, cells, t, fr, cells', rfl, hc, k3, ?_⟩ (hrec _ h4)
         refine back_upd h hent xs (id - 31) v _ _ h3 k5 (by simp [q2]) (by have e1 := k5.len; have e2 := hid id (.inl (List.mem_cons_self ..)); simp at e1; omega) (fun j x x' hx hs => ho j x x' (by simpa using hx) hs)
       · cases h3
     · cases hu
theorem upds_have {ts : List Turn} : ∀ {us : List (List PC)}, updsOf st ts = some us → (∀ id, Turn.ref id ∈ ts → ∃ xs, st.bl id = some (.box xs)) ∧ ∀ id, Turn.row id ∈ ts → ∃ k cs xs, st.bl id = some (.row k cs xs) := by
 induction ts with
 | nil => intro us _; exact ⟨fun id h => (by cases h), fun id h => by cases h⟩
 | cons x ts ih =>
   intro us hu
   simp only [updsOf] at hu
   split at hu
   · rename_i v vs h3 h4
     obtain ⟨g1, g2⟩ := ih h4
     constructor
     · intro id hm
       simp only [List.mem_cons] at hm
       rcases hm with hm | hm
       · subst hm
         simp only at h3
         split at h3
         · rename_i xs hb; exact ⟨xs, hb⟩
         · cases h3
       · exact g1 id hm
     · intro id hm
       simp only [List.mem_cons] at hm
       rcases hm with hm | hm
       · subst hm
         simp only at h3
         split at h3
         · rename_i k cs xs hb; exact ⟨k, cs, xs, hb⟩
         · cases h3
       · exact g2 id hm
   · cases hu
end
/-! ### A function: its answer, and a call of it. No condition beyond those that stand in each. -/
theorem turns_lt (muts : List Nat) : ∀ (l : List RV) (n id : Nat), (∀ v ∈ l, v.pcs.length ≤ 31) → (Turn.ref id ∈ (entered muts n l).2.2 ∨ Turn.row id ∈ (entered muts n l).2.2) → id < 32 * (n + l.length)
 | [], n, id, _, h => by rcases h with h | h <;> cases h
 | v :: l, n, id, hl, h => by
   rw [entered_turns] at h
   simp only [List.mem_append] at h
   have hrow : ∀ (ps : List PC) (q : Nat), (Turn.ref id ∈ rowIds q ps → False) ∧ (Turn.row id ∈ rowIds q ps → id < q + ps.length) := by
     intro ps
     induction ps with
     | nil => intro q; exact ⟨fun h => (by cases h), fun h => by cases h⟩
     | cons p ps ih =>
       intro q
       obtain ⟨h1, h2⟩ := ih (q + 1)
       cases p with
       | row k cs xs =>
         constructor
         · intro h
           have h : Turn.ref id ∈ Turn.row q :: rowIds (q + 1) ps := h
           simp only [List.mem_cons, reduceCtorEq, false_or] at h
           exact h1 h
         · intro h
           have h : Turn.row id ∈ Turn.row q :: rowIds (q + 1) ps := h
           simp only [List.mem_cons, Turn.row.injEq] at h
           simp only [List.length_cons]
           rcases h with h | h
           · omega
           · have := h2 h; omega
       | s v =>
         by_cases hv : v = .slice none 0 0
         · subst hv
           constructor
           · intro h
             have h : Turn.ref id ∈ Turn.nil :: rowIds (q + 1) ps := h
             simp only [List.mem_cons, reduceCtorEq, false_or] at h
             exact h1 h
           · intro h
             have h : Turn.row id ∈ Turn.nil :: rowIds (q + 1) ps := h
             simp only [List.mem_cons, reduceCtorEq, false_or] at h
             simp only [List.length_cons]
             have := h2 h; omega
         · rw [rowIds_s hv]
           exact ⟨h1, fun h => by have := h2 h; simp only [List.length_cons]; omega⟩
   have hd : Turn.ref id ∈ turnsOf muts n v ∨ Turn.row id ∈ turnsOf muts n v → id < 32 * (n + (v :: l).length) := by
     intro h
     have hv := hl v (List.mem_cons_self ..)
     simp only [List.length_cons]
     cases v with
     | ref ps =>
       simp only [turnsOf, List.mem_singleton, Turn.ref.injEq, reduceCtorEq, or_false] at h
       omega
     | val agg ps =>
       simp only [turnsOf] at h
       have hv : ps.length ≤ 31 := hv
       split at h
       · rcases h with h | h
         · exact ((hrow ps _).1 h).elim
         · have := (hrow ps _).2 h; omega
       · rcases h with h | h <;> cases h
   have tl : Turn.ref id ∈ (entered muts (n + 1) l).2.2 ∨ Turn.row id ∈ (entered muts (n + 1) l).2.2 → id < 32 * (n + (v :: l).length) := by
     intro h
     have := turns_lt muts l (n + 1) id (fun v hv => hl v (List.mem_cons_of_mem _ hv)) h
     simp only [List.length_cons]
     omega
   rcases h with (h | h) | (h | h)
   · exact hd (.inl h)
   · exact tl (.inl h)
   · exact hd (.inr h)
   · exact tl (.inr h)
theorem itsOk_app : ∀ {l m : List (Bool × Nat)}, itsOk (l ++ m) = true → itsOk m = true ∧ ∀ id, (true, id) ∈ l → ∀ q ∈ m, q.2 ≠ id
 | [], m, h => ⟨h, fun id hm => by cases hm⟩
 | (b, n) :: l, m, h => by
   obtain ⟨h1, h2⟩ := itsOk_cons (l := l ++ m) h
   obtain ⟨g1, g2⟩ := itsOk_app h2
   refine ⟨g1, fun id hm q hq => ?_⟩
   simp only [List.mem_cons, Prod.mk.injEq] at hm
   rcases hm with ⟨rfl, rfl⟩ | hm
   · exact h1 q (List.mem_append_right _ hq) (.inl rfl)
   · exact g2 id hm q hq
theorem turnIts_mem {id : Nat} : ∀ {ts : List Turn}, (Turn.ref id ∈ ts ∨ Turn.row id ∈ ts) → (true, id) ∈ turnIts ts
 | [], h => by rcases h with h | h <;> cases h
 | .ref i :: l, h => by
   show (true, id) ∈ (true, i) :: turnIts l
   simp only [List.mem_cons, Turn.ref.injEq, reduceCtorEq, false_or] at h
   simp only [List.mem_cons, Prod.mk.injEq, true_and]
   rcases h with (h | h) | h
   · exact .inl h
   · exact .inr (turnIts_mem (.inl h))
   · exact .inr (turnIts_mem (.inr h))
 | .row i :: l, h => by
   show (true, id) ∈ (true, i) :: turnIts l
   simp only [List.mem_cons, Turn.row.injEq, reduceCtorEq, false_or] at h
   simp only [List.mem_cons, Prod.mk.injEq, true_and]
   rcases h with h | h | h
   · exact .inr (turnIts_mem (.inl h))
   · exact .inl h
   · exact .inr (turnIts_mem (.inr h))
 | .nil :: l, h => by
   show (true, id) ∈ turnIts l
   simp only [List.mem_cons, reduceCtorEq, false_or] at h
   exact turnIts_mem h
theorem refIds_mem {id : Nat} : ∀ {ts : List Turn}, Turn.ref id ∈ ts → id ∈ refIds ts
 | .ref i :: l, h => by
   show id ∈ i :: refIds l
   simp only [List.mem_cons, Turn.ref.injEq] at h
   simp only [List.mem_cons]
   exact h.imp (fun h => h) refIds_mem
 | .row i :: l, h => by
   simp only [List.mem_cons, reduceCtorEq, false_or] at h
   exact refIds_mem (ts := l) h
 | .nil :: l, h => by
   simp only [List.mem_cons, reduceCtorEq, false_or] at h
   exact refIds_mem (ts := l) h
section
variable {N : Nat} {w : World} {M : Fr} {st : St} {μ : Lay} {a : Act} {w' : World}
theorem resIts_wr {bl : Nat → Option Blk} : ∀ {xs : List Cell} {ps : List PC} {id : Nat} {b : Blk}, pcsOf bl xs = some ps → (true, id) ∈ resIts bl xs → bl id = some b → Wr b
 | [], ps, id, b, _, h, _ => by cases h
 | c :: xs, ps, id, b, hp, h, hb => by
   simp only [pcsOf] at hp
   split at hp
   · rename_i p hc
     split at hp
     · rename_i qs hq
       rw [resIts_cons, List.mem_append] at h
       rcases h with h | h
       · cases c with
         | sl i =>
           simp only [pcOf] at hc
           split at hc
           · rename_i k cs ys hk
             have hr : resIts bl [.sl i] = [(isWr k, i)] := by
               simp only [resIts, hk]
               cases k <;> rfl
             rw [hr] at h
             simp only [List.mem_singleton, Prod.mk.injEq] at h
             obtain ⟨h1, rfl⟩ := h
             rw [hk] at hb; cases hb
             exact isWr_iff.2 h1.symm
           · cases hc
         | sub i o n => simp [resIts] at h
         | s v => cases h
         | any => cases h
         | ptr _ _ _ => cases h
       · exact resIts_wr hq h hb
     · cases hp
   · cases hp
theorem resVIts_wr {bl : Nat → Option Blk} {v : LV} {rv : RV} {id : Nat} {b : Blk} (hp : rvOf bl v = some rv) (h : (true, id) ∈ resVIts bl v) (hb : bl id = some b) : Wr b := by
 unfold rvOf at hp
 split at hp
 · rename_i i
   split at hp
   · rename_i xs hx
     split at hp
     · rename_i ps hps
       have hr : resVIts bl (.c (.ptr i 0 0)) = (true, i) :: resIts bl xs := by simp only [resVIts, hx]
       rw [hr] at h
       simp only [List.mem_cons, Prod.mk.injEq, true_and] at h
       rcases h with rfl | h
       · rw [hx] at hb; cases hb; trivial
       · exact resIts_wr hps h hb
     · cases hp
   · cases hp
 · rename_i c hc
   split at hp
   · rename_i p hpc
     have hnp : ∀ id i j, c ≠ .ptr id i j := by intro id i j e; subst e; cases hpc
     have hr : resVIts bl (.c c) = resIts bl [c] := by cases c <;> first | rfl | exact absurd rfl (hnp _ _ _)
     rw [hr] at h
     refine resIts_wr (ps := [p]) ?_ h hb
     simp only [pcsOf, hpc]
   · cases hp
 · rename_i xs
   split at hp
   · rename_i ps hps
     exact resIts_wr hps h hb
   · cases hp
 · cases hp
theorem resAll_wr (P : Program) (ro : Bool) {id : Nat} {b : Blk} : ∀ {rs : List ResultVar} {ts : List TypeId} {vs : List RV}, resOf P ro st rs ts = some vs → (true, id) ∈ resAll P st rs → st.bl id = some b → Wr b
 | [], _, _, _, h, _ => by cases h
 | r :: rs, [], vs, hr, _, _ => by cases hr
 | r :: rs, t :: ts, vs, hr, h, hb => by
   simp only [resOf] at hr
   split at hr
   · rename_i rv vs' h1 h2
     split at h1
     · rename_i v hv
       have e : resAll P st (r :: rs) = resVIts st.bl v ++ resAll P st rs := by simp only [resAll, hv]
       rw [e, List.mem_append] at h
       rcases h with h | h
       · exact resVIts_wr h1 h hb
       · exact resAll_wr P ro h2 h hb
     · cases h1
   · cases hr
theorem ans_ok {bl : Nat → Option Blk} {μ0 : Lay} {muts : List Nat} {args : List RV} {xs : List Value} {P : Program} {ro : Bool} {rs : List ResultVar} {tys : List TypeId} {vs : List RV} {us : List (List PC)}
   (EF : EntFacts w bl μ0 muts 0 args xs) (hM : M.ids = wrOf (argsIts muts w 0 args xs)) (hA : M.all = (argsIts muts w 0 args xs).map fun x => x.2) (hfit : argsFit args = true)
   (h : Inv N w M st μ a w') (hent : ∀ id b, id < 1000 → st.bl id = some b → μ id = plOf bl μ0 id ∧ ∀ k cs xs, b = .row k cs xs → xs.length = lnOf bl id)
   (hres : resOf P ro st rs tys = some vs) (hups : updsOf st (entered muts 0 args).2.2 = some us) (hok : ansOk ro (entered muts 0 args).2.2 vs (resAll P st rs) = true) :
   ∃ ys : List Value, All2 (ResIs P w' a.tmps) rs ys ∧ Answer muts w args xs ⟨vs, us⟩ (packV ys) w' := by
 obtain ⟨ys, hys, k1, its, k2, k3, k4⟩ := res_are h P ro hres
 have hfit' : args.length ≤ 30 ∧ ∀ v ∈ args, v.pcs.length ≤ 31 := by
   unfold argsFit at hfit
   simp only [Bool.and_eq_true, List.all_eq_true] at hfit
   refine ⟨Nat.le_of_ble_eq_true hfit.1, fun v hv => ?_⟩
   have := Nat.le_of_ble_eq_true (hfit.2 v hv)
   cases v <;> exact this
 have hlt : ∀ id, (Turn.ref id ∈ (entered muts 0 args).2.2 ∨ Turn.row id ∈ (entered muts 0 args).2.2) → id < 1000 := by
   intro id hm
   have := turns_lt muts args 0 id hfit'.2 hm
   omega
 obtain ⟨u1, u2⟩ := upds_have hups
 -- a turned block is still what it was
 have still : ∀ id p, (Turn.ref id ∈ (entered muts 0 args).2.2 ∨ Turn.row id ∈ (entered muts 0 args).2.2) → μ0 id = some p → bl id ≠ none → ∃ b, st.bl id = some b ∧ b ≠ .gone ∧ μ id = some p := by
   intro id p hm hp hn
   have hb : ∃ b, st.bl id = some b ∧ b ≠ .gone := by
     rcases hm with hm | hm
     · obtain ⟨xs, e⟩ := u1 id hm; exact ⟨_, e, by simp⟩
     · obtain ⟨k, cs, xs, e⟩ := u2 id hm; exact ⟨_, e, by simp⟩
   obtain ⟨b, hb, hg⟩ := hb
   refine ⟨b, hb, hg, ?_⟩
   rw [(hent id b (hlt id hm) hb).1]
   unfold plOf
   cases hbl : bl id with
   | none => exact absurd hbl hn
   | some c => exact hp
 have refApart : ∀ id p, Turn.ref id ∈ (entered muts 0 args).2.2 → μ0 id = some p → bl id ≠ none → ∀ m r, (m, r) ∈ its → p.r ≠ r := by
   intro id p hm hp hn m r hr
   obtain ⟨xs0, hbx⟩ := u1 id hm
   obtain ⟨_, _, _, hμ⟩ := still id p (.inl hm) hp hn
   obtain ⟨j, c, q, g1, g2, g3, g4, rfl⟩ := k2.mem hr
   have hne : j ≠ id := by
     unfold ansOk at hok
     split at hok
     · simp only [Bool.and_eq_true, List.all_eq_true] at hok
       have := hok.2 _ g1 id (refIds_mem hm)
       intro e
       subst e
       simp at this
     · exact (itsOk_app hok).2 id (turnIts_mem (.inl hm)) _ g1
   exact h.ap.two id j _ c p q (fun e => hne e.symm) hbx g2 trivial g3 hμ g4
 refine ⟨ys, hys, ?_, ⟨_, rfl, k1, ?_, fun it hit => ?_⟩, ?_⟩
 · have := h.since
   rw [hM] at this
   exact this
 · cases ro with
   | false =>
     have e := k3 rfl
     show (rvsIts kId w' vs _).Pairwise AptIt
     rw [e]
     exact ItsRel.apart h k2 (itsOk_app hok).1 (fun id b hm hb => resAll_wr P false hres hm hb)
   | true =>
     have hn : noRef vs = true := by
       simp only [ansOk, Bool.and_eq_true] at hok
       exact hok.1
     have hf := k4 rfl hn
     have : ∀ l : List (Bool × Nat), (∀ it ∈ l, it.1 = false) → l.Pairwise AptIt := by
       intro l
       induction l with
       | nil => intro _; exact .nil
       | cons x l ih =>
         intro hl
         refine .cons (fun y hy hor => ?_) (ih fun it hit => hl it (List.mem_cons_of_mem _ hit))
         rw [hl x (List.mem_cons_self ..), hl y (List.mem_cons_of_mem _ hy)] at hor
         rcases hor with e | e <;> cases e
     exact this _ fun it hit => (hf it hit).1
 · have hsrc : ∃ m, (m, it.2) ∈ its ∧ (it.1 = true → m = true ∧ ro = false) := by
     cases ro with
     | false =>
       have e := k3 rfl
       have hit : it ∈ rvsIts kId w' vs ys := hit
       rw [e] at hit
       exact ⟨it.1, hit, fun e => ⟨e, rfl⟩⟩
     | true =>
       have hn : noRef vs = true := by
         simp only [ansOk, Bool.and_eq_true] at hok
         exact hok.1
       obtain ⟨e1, m, e2⟩ := k4 rfl hn it hit
       exact ⟨m, e2, fun e => by rw [e1] at e; cases e⟩
   obtain ⟨m, hm, hmt⟩ := hsrc
   obtain ⟨j, c, q, g1, g2, g3, g4, g5⟩ := k2.mem hm
   cases hit1 : it.1 with
   | true =>
     left
     obtain ⟨rfl, rfl⟩ := hmt hit1
     have hw := resAll_wr P false hres g1 g2
     rcases h.ap.new j c q g2 hw g4 with g | g
     · rw [← g5]; exact g
     · exfalso
       rw [hM, wrOf_mem] at g
       obtain ⟨id, p, e1, e2, e3, e4⟩ := EF.wr _ g
       obtain ⟨b, f1, f2, f3⟩ := still id p e1 e2 e4
       have hne : j ≠ id := (itsOk_app hok).2 id (turnIts_mem e1) _ g1
       exact h.ap.two j id c b q p hne g2 f1 hw f2 g4 f3 e3.symm
   | false =>
     rcases h.ap.old j c q g2 g3 g4 with g | g
     · left; rw [← g5]; exact g
     · right
       rw [hA, List.mem_map] at g
       obtain ⟨it0, f1, f2⟩ := g
       refine ⟨rfl, ?_, rvs_ro (w := w') hit hit1⟩
       rcases EF.all it0 f1 with e | ⟨id, p, e1, e2, e3, e4⟩
       · rw [← g5, ← f2]; exact e
       · exfalso
         exact refApart id p e1 e2 e4 m it.2 hm (by rw [e3, f2, g5])
 · exact upds_are h hent hups EF.tgt hlt
end
/-! ### A call of a function does what the evaluator says of it. No condition beyond those that stand in each. -/
theorem look_updL : ∀ (L : List (Nat × Blk)), (fun n => look none (L.map fun x => (x.1, some x.2)) n) = updL (fun _ => none) L
 | [] => rfl
 | (n, b) :: l => by
   funext t
   have := congrFun (look_updL l) t
   show (match Nat.beq t n with | true => some b | false => look none (l.map fun x => (x.1, some x.2)) t) = upd (updL (fun _ => none) l) n (some b) t
   unfold upd
   cases Nat.beq t n with
   | true => rfl
   | false => exact this
theorem updL_apart {f : Nat → Option Blk} : ∀ {L : List (Nat × Blk)} {i : Nat} {b : Blk}, apartB (fstB L) = true → (i, b) ∈ L → updL f L i = some b
 | (n, c) :: l, i, b, ha, h => by
   obtain ⟨h1, h2⟩ := apart_cons (n := n) (l := fstB l) ha
   simp only [List.mem_cons, Prod.mk.injEq] at h
   show upd (updL f l) n (some c) i = some b
   rcases h with ⟨rfl, rfl⟩ | h
   · exact upd_same _ _ _
   · have hne : i ≠ n := h1 i (fst_mem h)
     rw [upd_ne _ _ hne]
     exact updL_apart h2 h
theorem fst_of {L : List (Nat × Blk)} {i : Nat} (h : updL (fun _ => none) L i ≠ none) : i ∈ fstB L := by
 cases hb : updL (fun _ => none) L i with
 | none => exact absurd hb h
 | some b =>
   rcases updL_mem hb with g | ⟨_, g⟩
   · exact fst_mem g
   · cases g
theorem func_ok {R : Type} {E : Env} {B : Base} {G : Cons R} {k : Nat} {H : List (Nat × Meet)} {muts : List Nat} {ro : Bool} {f : Nat} {fn : Func} {c : Code} (hP : E.P.follows .mixedOrders = true) (hE : ∀ t ∈ E.eqs, eqFree E.P t = true) (hG : GOk E.P B G)
   (hf : E.P.funcs[f]? = some fn) (hb : fn.body = some c) (hdst : dstB fn.ntmps c = true) {args : List RV} {K : Ret → Option R} {o : R} (h : evFunc E G k H muts ro fn args K = some o) :
   ∃ ret, K ret = some o ∧ ∀ w xs, Good B w → ArgsAre muts w 0 args xs → (argsIts muts w 0 args xs).Pairwise AptIt → (∀ r ∈ wrOf (argsIts muts w 0 args xs), B.g ≤ r) →
     Calls E.P f xs.toArray w (fun e w' => ∃ v, e = .returned v ∧ Answer muts w args xs ret v w') := by
 unfold evFunc at h
 simp only at h
 split at h
 · rename_i hap
   simp only [Bool.and_eq_true] at hap
   obtain ⟨hap, hfit⟩ := hap
   have hbody : bodyOf fn = c := by unfold bodyOf; rw [hb]
   rw [hbody] at h
   obtain ⟨e, st', h1, h2⟩ := ev_sound (reg_ok hP hE hG) c 1 _ _ o h hdst
   have hfin : (e = .normal ∨ e = .ret) ∧ ∃ vs us, resOf E.P ro st' fn.results.toList fn.resultTypes.toList = some vs ∧ updsOf st' (entered muts 0 args).2.2 = some us ∧ ansOk ro (entered muts 0 args).2.2 vs (resAll E.P st' fn.results.toList) = true ∧ K ⟨vs, us⟩ = some o := by
     cases e with
     | exit id => cases h1
     | normal =>
       refine ⟨.inl rfl, ?_⟩
       simp only [fin] at h1
       split at h1
       · rename_i vs us e1 e2
         split at h1
         · rename_i e3; exact ⟨vs, us, e1, e2, e3, h1⟩
         · cases h1
       · cases h1
     | ret =>
       refine ⟨.inr rfl, ?_⟩
       simp only [fin] at h1
       split at h1
       · rename_i vs us e1 e2
         split at h1
         · rename_i e3; exact ⟨vs, us, e1, e2, e3, h1⟩
         · cases h1
       · cases h1
   obtain ⟨he, vs, us, e1, e2, e3, hK⟩ := hfin
   refine ⟨⟨vs, us⟩, hK, fun w xs hgood hargs hpw hwr => calls_of_wp hf hb ?_⟩
   have hargs' := hargs
   let M0 : Fr := ⟨wrOf (argsIts muts w 0 args xs), (argsIts muts w 0 args xs).map fun x => x.2, 0, by omega, fun _ => none, fun _ => 0⟩
   let a0 : Act := { tmps := xs.toArray ++ Array.replicate (fn.ntmps - xs.toArray.size) undef, defers := [] }
   have hinv0 : Inv fn.ntmps w M0 ⟨fun _ => .c .any, fun _ => none⟩ (fun _ => none) a0 w := by
     refine ⟨fun t => trivial, fun id b hb => (by cases hb), ⟨fun _ _ _ _ _ _ _ h => (by cases h), fun _ _ _ h => (by cases h), fun _ _ _ h => (by cases h)⟩, Since.refl _ _, ?_, rfl, fun id b hid => (by cases hid)⟩
     simp [a0]
     omega
   have hfree : Free w M0 (fun _ => none) (fun _ => none) (argsIts muts w 0 args xs) := by
     refine ⟨hpw, fun _ _ _ _ _ h => (by cases h), fun it hit => .inr ⟨List.mem_map_of_mem hit, fun e => ?_⟩⟩
     show it.2 ∈ wrOf _
     rw [wrOf_mem, ← e]
     exact hit
   obtain ⟨μ1, T, hr⟩ := entered_sound muts args xs 0 (fun _ => .c .any) (fun _ => none) (fun _ => none) hinv0 rfl hargs (fun _ _ => rfl) hap hfree
   have hfx : ∀ i x, xs[i]? = some x → a0.tmps.getD (0 + i) undef = x := by
     intro i x hx
     have hi := (List.getElem?_eq_some_iff.1 hx).1
     have : (xs.toArray ++ Array.replicate (fn.ntmps - xs.toArray.size) undef)[i]? = some x := by
       rw [Array.getElem?_append_left (by simpa using hi)]
       simpa using hx
     simp only [Nat.zero_add, a0, Array.getD_eq_getD_getElem?, this, Option.getD_some]
   have hrl := hr (fun t => a0.tmps.getD t undef) hfx
   have hbl := T.inv.bl
   have EF : EntFacts w (updL (fun _ => none) (entered muts 0 args).2.1) μ1 muts 0 args xs := by
     refine entry_facts hbl args xs 0 (fun t => a0.tmps.getD t undef) hargs' ?_ hfx (fun t _ => hrl t) (fun id b hm => updL_apart hap hm) (fun i _ hn => fst_of hn)
     unfold argsFit at hfit
     simp only [Bool.and_eq_true, List.all_eq_true] at hfit
     intro v hv
     have := Nat.le_of_ble_eq_true (hfit.2 v hv)
     cases v <;> exact this
   let M1 : Fr := ⟨wrOf (argsIts muts w 0 args xs), (argsIts muts w 0 args xs).map fun x => x.2, 1000, Nat.le_refl _, plOf (updL (fun _ => none) (entered muts 0 args).2.1) μ1, lnOf (updL (fun _ => none) (entered muts 0 args).2.1)⟩
   have hinv1 : Inv fn.ntmps w M1 (mkSt (entered muts 0 args).1 (entered muts 0 args).2.1) μ1 a0 w := by
     unfold mkSt
     rw [look_updL]
     refine ⟨hrl, hbl, ⟨T.inv.ap.two, T.inv.ap.new, T.inv.ap.old⟩, Since.refl _ _, hinv0.size, rfl, fun id b _ hb => ?_⟩
     have hb : updL (fun _ => none) (entered muts 0 args).2.1 id = some b := hb
     refine ⟨?_, fun k cs ys e => ?_⟩
     · show μ1 id = plOf _ μ1 id
       unfold plOf; rw [hb]
     · show ys.length = lnOf _ id
       unfold lnOf; rw [hb, e]
   refine wp_mono (h2 w M1 ⟨hgood, hwr⟩ μ1 a0 w hinv1) fun ex a' w' hp => ?_
   obtain ⟨rfl, μ2, hi⟩ := hp
   obtain ⟨ys, hys, hans⟩ := ans_ok EF (M := M1) rfl rfl hfit hi hi.ent e1 e2 e3
   have hrun := results_run fn a'.tmps ys E.P w' hys
   rcases he with rfl | rfl
   · exact ⟨hi.defers, _, hrun, _, rfl, hans⟩
   · exact ⟨hi.defers, _, hrun, _, rfl, hans⟩
 · cases h
/-- A row that comes in may be nil. -/
inductive TyPC : PC → PC → Prop
 | s {v} : TyPC (.s v) (.s v)
 | row {k k' cs xs} : TyPC (.row k cs xs) (.row k' cs xs)
 | nil {k' cs} : cs ≠ [] → TyPC (.s (.slice none 0 0)) (.row k' cs [])
inductive TyRV : RV → RV → Prop
 | val {agg l m} : All2 TyPC l m → TyRV (.val agg l) (.val agg m)
 | ref {l m} : All2 TyPC l m → TyRV (.ref l) (.ref m)
section
variable {w : World}
theorem ty_pc {q : Kind} {p p' : PC} {x : Value} (h : TyPC p p') (hx : PCIs (fun _ => q) w p x) : PCIs (fun _ => q) w p' x ∧ pcIts (fun _ => q) [p'] [x] = pcIts (fun _ => q) [p] [x] ∧ pcTgts [p'] [x] = pcTgts [p] [x] := by
 cases h with
 | s => exact ⟨hx, rfl, rfl⟩
 | row => exact ⟨hx, rfl, rfl⟩
 | nil hc =>
   obtain ⟨rfl, _⟩ := hx
   exact ⟨⟨hc, RowIs_nil _, fun _ ad n cap e => by cases e⟩, rfl, rfl⟩
theorem pcTgts_cons (p : PC) (ps : List PC) (x : Value) (vs : List Value) : pcTgts (p :: ps) (x :: vs) = pcTgts [p] [x] ++ pcTgts ps vs := by
 cases p with
 | row k cs xs => rfl
 | s v =>
   by_cases hv : v = .slice none 0 0
   · subst hv; rfl
   · rw [pcTgts_s hv, pcTgts_s hv]; rfl
theorem ty_pcs {q : Kind} : ∀ {l m : List PC} {vs : List Value}, All2 TyPC l m → All2 (PCIs (fun _ => q) w) l vs → All2 (PCIs (fun _ => q) w) m vs ∧ pcIts (fun _ => q) m vs = pcIts (fun _ => q) l vs ∧ pcTgts m vs = pcTgts l vs
 | _, _, _, .nil, .nil => ⟨.nil, rfl, rfl⟩
 | _, _, _, .cons (a := p) (b := p') (l := l) (m := m) h h', .cons (b := x) (m := vs) g g' => by
   obtain ⟨e1, e2, e3⟩ := ty_pc h g
   obtain ⟨f1, f2, f3⟩ := ty_pcs h' g'
   refine ⟨.cons e1 f1, ?_, ?_⟩
   · rw [pcIts_cons, pcIts_cons _ p, e2, f2]
   · rw [pcTgts_cons, pcTgts_cons p, e3, f3]
theorem ty_its {q : Kind} (q' : Kind) : ∀ {l m : List PC} {vs : List Value}, All2 TyPC l m → All2 (PCIs (fun _ => q) w) l vs → pcIts (fun _ => q') m vs = pcIts (fun _ => q') l vs
 | _, _, _, .nil, .nil => rfl
 | _, _, _, .cons (a := p) (b := p') (l := l) (m := m) h h', .cons (b := x) (m := vs) g g' => by
   rw [pcIts_cons, pcIts_cons _ p, ty_its q' h' g']
   congr 1
   cases h with
   | s => rfl
   | row => rfl
   | nil hc => obtain ⟨rfl, _⟩ := g; rfl
theorem ty_kind {muts : List Nat} {n : Nat} {v v' : RV} (h : TyRV v v') : inKind muts n v' = inKind muts n v := by
 cases h <;> rfl
theorem kind_const (muts : List Nat) (n : Nat) (v : RV) : ∃ q, inKind muts n v = fun _ => q := by
 cases v with
 | val agg ps => exact ⟨fixRo (muts.contains n), rfl⟩
 | ref ps => exact ⟨.ro, rfl⟩
theorem ty_rv {muts : List Nat} {n : Nat} {v v' : RV} {x : Value} (h : TyRV v v') (hx : RVIs (inKind muts n v) w v x) : RVIs (inKind muts n v') w v' x ∧ rvIts (inKind muts n v') w v' x = rvIts (inKind muts n v) w v x ∧ rvTgts (muts.contains n) v' x = rvTgts (muts.contains n) v x ∧ rvRows w v' x = rvRows w v x := by
 rw [ty_kind h]
 obtain ⟨q, hq⟩ := kind_const muts n v
 rw [hq] at hx ⊢
 cases h with
 | val hl =>
   rename_i agg l m
   cases agg with
   | false =>
     obtain ⟨p, rfl, hp⟩ := hx
     cases hl with
     | cons h1 h2 =>
       cases h2
       obtain ⟨e1, e2, e3⟩ := ty_pcs (w := w) (vs := [x]) (.cons h1 .nil) (.cons hp .nil)
       cases e1 with
       | cons e1 _ =>
         refine ⟨⟨_, rfl, e1⟩, e2, ?_, ?_⟩
         · show (match muts.contains n with | true => _ | false => _) = _
           rw [e3]; rfl
         · exact congrArg (fun l => List.map (fun x => x.2) l) (ty_its .ro (.cons h1 .nil) (All2.cons hp .nil))
   | true =>
     obtain ⟨vs, rfl, hp⟩ := hx
     obtain ⟨e1, e2, e3⟩ := ty_pcs hl hp
     refine ⟨⟨vs, rfl, e1⟩, e2, ?_, ?_⟩
     · show (match muts.contains n with | true => _ | false => _) = _
       rw [e3]; rfl
     · exact congrArg (fun l => List.map (fun x => x.2) l) (ty_its .ro hl hp)
 | ref hl =>
   obtain ⟨r, cells, t, fr, rfl, h1, h2, h3⟩ := hx
   obtain ⟨e1, e2, e3⟩ := ty_pcs hl h3
   have hat := cellsAt_eq h1
   refine ⟨⟨r, cells, t, fr, rfl, h1, h2, e1⟩, ?_, rfl, ?_⟩
   · show (true, r) :: pcIts _ _ (cellsAt w r) = (true, r) :: pcIts _ _ (cellsAt w r)
     rw [hat, e2]
   · show List.map _ (pcIts (fun _ => .ro) _ (cellsAt w r)) = List.map _ (pcIts (fun _ => .ro) _ (cellsAt w r))
     rw [hat, ty_its .ro hl h3]
theorem ty_args {muts : List Nat} : ∀ {l m : List RV} {xs : List Value} {n : Nat}, All2 TyRV l m → ArgsAre muts w n l xs → ArgsAre muts w n m xs ∧ argsIts muts w n m xs = argsIts muts w n l xs ∧ argTgts muts n m xs = argTgts muts n l xs ∧ argsRows w m xs = argsRows w l xs
 | _, _, _, n, .nil, .nil => ⟨.nil, rfl, rfl, rfl⟩
 | _, _, _, n, .cons (a := v) (b := v') (l := l) (m := m) h h', .cons (x := x) (xs := xs) g g' => by
   obtain ⟨e1, e2, e3, e4⟩ := ty_rv h g
   obtain ⟨f1, f2, f3, f4⟩ := ty_args h' g'
   refine ⟨.cons e1 f1, ?_, ?_, ?_⟩
   · show rvIts _ w v' x ++ argsIts muts w (n + 1) m xs = rvIts _ w v x ++ argsIts muts w (n + 1) l xs
     rw [e2, f2]
   · show rvTgts _ v' x ++ argTgts muts (n + 1) m xs = rvTgts _ v x ++ argTgts muts (n + 1) l xs
     rw [e3, f3]
   · show rvRows w v' x ++ argsRows w m xs = rvRows w v x ++ argsRows w l xs
     rw [e4, f4]
end
theorem withRow_some {R : Type} {cs : List Sc} (hc : cs ≠ []) {p : PC} {k : List (RowT cs) → Option R} {o : R} (h : withRow cs p k = some o) : ∃ xs, TyPC p (.row .ro cs xs) ∧ k xs = some o := by
 unfold withRow at h
 split at h
 · rename_i kd ds xs
   split at h
   · rename_i e
     subst e
     exact ⟨xs, .row, h⟩
   · cases h
 · exact ⟨[], .nil hc, h⟩
 · cases h
/-- A printed contract. -/
theorem con_ok {R : Type} {E : Env} {B : Base} {G : Cons R} {k : Nat} {H : List (Nat × Meet)} {muts : List Nat} {ro : Bool} {f : Nat} {fn : Func} {c : Code} (hP : E.P.follows .mixedOrders = true) (hE : ∀ t ∈ E.eqs, eqFree E.P t = true) (hG : GOk E.P B G)
   (hf : E.P.funcs[f]? = some fn) (hb : fn.body = some c) (hdst : dstB fn.ntmps c = true) {con : Con R} (hm : con.muts = muts)
   (hrun : ∀ args K o, con.run args K = some o → ∃ args', All2 TyRV args args' ∧ evFunc E G k H muts ro fn args' K = some o) : ConOk E.P B f con := by
 intro args K o h
 obtain ⟨args', h1, h2⟩ := hrun args K o h
 obtain ⟨ret, h3, h4⟩ := func_ok hP hE hG hf hb hdst h2
 refine ⟨ret, h3, fun w xs hgood hargs hpw hwr => ?_⟩
 rw [hm] at hargs hpw hwr ⊢
 obtain ⟨g1, g2, g3, g4⟩ := ty_args h1 hargs
 refine Calls.mono (h4 w xs hgood g1 (by rw [g2]; exact hpw) (by rw [g2]; exact hwr)) fun e w' he => ?_
 obtain ⟨v, rfl, h5, h6, h7⟩ := he
 refine ⟨v, rfl, ?_, ?_, ?_⟩
 · rw [g2] at h5; exact h5
 · rw [g4] at h6; exact h6
 · rw [g3] at h7; exact h7
theorem GOk.nil {R : Type} {P : Program} {B : Base} : GOk P B ([] : Cons R) := fun f con h => by cases h
theorem GOk.cons {R : Type} {P : Program} {B : Base} {f : Nat} {con : Con R} {G : Cons R} (h1 : callB P f = true) (h2 : ConOk P B f con) (h : GOk P B G) : GOk P B ((f, con) :: G) := by
 intro f' con' h'
 simp only [List.map_cons, look] at h'
 cases hb : Nat.beq f' f with
 | true =>
   rw [hb] at h'
   have := Nat.eq_of_beq_eq_true hb
   subst this
   cases h'
   exact ⟨h1, h2⟩
 | false =>
   rw [hb] at h'
   exact h f' con' h'
/-! ### A law's call: its arguments as they come in, and its answer. No condition beyond those that stand in each. -/
theorem its_val {w : World} : ∀ {args : List RV} {xs : List Value} {n : Nat}, (∀ v ∈ args, ∃ agg ps, v = .val agg ps) → ∀ it ∈ argsIts [] w n args xs, it.1 = false
 | [], [], n, _, it, h => by cases h
 | [], _ :: _, n, _, it, h => by cases h
 | _ :: _, [], n, _, it, h => by cases h
 | v :: l, x :: xs, n, hv, it, h => by
   have h : it ∈ rvIts (inKind [] n v) w v x ++ argsIts [] w (n + 1) l xs := h
   rw [List.mem_append] at h
   rcases h with h | h
   · obtain ⟨agg, ps, rfl⟩ := hv v (by simp)
     cases agg with
     | false => exact its_false (inKind [] n (.val false ps)) (fun _ => rfl) ps [x] it h
     | true =>
       cases x with
       | agg vs => exact its_false (inKind [] n (.val true ps)) (fun _ => rfl) ps vs.toList it h
       | _ => cases h
   · exact its_val (fun v hv' => hv v (by simp [hv'])) it h
/-- Where a slice that came in lies. -/
theorem slice_lies {P : Program} {W : World} {base : Nat} {t e : TypeId} (ht : P.underlying t = some (.slice e)) {x : Addr} {len cap : Nat} (hv : Cell.ok P W .any base t (.slice (some x) len cap)) :
   len ≤ cap ∧ x.spot = none ∧ ∃ cells ty fr, W.heap[x.block]? = some (.cells cells ty fr) := by
 unfold Cell.ok at hv
 rw [ht] at hv
 obtain ⟨h1, _, _, h2, row, n, h3, _⟩ := hv
 refine ⟨h1, h2, ?_⟩
 unfold World.shape? at h3
 cases hh : W.heap[x.block]? with
 | none => rw [hh] at h3; cases h3
 | some o =>
   rw [hh] at h3
   cases o with
   | cells c e' fr => exact ⟨c, e', fr, rfl⟩
   | _ => cases h3
/-- A row whose cells are known. -/
theorem row_pc {P : Program} {W : World} {base : Nat} {t e : TypeId} (ht : P.underlying t = some (.slice e)) {cs : List Sc} (hcs : cs ≠ []) {a : Option Addr} {len cap : Nat} (hv : Cell.ok P W .any base t (.slice a len cap)) (xs : List (RowT cs)) (hl : xs.length = len)
   (hz : ∀ x, a = some x → ∀ (j : Nat) v, (xs.flatMap (enc cs))[j]? = some v → W.cell? (x.add j) = some v) : PCIs (fun _ => .ro) W (.row .ro cs xs) (.slice a len cap) := by
 refine ⟨hcs, ?_, fun h => absurd rfl h⟩
 cases a with
 | none =>
   have : len = 0 ∧ cap = 0 := by
     unfold Cell.ok at hv
     rw [ht] at hv
     cases len with
     | zero => cases cap with
       | zero => exact ⟨rfl, rfl⟩
       | succ c => exact hv.elim
     | succ n => exact hv.elim
   obtain ⟨rfl, rfl⟩ := this
   have : xs = [] := List.eq_nil_of_length_eq_zero hl
   subst this
   exact RowIs_nil cs
 | some x =>
   obtain ⟨h1, h2, cells, ty, fr, h3⟩ := slice_lies ht hv
   refine ⟨some x, cap, by rw [hl], by omega, (fun e => by cases e), fun p hp => ?_⟩
   cases hp
   refine ⟨h2, cells, ty, fr, h3, fun j v hj => ?_⟩
   have := hz x rfl j v hj
   have hb : (x.add j).block = x.block := by unfold Addr.add; split <;> rfl
   have ho : (x.add j).off = x.off + j := by
     unfold Addr.add
     split
     · rename_i e; subst e; rfl
     · rfl
   have hs : (x.add j).spot = x.spot := by unfold Addr.add; split <;> simp [h2]
   unfold World.cell? at this
   rw [hb, h3, hs, h2, ho] at this
   simpa using this
theorem okWide_cell {P : Program} {W : World} {base : Nat} {t e : TypeId} (ht : P.underlying t = some (.slice e)) {v : Value} (hv : Value.okWide P W .any base t v) : Cell.ok P W .any base t v := by
 unfold Value.okWide at hv
 rw [ht] at hv
 unfold Cell.okWide at hv
 rw [ht] at hv
 exact hv
/-- A slice of numbers. -/
theorem ints_arg {P : Program} {W : World} {base : Nat} {t e : TypeId} (ht : P.underlying t = some (.slice e)) {k : IntKind} {a : Option Addr} {len cap : Nat} (hv : Value.okWide P W .any base t (.slice a len cap)) {zs : List Int}
   (hz : (a = none ∧ len = 0 ∧ cap = 0 ∧ zs = []) ∨ ∃ x, a = some x ∧ len ≤ cap ∧ zs.length = cap ∧ ∀ i, i < zs.length → W.cell? (x.add i) = some (.int k (zs.getD i 0))) :
   RVIs (fun _ => .ro) W (.val false [.row .ro [.int k] (zs.take len)]) (.slice a len cap) := by
 refine ⟨_, rfl, row_pc ht (by simp) (okWide_cell ht hv) (cs := [.int k]) (zs.take len) ?_ ?_⟩
 · rcases hz with ⟨_, rfl, rfl, rfl⟩ | ⟨x, _, h1, h2, _⟩
   · rfl
   · rw [List.length_take]; omega
 · intro x hx j v hj
   rcases hz with ⟨h, _⟩ | ⟨y, h, h1, h2, h3⟩
   · rw [h] at hx; cases hx
   · rw [h] at hx; cases hx
     have e : (List.flatMap (enc [Sc.int k]) (zs.take len)) = (zs.take len).map fun n => Value.int k n := by
       generalize zs.take len = l
       induction l with
       | nil => rfl
       | cons z l ih => rw [List.flatMap_cons, ih]; rfl
     rw [e, List.getElem?_map] at hj
     cases hz : (zs.take len)[j]? with
     | none => rw [hz] at hj; cases hj
     | some z =>
       rw [hz] at hj
       cases hj
       rw [List.getElem?_take] at hz
       split at hz
       · have hj' := (List.getElem?_eq_some_iff.1 hz).1
         rw [h3 j hj', List.getD_eq_getElem?_getD, hz]
         rfl
       · cases hz
end Go.Ev
