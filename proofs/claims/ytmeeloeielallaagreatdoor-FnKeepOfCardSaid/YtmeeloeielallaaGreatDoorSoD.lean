/- That the machine does what the evaluator says: a part of the proof. No condition beyond those that stand in each. -/
import Derived.Test.YtmeeloeielallaaGreatDoorSoC
namespace Go.Ev
universe u
set_option linter.unusedVariables false
set_option linter.unusedSimpArgs false
/-! ### A call's step, and on what it hangs. No condition beyond those that stand in each. -/
section
variable {bl bl2 : Nat → Option Blk}
theorem pcsOf_congr : ∀ {xs : List Cell}, (∀ id ∈ cellsIds xs, bl2 id = bl id) → pcsOf bl2 xs = pcsOf bl xs
 | [], _ => rfl
 | c :: xs, h => by
   have hc : pcOf bl2 c = pcOf bl c := by
     cases c with
     | sl id => simp only [pcOf]; rw [h id (List.mem_cons_self ..)]
     | sub id o n => simp only [pcOf]; rw [h id (List.mem_cons_self ..)]
     | _ => rfl
   have ht : pcsOf bl2 xs = pcsOf bl xs := pcsOf_congr fun id hid => h id (by cases c <;> first | exact hid | exact List.mem_cons_of_mem _ hid)
   simp only [pcsOf]; rw [hc, ht]
theorem rv_ptr {id i j : Nat} (hid : bl2 id = bl id) (h : ∀ xs, bl id = some (.box xs) → pcsOf bl2 xs = pcsOf bl xs) : rvOf bl2 (.c (.ptr id i j)) = rvOf bl (.c (.ptr id i j)) := by
 cases i with
 | succ i => rfl
 | zero =>
   cases j with
   | succ j => rfl
   | zero =>
     simp only [rvOf]
     rw [hid]
     cases hb : bl id with
     | none => rfl
     | some b =>
       cases b with
       | box xs => simp only; rw [h xs hb]
       | row _ _ _ => rfl
       | gone => rfl
def sndB : List (Bool × Nat) → List Nat := fun l => l.map fun x => x.2
theorem snd_cells {m : Bool} {xs : List Cell} {id : Nat} (h : id ∈ cellsIds xs) : id ∈ sndB (cellsIts m xs) := List.mem_map.mpr ⟨(m, id), cellsIts_mem h, rfl⟩
theorem snd_app (l m : List (Bool × Nat)) : sndB (l ++ m) = sndB l ++ sndB m := List.map_append ..
theorem vals_congr {muts : List Nat} : ∀ {vals : List LV} {n : Nat}, (∀ id ∈ sndB (argIts bl muts n vals), bl2 id = bl id) → rvsOf bl2 vals = rvsOf bl vals ∧ argIts bl2 muts n vals = argIts bl muts n vals
 | [], n, _ => ⟨rfl, rfl⟩
 | v :: l, n, h => by
   have key : (∀ id ∈ sndB (argIts bl muts (n + 1) l), bl2 id = bl id) ∧ rvOf bl2 v = rvOf bl v ∧ (argIts bl2 muts (n + 1) l = argIts bl muts (n + 1) l → argIts bl2 muts n (v :: l) = argIts bl muts n (v :: l)) := by
     cases v with
     | c c =>
       cases c with
       | ptr id i j =>
         have hid : bl2 id = bl id := h id (by simp [argIts, sndB])
         simp only [argIts] at h ⊢
         rw [hid]
         cases hb : bl id with
         | none =>
           rw [hb] at h
           exact ⟨fun x hx => h x (List.mem_cons_of_mem _ hx), rv_ptr hid (fun xs e => by rw [hb] at e; cases e), fun e => by rw [e]⟩
         | some b =>
           cases b with
           | box xs =>
             rw [hb] at h
             simp only at h
             have hcs : ∀ x ∈ cellsIds xs, bl2 x = bl x := fun x hx => h x (by
               show x ∈ id :: sndB _
               rw [snd_app]
               exact List.mem_cons_of_mem _ (List.mem_append_left _ (snd_cells hx)))
             refine ⟨fun x hx => h x (by
               show x ∈ id :: sndB _
               rw [snd_app]
               exact List.mem_cons_of_mem _ (List.mem_append_right _ hx)), rv_ptr hid (fun ys e => by rw [hb] at e; cases e; exact pcsOf_congr hcs), fun e => by rw [e]⟩
           | row k cs xs =>
             rw [hb] at h
             exact ⟨fun x hx => h x (List.mem_cons_of_mem _ hx), rv_ptr hid (fun xs e => by rw [hb] at e; cases e), fun e => by rw [e]⟩
           | gone =>
             rw [hb] at h
             exact ⟨fun x hx => h x (List.mem_cons_of_mem _ hx), rv_ptr hid (fun xs e => by rw [hb] at e; cases e), fun e => by rw [e]⟩
       | s v => exact ⟨h, rfl, fun e => by simp only [argIts]; rw [e]⟩
       | any => exact ⟨h, rfl, fun e => by simp only [argIts]; rw [e]⟩
       | sl id =>
         have hid : bl2 id = bl id := h id (by simp [argIts, sndB, cellsIts, cellsIds])
         refine ⟨fun x hx => h x (by simp only [argIts]; rw [snd_app]; exact List.mem_append_right _ hx), ?_, fun e => by simp only [argIts]; rw [e]⟩
         simp only [rvOf, pcOf]; rw [hid]
       | sub id o k =>
         have hid : bl2 id = bl id := h id (by simp [argIts, sndB, cellsIts, cellsIds])
         refine ⟨fun x hx => h x (by simp only [argIts]; rw [snd_app]; exact List.mem_append_right _ hx), ?_, fun e => by simp only [argIts]; rw [e]⟩
         simp only [rvOf, pcOf]; rw [hid]
     | agg xs =>
       refine ⟨fun x hx => h x (by simp only [argIts]; rw [snd_app]; exact List.mem_append_right _ hx), ?_, fun e => by simp only [argIts]; rw [e]⟩
       simp only [rvOf]
       rw [pcsOf_congr fun x hx => h x (by simp only [argIts]; rw [snd_app]; exact List.mem_append_left _ (snd_cells hx))]
     | arr cs xs => exact ⟨h, rfl, fun e => e⟩
     | tup q => exact ⟨h, rfl, fun e => e⟩
   obtain ⟨k1, k2, k3⟩ := key
   obtain ⟨g1, g2⟩ := vals_congr k1
   exact ⟨by simp only [rvsOf]; rw [k2, g1], k3 g2⟩
theorem Backs.congr {ts : List Turn} {upd : List (List PC)} {back : List (Nat × Blk)} (h : Backs bl ts upd back) : (∀ id ∈ fstB back, bl2 id = bl id) → Backs bl2 ts upd back := by
 induction h with
 | nil => exact fun _ => .nil
 | ref h1 h2 _ ih => exact fun hc => .ref (by rw [hc _ (List.mem_cons_self ..)]; exact h1) h2 (ih fun id hid => hc id (List.mem_cons_of_mem _ hid))
 | row h1 h2 _ ih => exact fun hc => .row (by rw [hc _ (List.mem_cons_self ..)]; exact h1) h2 (ih fun id hid => hc id (List.mem_cons_of_mem _ hid))
 | none _ ih => exact fun hc => .none (ih hc)
theorem updL_congr {α : Type u} {f g : Nat → Option α} {i : Nat} (h : f i = g i) : ∀ (l : List (Nat × α)), updL f l i = updL g l i
 | [] => h
 | (n, v) :: l => by
   show upd (updL f l) n (some v) i = upd (updL g l) n (some v) i
   rcases upd_cases (updL f l) n i (some v) with ⟨rfl, e⟩ | ⟨ne, e⟩
   · rw [e, upd_same]
   · rw [e, upd_ne _ _ ne]; exact updL_congr h l
theorem frozen_congr : ∀ {its : List (Bool × Nat)}, (∀ id ∈ sndB its, bl2 id = bl id) → frozen bl2 its = frozen bl its
 | [], _ => rfl
 | (m, id) :: its, h => by
   have h1 : bl2 id = bl id := h id (by simp [sndB])
   have h2 := frozen_congr (its := its) fun i hi => h i (by simp only [sndB, List.map_cons]; exact List.mem_cons_of_mem _ hi)
   unfold frozen
   rw [h1, h2]
theorem fresh_congr : ∀ {l : List (Nat × Blk)}, (∀ id ∈ fstB l, bl2 id = bl id) → freshB bl2 l = freshB bl l
 | [], _ => rfl
 | (n, b) :: l, h => by
   have h1 : bl2 n = bl n := h n (List.mem_cons_self ..)
   have h2 := fresh_congr (l := l) fun i hi => h i (List.mem_cons_of_mem _ hi)
   unfold freshB
   rw [h1, h2]
end
/-! ### A step of the evaluator is a step of the machine. No condition beyond those that stand in each. -/
/-- The function may be called: it has a text of its own. -/
def callB (P : Program) (f : Nat) : Bool :=
 match P.funcs[f]? with
 | some fn => fn.name != "runtime.NumGoroutine" && fn.body.isSome
 | none => false
theorem run_call {P : Program} {f : Nat} (hf : callB P f = true) {o : Oper} {c : Call} (ho : o.op = .call c) (hc : c.callee = .value (.func f)) (a : Act) (w : World) : (execOp a.eval o).run P w = .ok (.enter f (c.args.map a.eval)) w := by
 unfold callB at hf
 split at hf
 · rename_i fn hfn
   simp only [Bool.and_eq_true, bne_iff_ne, ne_eq] at hf
   obtain ⟨h1, h2⟩ := hf
   have h3 : (fn.body = none) = False := by
     cases hb : fn.body with
     | none => rw [hb] at h2; cases h2
     | some _ => simp
   have he : a.eval (.func f) = .func (.func f) #[] #[] := rfl
   simp [execOp, ho, resolve, hc, he, Deferred.ofValue, invoke, callFunc, run_program, hfn, h1, h3]
 · cases hf
def MOk (B : Base) (W0 : World) (M : Fr) : Prop := Good B W0 ∧ ∀ r ∈ M.ids, B.g ≤ r
theorem Inv.good {N : Nat} {W0 : World} {M : Fr} {st : St} {μ : Lay} {a : Act} {w : World} {B : Base} (h : Inv N W0 M st μ a w) (hM : MOk B W0 M) : Good B w := by
 obtain ⟨⟨h1, h2⟩, h3⟩ := hM
 refine ⟨Nat.le_trans h1 h.since.size, fun k hk => ?_⟩
 rw [h.since.block k (by omega) (fun hm => by have := h3 k hm; omega)]
 exact h2 k hk
/-- The machine's step from one state of the evaluator to the next. -/
def Kept (P : Program) (B : Base) (o : Oper) (st st' : St) : Prop :=
 ∀ (N : Nat) (W0 : World) (M : Fr) (μ : Lay) (a : Act) (w : World), Inv N W0 M st μ a w → MOk B W0 M → (∀ d, o.dst = some d → d < N) → ∀ (next : Act → World → Prop) (Q : Exit → Act → World → Prop), (∀ μ' a' w', Inv N W0 M st' μ' a' w' → next a' w') → o.wp P a w next Q
theorem plan_kept {P : Program} {B : Base} {E : Env} (hP : E.P = P) (hE : ∀ t ∈ E.eqs, eqFree E.P t = true) (o : Oper) {nid : Nat} (hid : 1000 ≤ nid) {st : St} {ids : List Nat} {f : List (Option Blk) → Option Out} {v : LV} {wr : List (Nat × Blk)} (hp : plan E o.op nid st.val = some (ids, f)) (hf : f (ids.map st.bl) = some (true, v, wr)) :
   Kept P B o st ⟨updO st.tm o.dst v, updL st.bl wr⟩ := by
 intro N W0 M μ a w h hM hd next Q hn
 subst hP
 obtain ⟨nx, x, w', μ', h1, h2, h3, h4⟩ := plan_does hE h o (Nat.le_trans M.lo_le hid) ids f v wr hp hf
 have h5 := h3.put hd h4
 unfold Oper.wp
 rw [h1]
 rcases h2 with rfl | ⟨rfl, rfl⟩
 · exact hn _ _ _ h5
 · exact hn _ _ _ h5
theorem vals_rel {N : Nat} {W0 : World} {M : Fr} {st : St} {μ : Lay} {a : Act} {w : World} (h : Inv N W0 M st μ a w) : ∀ (l : List Operand), All2 (RL st.bl μ) (l.map st.val) (l.map a.eval)
 | [] => .nil
 | x :: l => .cons (h.val x) (vals_rel h l)
theorem call_kept {R : Type} {P : Program} {B : Base} {f : Nat} (hf : callB P f = true) {con : Con R} (hcon : ConOk P B f con) {o : Oper} {c : Call} (ho : o.op = .call c) (hc : c.callee = .value (.func f)) {nid : Nat} (hid : 1000 ≤ nid) {st : St} {args : List RV} {ts : List Turn}
   (hargs : rvsOf st.bl (c.args.toList.map st.val) = some args) (hts : turnedOf con.muts 0 (c.args.toList.map st.val) = some ts) (hits : itsOk (argIts st.bl con.muts 0 (c.args.toList.map st.val)) = true) {K : Ret → Option R} {r : R} (hrun : con.run args K = some r) :
   ∃ ret, K ret = some r ∧ ∀ back z, Backs st.bl ts ret.upd back → ((z = frozen (updL st.bl back) (argIts st.bl con.muts 0 (c.args.toList.map st.val)) ∧ hasRo ret.vals = true) ∨ (z = [] ∧ hasRo ret.vals = false)) →
     freshB (updL (updL st.bl back) z) (takeRVs (fun k => k) nid ret.vals).2 = true → apartB (fstB (takeRVs (fun k => k) nid ret.vals).2) = true →
     ∀ st2 : St, c.args.toList.map st2.val = c.args.toList.map st.val → (∀ id ∈ sndB (argIts st.bl con.muts 0 (c.args.toList.map st.val)), st2.bl id = st.bl id) → (∀ id ∈ fstB back, st2.bl id = st.bl id) → (∀ id ∈ fstB (takeRVs (fun k => k) nid ret.vals).2, st2.bl id = st.bl id) →
     Kept P B o st2 ⟨updO st2.tm o.dst (lvOf (takeRVs (fun k => k) nid ret.vals).1), updL st2.bl ((takeRVs (fun k => k) nid ret.vals).2 ++ (z ++ back))⟩ := by
 obtain ⟨ret, hK, hcall⟩ := hcon args K r hrun
 refine ⟨ret, hK, fun back z hb hz hfresh hap st2 hv2 hc1 hc2 hc3 => ?_⟩
 intro N W0 M μ a w h hM hd next Q hn
 obtain ⟨g1, g2⟩ := vals_congr (bl := st.bl) (bl2 := st2.bl) (muts := con.muts) (vals := c.args.toList.map st.val) (n := 0) hc1
 have hvals := vals_rel h c.args.toList
 rw [hv2] at hvals
 rw [← g1] at hargs
 rw [← g2] at hits
 have hb2 := hb.congr hc2
 have hbl1 : ∀ id, st2.bl id = st.bl id → updL st2.bl back id = updL st.bl back id := fun id e => updL_congr e back
 have hz2 : (z = frozen (updL st2.bl back) (argIts st2.bl con.muts 0 (c.args.toList.map st.val)) ∧ hasRo ret.vals = true) ∨ (z = [] ∧ hasRo ret.vals = false) := by
   rcases hz with ⟨e, e'⟩ | e
   · left
     refine ⟨?_, e'⟩
     rw [g2, e]
     exact (frozen_congr (bl := updL st.bl back) (bl2 := updL st2.bl back) fun id hid => hbl1 id (hc1 id hid)).symm
   · exact .inr e
 have hfresh2 : freshB (updL (updL st2.bl back) z) (takeRVs (fun k => k) nid ret.vals).2 = true := by
   rw [← hfresh]
   exact fresh_congr fun id hid => updL_congr (hbl1 id (hc3 id hid)) z
 obtain ⟨k1, k2, k3⟩ := args_ready h hvals hargs hts hits hb2
 have hlow : ∀ r ∈ wrOf (argsIts con.muts w 0 args (c.args.toList.map a.eval)), B.g ≤ r := by
   intro r hr
   obtain ⟨id, b, p, _, e2, e3, e4, e5⟩ := k3 r hr
   rcases h.ap.new id b p e2 e3 e4 with g | g
   · have := hM.1.1; omega
   · have := hM.2 _ g; omega
 have hC := hcall w (c.args.toList.map a.eval) (h.good hM) k1 k2 hlow
 have hargsEq : (c.args.toList.map a.eval).toArray = c.args.map a.eval := by
   apply Array.ext'
   simp
 rw [hargsEq] at hC
 unfold Oper.wp
 rw [run_call hf ho hc a w]
 rw [Oper.upon_enter]
 refine hC.mono fun e w' he => ?_
 obtain ⟨v, rfl, ans⟩ := he
 obtain ⟨μ', hI⟩ := call_keeps h hvals hargs hts hits hb2 hz2 hfresh2 hap (Nat.le_trans M.lo_le hid) hd ans
 rw [← updL_app, ← updL_app, List.append_assoc] at hI
 exact hn _ _ _ hI
/-! ### On what a plain operation's step hangs. No condition beyond those that stand in each. -/
theorem plan_congr (E : Env) (op : Op) (nid : Nat) {val val2 : Operand → LV} (h : ∀ x ∈ op.operands, val2 x = val x) : plan E op nid val2 = plan E op nid val := by
 cases op with
 | move x => simp only [plan]; rw [h x (by simp [Op.operands])]
 | assign x => simp only [plan]; rw [h x (by simp [Op.operands])]
 | pick c x y => simp only [plan]; rw [h c (by simp [Op.operands]), h x (by simp [Op.operands]), h y (by simp [Op.operands])]
 | nilCheck x => simp only [plan]; rw [h x (by simp [Op.operands])]
 | alloc t => rfl
 | box t x => simp only [plan]; rw [h x (by simp [Op.operands])]
 | build t parts =>
   simp only [plan]
   have : (parts.toList.map fun p => (p.1, val2 p.2)) = parts.toList.map fun p => (p.1, val p.2) := List.map_congr_left fun p hp => by
     rw [h p.2 (by simp only [Op.operands]; exact List.mem_toArray.2 (List.mem_map.2 ⟨p, hp, rfl⟩))]
   rw [this]
 | buildSlice t n parts =>
   simp only [plan]
   have : (parts.toList.map fun p => (p.1, val2 p.2)) = parts.toList.map fun p => (p.1, val p.2) := List.map_congr_left fun p hp => by
     rw [h p.2 (by simp only [Op.operands]; exact List.mem_toArray.2 (List.mem_map.2 ⟨p, hp, rfl⟩))]
   rw [this]
 | load t x => simp only [plan]; rw [h x (by simp [Op.operands])]
 | store t x y => simp only [plan]; rw [h x (by simp [Op.operands]), h y (by simp [Op.operands])]
 | binOp op t x y z => simp only [plan]; rw [h x (by simp [Op.operands]), h y (by simp [Op.operands])]
 | unOp op t x => simp only [plan]; rw [h x (by simp [Op.operands])]
 | convert s t x => simp only [plan]; rw [h x (by simp [Op.operands])]
 | makeSlice t x y => simp only [plan]; rw [h x (by simp [Op.operands]), h y (by simp [Op.operands])]
 | slice t x lo hi mx =>
   cases mx with
   | some _ => rfl
   | none =>
     simp only [plan]
     rw [h x (by simp [Op.operands])]
     have h1 : lo.map val2 = lo.map val := by
       cases lo with
       | none => rfl
       | some y => simp only [Option.map_some]; rw [h y (by simp [Op.operands])]
     have h2 : hi.map val2 = hi.map val := by
       cases hi with
       | none => rfl
       | some y => simp only [Option.map_some]; rw [h y (by simp [Op.operands])]
     rw [h1, h2]
 | fieldAddr t x i => simp only [plan]; rw [h x (by simp [Op.operands])]
 | field t x i => simp only [plan]; rw [h x (by simp [Op.operands])]
 | indexAddr t x y => simp only [plan]; rw [h x (by simp [Op.operands]), h y (by simp [Op.operands])]
 | index t x y => simp only [plan]; rw [h x (by simp [Op.operands]), h y (by simp [Op.operands])]
 | extract x i => simp only [plan]; rw [h x (by simp [Op.operands])]
 | call c =>
   have hx : ∀ x ∈ c.args.toList, val2 x = val x := fun x hx => h x (by simp only [Op.operands, Call.operands]; simp; right; simpa using hx)
   simp only [plan]
   split
   · split
     · rename_i x t h1 h2 h3; rw [h1] at hx; rw [hx x (by simp)]
     · rename_i x y h1 h2; rw [h1] at hx; rw [hx x (by simp), hx y (by simp)]
     · rename_i x y h1 h2; rw [h1] at hx; rw [hx x (by simp), hx y (by simp)]
     · rename_i x y t t2 h1 h2 h3; rw [h1] at hx; rw [hx x (by simp), hx y (by simp)]
     · rename_i x y t t2 h1 h2 h3; rw [h1] at hx; rw [hx x (by simp), hx y (by simp)]
     · rfl
   · rfl
 | _ => rfl
/-! ### One operation: what the evaluator says of it, and on what that hangs. No condition beyond those that stand in each. -/
structure Ran (P : Program) (B : Base) (ops : Array Oper) (o : Oper) (st : St) (v : LV) (wr : List (Nat × Blk)) (rs ws : List Nat) : Prop where
 sub : ∀ id ∈ fstB wr, id ∈ ws
 kept : ∀ st2 : St, (∀ t ∈ o.looksAt ops, st2.tm t = st.tm t) → (∀ id, id ∈ rs ∨ id ∈ ws → st2.bl id = st.bl id) → Kept P B o st2 ⟨updO st2.tm o.dst v, updL st2.bl wr⟩
theorem val_looks {ops : Array Oper} {o : Oper} {st st2 : St} (h : ∀ t ∈ o.looksAt ops, st2.tm t = st.tm t) : ∀ x ∈ o.op.operands, st2.val x = st.val x := by
 intro x hx
 cases x with
 | tmp t => exact h t (by
     unfold Oper.looksAt
     rw [List.mem_append]
     left
     rw [List.mem_filterMap]
     exact ⟨.tmp t, by simpa using hx, rfl⟩)
 | _ => rfl
def GOk {R : Type} (P : Program) (B : Base) (G : Cons R) : Prop := ∀ f con, look none (G.map fun x => (x.1, some x.2)) f = some con → callB P f = true ∧ ConOk P B f con
theorem evOp_ran {R : Type} {P : Program} {B : Base} {E : Env} {G : Cons R} (hP : E.P = P) (hE : ∀ t ∈ E.eqs, eqFree E.P t = true) (hG : GOk P B G) (ops : Array Oper) {nid : Nat} (hid : 1000 ≤ nid) {o : Oper} {st : St} {K : List Nat → List Nat → St → Option R} {r : R}
   (h : evOp E G nid o st K = some r) : ∃ v wr rs ws, K rs ws ⟨updO st.tm o.dst v, updL st.bl wr⟩ = some r ∧ Ran P B ops o st v wr rs ws := by
 unfold evOp at h
 split at h
 · rename_i f args t1 hop
   unfold evCall at h
   split at h
   · rename_i con hcon
     obtain ⟨hf, hok⟩ := hG f con hcon
     split at h
     · rename_i as ts hargs hts hits
       have hc1 : ∀ c : Call, o.op = .call c → c.callee = .value (.func f) → c.args = args → True := fun _ _ _ _ => trivial
       obtain ⟨ret, hK, hstep⟩ := call_kept hf hok hop rfl hid hargs hts hits h
       split at hK
       · rename_i back hb
         rw [fBls_eq] at hK
         have hB := backs_of _ _ _ hb
         have fin : ∀ z, ((z = frozen (updL st.bl back) (argIts st.bl con.muts 0 (args.toList.map st.val)) ∧ hasRo ret.vals = true) ∨ (z = [] ∧ hasRo ret.vals = false)) → ∀ rs ws, rs = sndB (argIts st.bl con.muts 0 (args.toList.map st.val)) → (∀ id, id ∈ ws ↔ id ∈ fstB z ∨ id ∈ fstB back) →
             evAns nid o.dst st (updL (updL st.bl back) z) ret.vals rs ws K = some r → ∃ v wr rs ws, K rs ws ⟨updO st.tm o.dst v, updL st.bl wr⟩ = some r ∧ Ran P B ops o st v wr rs ws := by
           intro z hz rs ws hrs hws hA
           unfold evAns at hA
           simp only at hA
           split at hA
           · rename_i hfr
             simp only [Bool.and_eq_true] at hfr
             rw [fLV_eq, fBls_eq] at hA
             refine ⟨_, (takeRVs (fun k => k) nid ret.vals).2 ++ (z ++ back), _, _, by rw [updL_app, updL_app]; exact hA, ?_, ?_⟩
             · intro id hm
               rw [fstB_app, fstB_app, List.mem_append, List.mem_append] at hm
               rw [List.mem_append]
               rcases hm with g | g
               · exact .inl g
               · exact .inr ((hws id).2 g)
             · intro st2 ht hbl
               refine hstep back z hB hz hfr.1 hfr.2 st2 ?_ (fun id hm => hbl id (.inl (by rw [hrs]; exact hm))) (fun id hm => hbl id (.inr (List.mem_append_right _ ((hws id).2 (.inr hm))))) (fun id hm => hbl id (.inr (List.mem_append_left _ hm)))
               refine List.map_congr_left fun x hx => val_looks ht x ?_
               rw [hop]
               simp only [Op.operands, Call.operands]
               simp
               right
               simpa using hx
           · cases hA
         split at hK
         · rename_i hro
           rw [fBls_eq] at hK
           exact fin _ (.inl ⟨rfl, hro⟩) _ _ rfl (fun id => by simp) hK
         · rename_i hro
           exact fin [] (.inr ⟨rfl, hro⟩) _ _ rfl (fun id => by simp [fstB]) hK
       · cases hK
     · cases h
   · cases h
 · split at h
   · rename_i ids f hp
     split at h
     · rename_i g v wr hf
       cases g with
       | false => cases h
       | true =>
         simp only [cond_true] at h
         rw [fLV_eq, fBls_eq] at h
         refine ⟨v, wr, ids, fstB wr, h, fun id hm => hm, fun st2 ht hbl => ?_⟩
         refine plan_kept hP hE o hid (ids := ids) (f := f) (v := v) (wr := wr) ?_ ?_
         · rw [plan_congr E o.op nid (val_looks ht)]; exact hp
         · have : ids.map st2.bl = ids.map st.bl := List.map_congr_left fun id hm => hbl id (.inl hm)
           rw [this]; exact hf
     · cases h
   · cases h
/-! ### A region's operations, one after the other. No condition beyond those that stand in each. -/
/-- What became of one operation: it ran, or its guard kept it out. -/
inductive StepW (P : Program) (B : Base) (ops : Array Oper) (o : Oper) (st : St) : LV → List (Nat × Blk) → List Nat → List Nat → Prop
 | ran {v wr rs ws} : (∀ j want, o.guard = some (j, want) → ∃ d b, (ops[j]?).bind (·.dst) = some d ∧ st.tm d = .c (.s (.bool b)) ∧ b = want) → Ran P B ops o st v wr rs ws → StepW P B ops o st v wr rs ws
 | out {j want d x} : o.guard = some (j, want) → (ops[j]?).bind (·.dst) = some d → st.tm d = .c (.s x) → (∀ b, x = .bool b → b ≠ want) → StepW P B ops o st (.c (.s undef)) [] [] []
def St.app (st : St) (o : Oper) (v : LV) (wr : List (Nat × Blk)) : St := ⟨updO st.tm o.dst v, updL st.bl wr⟩
/-- The steps of a region, in the order of its text. -/
inductive Tr (P : Program) (B : Base) (ops : Array Oper) (draw : Bool) : List Oper → Nat → List Lg → St → St → Prop
 | nil {i lg st} : Tr P B ops draw [] i lg st st
 | cons {o rest i lg lg' st v wr rs ws st'} : StepW P B ops o st v wr rs ws → evLog draw ops.toList i o rs ws lg = some lg' → Tr P B ops draw rest (i + 1) lg' (st.app o v wr) st' → Tr P B ops draw (o :: rest) i lg st st'
theorem upd_self {α : Type u} (f : Nat → α) (n : Nat) (v : α) (h : f n = v) : upd f n v = f := by
 funext t
 rcases upd_cases f n t v with ⟨rfl, e⟩ | ⟨ne, e⟩
 · rw [e, h]
 · exact e
theorem evOps_tr {R : Type} {P : Program} {B : Base} {E : Env} {G : Cons R} (hP : E.P = P) (hE : ∀ t ∈ E.eqs, eqFree E.P t = true) (hG : GOk P B G) (ops : Array Oper) (rid : Nat) (draw : Bool) {K : St → Option R} {r : R} : ∀ (rest : List Oper) (i : Nat) (lg : List Lg) (st : St),
   evOps E G rid draw ops.toList K rest i lg st = some r → ∃ st', K st' = some r ∧ Tr P B ops draw rest i lg st st'
 | [], i, lg, st, h => ⟨st, h, .nil⟩
 | o :: rest, i, lg, st, h => by
   have after : ∀ (v : LV) (wr : List (Nat × Blk)) (rs ws : List Nat), StepW P B ops o st v wr rs ws →
       (match evLog draw ops.toList i o rs ws lg with
         | none => none
         | some lg => match isGuard ops.toList i, o.dst with
           | true, some d => match (st.app o v wr).tm d with
             | .c (.s (.bool b)) => cond b (evOps E G rid draw ops.toList K rest (i + 1) lg ⟨upd (st.app o v wr).tm d (bool true), (st.app o v wr).bl⟩) (evOps E G rid draw ops.toList K rest (i + 1) lg ⟨upd (st.app o v wr).tm d (bool false), (st.app o v wr).bl⟩)
             | .c (.s (.tuple _)) => evOps E G rid draw ops.toList K rest (i + 1) lg (st.app o v wr)
             | _ => none
           | _, _ => evOps E G rid draw ops.toList K rest (i + 1) lg (st.app o v wr) : Option R) = some r → ∃ st', K st' = some r ∧ Tr P B ops draw (o :: rest) i lg st st' := by
     intro v wr rs ws hs hA
     have go : ∀ lg', evLog draw ops.toList i o rs ws lg = some lg' → evOps E G rid draw ops.toList K rest (i + 1) lg' (st.app o v wr) = some r → ∃ st', K st' = some r ∧ Tr P B ops draw (o :: rest) i lg st st' := by
       intro lg' hl hr
       obtain ⟨st', h1, h2⟩ := evOps_tr hP hE hG ops rid draw rest (i + 1) lg' _ hr
       exact ⟨st', h1, .cons hs hl h2⟩
     split at hA
     · cases hA
     · rename_i lg' hl
       split at hA
       · rename_i d hg hd
         split at hA
         · rename_i b hb
           cases b with
           | true =>
             simp only [cond_true] at hA
             rw [show upd (st.app o v wr).tm d (bool true) = (st.app o v wr).tm from upd_self _ _ _ hb] at hA
             exact go lg' hl hA
           | false =>
             simp only [cond_false] at hA
             rw [show upd (st.app o v wr).tm d (bool false) = (st.app o v wr).tm from upd_self _ _ _ hb] at hA
             exact go lg' hl hA
         · exact go lg' hl hA
         · cases hA
       · exact go lg' hl hA
   have hid : 1000 ≤ 1000 * rid + 10000000 + i * 100000000 := by omega
   simp only [evOps] at h
   split at h
   · rename_i hg
     obtain ⟨v, wr, rs, ws, h1, h2⟩ := evOp_ran hP hE hG ops hid h
     exact after v wr rs ws (.ran (fun j want e => by rw [hg] at e; cases e) h2) h1
   · rename_i j want hg
     cases hb : (ops.toList[j]?).bind (·.dst) with
     | none => rw [hb] at h; cases h
     | some d =>
       have hb' : (ops[j]?).bind (·.dst) = some d := by simpa using hb
       rw [hb] at h
       simp only [Option.map_some] at h
       split at h
       · rename_i b hv
         simp only [Option.some.injEq] at hv
         split at h
         · obtain ⟨v, wr, rs, ws, h1, h2⟩ := evOp_ran hP hE hG ops hid h
           exact after v wr rs ws (.ran (fun j' want' e => by rw [hg] at e; cases e; exact ⟨d, true, hb', hv, rfl⟩) h2) h1
         · obtain ⟨v, wr, rs, ws, h1, h2⟩ := evOp_ran hP hE hG ops hid h
           exact after v wr rs ws (.ran (fun j' want' e => by rw [hg] at e; cases e; exact ⟨d, false, hb', hv, rfl⟩) h2) h1
         · rename_i h1 h2
           refine after _ [] [] [] (.out hg hb' hv fun b' e => ?_) h
           cases e
           intro e; subst e
           cases b with
           | true => exact h1 rfl rfl
           | false => exact h2 rfl rfl
       · rename_i x hv
         simp only [Option.some.injEq] at hv
         exact after _ [] [] [] (.out hg hb' hv fun b' e => by cases e) h
       · cases h
/-! ### A region in the order of its text. No condition beyond those that stand in each. -/
section
variable {N : Nat} {W0 : World} {M : Fr} {P : Program} {B : Base} {ops : Array Oper}
theorem yield_bool {st : St} {μ : Lay} {a : Act} {w : World} (h : Inv N W0 M st μ a w) {j d : Nat} {x : Value} (hj : (ops[j]?).bind (·.dst) = some d) (ht : st.tm d = .c (.s x)) : ∀ b, yielded ops a.tmps j = some b ↔ x = .bool b := by
 intro b
 have hx : a.tmps.getD d undef = x := by have := h.tm d; rw [ht] at this; exact this.1
 unfold yielded
 rw [hj]
 simp only [Option.bind_some]
 have hx' : (a.tmps[d]?).getD undef = x := by simpa [Array.getD_eq_getD_getElem?] using hx
 cases hd : a.tmps[d]? with
 | none =>
   rw [hd] at hx'
   simp only [Option.getD_none] at hx'
   subst hx'
   simp [undef]
 | some v =>
   rw [hd] at hx'
   simp only [Option.getD_some] at hx'
   subst hx'
   cases v <;> simp
theorem guard_looks {o : Oper} {j : Nat} {want : Bool} {d : Nat} (hg : o.guard = some (j, want)) (hj : (ops[j]?).bind (·.dst) = some d) : d ∈ o.looksAt ops := by
 unfold Oper.looksAt
 rw [List.mem_append]
 right
 rw [hg]
 simp only
 rw [hj]
 simp
theorem StepW.wp {o : Oper} {st st2 : St} {v : LV} {wr : List (Nat × Blk)} {rs ws : List Nat} (hs : StepW P B ops o st v wr rs ws) (ht : ∀ t ∈ o.looksAt ops, st2.tm t = st.tm t) (hbl : ∀ id, id ∈ rs ∨ id ∈ ws → st2.bl id = st.bl id) {i : Nat} (ho : ops[i]? = some o)
   {μ : Lay} {a : Act} {w : World} (h : Inv N W0 M st2 μ a w) (hM : MOk B W0 M) (hd : ∀ d, o.dst = some d → d < N) {next : Act → World → Prop} {Q : Exit → Act → World → Prop} (hn : ∀ μ' a' w', Inv N W0 M (st2.app o v wr) μ' a' w' → next a' w') : wpOp P ops Q i next a w := by
 unfold wpOp
 rw [ho]
 simp only
 cases hs with
 | ran hg hr =>
   have hw : Region.wanted o (yielded ops a.tmps) = true := by
     unfold Region.wanted
     split
     · rfl
     · rename_i j want hgd
       obtain ⟨d, b, h1, h2, rfl⟩ := hg j want hgd
       rw [← ht d (guard_looks hgd h1)] at h2
       rw [(yield_bool h h1 h2 b).2 rfl]
       simp
   rw [if_pos hw]
   exact .inl (hr.kept st2 ht hbl N W0 M μ a w h hM hd next Q hn)
 | out hg h1 h2 h3 =>
   rename_i j want d x
   have hw : ¬ Region.wanted o (yielded ops a.tmps) = true := by
     unfold Region.wanted
     rw [hg]
     simp only [beq_iff_eq]
     intro e
     rw [← ht d (guard_looks hg h1)] at h2
     exact h3 want ((yield_bool h h1 h2 want).1 e) rfl
   rw [if_neg hw]
   exact hn _ _ _ (h.put hd (v := .c (.s undef)) ⟨rfl, rfl⟩)
/-- In the order of the text. -/
theorem Tr.text {draw : Bool} (hM : MOk B W0 M) : ∀ {rest : List Oper} {i : Nat} {lg : List Lg} {st st' : St}, Tr P B ops draw rest i lg st st' → (∀ k, rest[k]? = ops[i + k]?) → (∀ o ∈ rest, ∀ d, o.dst = some d → d < N) →
   ∀ {μ : Lay} {a : Act} {w : World} {Q : Exit → Act → World → Prop}, Inv N W0 M st μ a w → (∀ μ' a' w', Inv N W0 M st' μ' a' w' → Q .normal a' w') → wpOps P ops Q (List.range' i rest.length) a w
 | _, i, lg, st, _, .nil, _, _, μ, a, w, Q, h, hq => hq μ a w h
 | _, i, lg, st, st', .cons (o := o) (rest := rest) hs hl ht, hr, hd, μ, a, w, Q, h, hq => by
   show wpOps P ops Q (i :: List.range' (i + 1) rest.length) a w
   rw [wpOps_cons]
   have ho : ops[i]? = some o := by have := hr 0; simpa using this.symm
   refine hs.wp (fun _ _ => rfl) (fun _ _ => rfl) ho h hM (hd o (by simp)) fun μ' a' w' h' => ?_
   refine Tr.text hM ht (fun k => ?_) (fun o' ho' => hd o' (by simp [ho'])) h' hq
   have := hr (k + 1)
   simp only [List.getElem?_cons_succ] at this
   rw [this]
   congr 1
   omega
end
/-! ### Loops, from their head on. No condition beyond those that stand in each. -/
/-- A loop that stands at its head. -/
def LoopWp (P : Program) (c : Code) (Q : Exit → Act → World → Prop) (a : Act) (w : World) : Prop :=
 ∀ (b : Frame) (k : List Item) (cs : List Frame), ∃ e a' w', Q e a' w' ∧ Arrives P (lone (b.at a (.code c :: .inLoop c :: k)) cs w) b k cs e a' w'
theorem loop_of {P : Program} {c : Code} {Q : Exit → Act → World → Prop} {a : Act} {w : World} (h : LoopWp P c Q a w) : (Code.loop c).wp P Q a w := fun b k cs =>
 let ⟨e, a', w', q, r⟩ := h b k cs
 ⟨e, a', w', q, .of_steps (.one step_loop) r⟩
theorem loop_round {P : Program} {c : Code} {Q : Exit → Act → World → Prop} {a : Act} {w : World} (h : c.wp P (Exit.then (LoopWp P c Q) Q) a w) : LoopWp P c Q a w := by
 intro b k cs
 obtain ⟨e, a₁, w₁, hq, harr⟩ := h b (.inLoop c :: k) cs
 cases e with
 | normal =>
   obtain ⟨e₂, a₂, w₂, hq₂, harr₂⟩ := hq b k cs
   exact ⟨e₂, a₂, w₂, hq₂, .of_steps (Steps.trans harr (.one step_inLoop)) harr₂⟩
 | exit id => exact ⟨_, a₁, w₁, hq, .pass (x := .inLoop c) rfl (fun _ _ => .inl (by simp)) harr⟩
 | goto l => exact ⟨_, a₁, w₁, hq, .pass (x := .inLoop c) rfl (fun _ _ => .inl (by simp)) harr⟩
 | ret => exact ⟨_, a₁, w₁, hq, .pass (x := .inLoop c) rfl (fun _ _ => .inl (by simp)) harr⟩
 | panic ch => exact ⟨_, a₁, w₁, hq, .pass (x := .inLoop c) rfl (fun _ _ => .inl (by simp)) harr⟩
 | outgrown => exact ⟨_, a₁, w₁, hq, .pass (x := .inLoop c) rfl (fun _ _ => .inl (by simp)) harr⟩
/-! ### A code: what the evaluator says, the machine does. It asks for the regions' law. No condition beyond those that stand in each. -/
def Ex.out : Ex → Exit
 | .normal => .normal
 | .exit id => .exit id
 | .ret => .ret
/-- Every operation writes a temporary that there is. -/
def dstB (N : Nat) : Code → Bool
 | .region _ ops _ => ops.toList.all fun o => match o.dst with | some d => Nat.blt d N | none => true
 | .seq a b => dstB N a && dstB N b
 | .cond _ a b => dstB N a && dstB N b
 | .block _ a => dstB N a
 | .loop a => dstB N a
 | _ => true
def RegOk {R : Type} (N : Nat) (B : Base) (E : Env) (G : Cons R) : Prop := ∀ (id : Nat) (ops : Array Oper) (draw : Bool) (st : St) (K : St → Option R) (r : R), evOps E G id draw ops.toList K ops.toList 0 [] st = some r → (∀ o ∈ ops.toList, ∀ d, o.dst = some d → d < N) →
 ∃ st', K st' = some r ∧ ∀ W0 M, MOk B W0 M → ∀ μ a w, Inv N W0 M st μ a w → (Code.region id ops draw).wp E.P (fun e a' w' => e = .normal ∧ ∃ μ', Inv N W0 M st' μ' a' w') a w
section
variable {R : Type} {N : Nat} {B : Base} {E : Env} {G : Cons R} {k : Nat} {H : List (Nat × Meet)}
def Post (N : Nat) (W0 : World) (M : Fr) (e : Ex) (st : St) : Exit → Act → World → Prop := fun ex a' w' => ex = e.out ∧ ∃ μ', Inv N W0 M st μ' a' w'
def CodeOk (N : Nat) (B : Base) (P : Program) (c : Code) (st : St) (e : Ex) (st' : St) : Prop := ∀ W0 M, MOk B W0 M → ∀ μ a w, Inv N W0 M st μ a w → c.wp P (Post N W0 M e st') a w
theorem ev_sound (hreg : RegOk N B E G) : ∀ (c : Code) (p : Nat) (st : St) (K : Kont R) (r : R), ev E G k H c p st K = some r → dstB N c = true → ∃ e st', K e st' = some r ∧ CodeOk N B E.P c st e st' := by
 intro c
 induction c with
 | skip =>
   intro p st K r h hd
   exact ⟨.normal, _, h, fun W0 M hM μ a w hi => wp_skip ⟨rfl, atMeet_sound hi H p⟩⟩
 | region id ops draw =>
   intro p st K r h hd
   obtain ⟨st', h1, h2⟩ := hreg id ops draw st _ r h (fun o ho d e => by
     simp only [dstB, List.all_eq_true] at hd
     have := hd o ho
     rw [e] at this
     exact Nat.le_of_ble_eq_true this)
   refine ⟨.normal, _, h1, fun W0 M hM μ a w hi => wp_mono (h2 W0 M hM μ a w hi) fun e a' w' he => ?_⟩
   obtain ⟨rfl, μ', hi'⟩ := he
   exact ⟨rfl, atMeet_sound hi' H p⟩
 | seq a b iha ihb =>
   intro p st K r h hd
   simp only [dstB, Bool.and_eq_true] at hd
   obtain ⟨e, st1, h1, h2⟩ := iha (2 * p) st _ r h hd.1
   cases e with
   | normal =>
     obtain ⟨e', st2, h3, h4⟩ := ihb (2 * p + 1) st1 K r h1 hd.2
     refine ⟨e', st2, h3, fun W0 M hM μ a w hi => wp_seq (wp_mono (h2 W0 M hM μ a w hi) fun ex a' w' he => ?_)⟩
     obtain ⟨rfl, μ', hi'⟩ := he
     exact h4 W0 M hM μ' a' w' hi'
   | exit id =>
     refine ⟨.exit id, st1, h1, fun W0 M hM μ a w hi => wp_seq (wp_mono (h2 W0 M hM μ a w hi) fun ex a' w' he => ?_)⟩
     obtain ⟨rfl, hi'⟩ := he
     exact ⟨rfl, hi'⟩
   | ret =>
     refine ⟨.ret, st1, h1, fun W0 M hM μ a w hi => wp_seq (wp_mono (h2 W0 M hM μ a w hi) fun ex a' w' he => ?_)⟩
     obtain ⟨rfl, hi'⟩ := he
     exact ⟨rfl, hi'⟩
 | block id a iha =>
   intro p st K r h hd
   obtain ⟨e, st1, h1, h2⟩ := iha (2 * p) st _ r h hd
   cases e with
   | normal =>
     refine ⟨.normal, _, h1, fun W0 M hM μ a w hi => wp_block (wp_mono (h2 W0 M hM μ a w hi) fun ex a' w' he => ?_)⟩
     obtain ⟨rfl, μ', hi'⟩ := he
     exact ⟨rfl, atMeet_sound hi' H p⟩
   | exit j =>
     simp only [blockK] at h1
     split at h1
     · rename_i hj
       have hj := Nat.eq_of_beq_eq_true hj
       subst hj
       refine ⟨.normal, _, h1, fun W0 M hM μ a w hi => wp_block (wp_mono (h2 W0 M hM μ a w hi) fun ex a' w' he => ?_)⟩
       obtain ⟨rfl, μ', hi'⟩ := he
       simp only [Ex.out, Exit.inBlock, if_true]
       exact ⟨rfl, atMeet_sound hi' H p⟩
     · rename_i hj
       have hj : j ≠ id := fun e => by subst e; simp at hj
       refine ⟨.exit j, _, h1, fun W0 M hM μ a w hi => wp_block (wp_mono (h2 W0 M hM μ a w hi) fun ex a' w' he => ?_)⟩
       obtain ⟨rfl, hi'⟩ := he
       simp only [Ex.out, Exit.inBlock, if_neg hj]
       exact ⟨rfl, hi'⟩
   | ret =>
     refine ⟨.ret, _, h1, fun W0 M hM μ a w hi => wp_block (wp_mono (h2 W0 M hM μ a w hi) fun ex a' w' he => ?_)⟩
     obtain ⟨rfl, hi'⟩ := he
     exact ⟨rfl, hi'⟩
 | cond c a b iha ihb =>
   intro p st K r h hd
   simp only [dstB, Bool.and_eq_true] at hd
   change (match st.val c with
     | .c (.s (.bool t)) => cond t (ev E G k H a (2 * p) st (seqK (fun st' => K .normal (atMeet H p st')) K)) (ev E G k H b (2 * p + 1) st (seqK (fun st' => K .normal (atMeet H p st')) K))
     | _ => none) = some r at h
   split at h
   · rename_i t hv
     have hev : ∀ W0 M, MOk B W0 M → ∀ μ a w, Inv N W0 M st μ a w → a.eval c = .bool t := fun W0 M hM μ a w hi => by have := hi.val c; rw [hv] at this; exact this.1
     have fin : ∀ (x : Code) (e : Ex) (st1 : St), seqK (fun st' => K .normal (atMeet H p st')) K e st1 = some r → CodeOk N B E.P x st e st1 → ∃ e' st', K e' st' = some r ∧ CodeOk N B E.P x st e' st' := by
       intro x e st1 h1 h2
       cases e with
       | normal =>
         refine ⟨.normal, _, h1, fun W0 M hM μ a w hi => wp_mono (h2 W0 M hM μ a w hi) fun ex a' w' he => ?_⟩
         obtain ⟨rfl, μ', hi'⟩ := he
         exact ⟨rfl, atMeet_sound hi' H p⟩
       | exit id => exact ⟨.exit id, st1, h1, h2⟩
       | ret => exact ⟨.ret, st1, h1, h2⟩
     cases t with
     | true =>
       obtain ⟨e, st1, h1, h2⟩ := iha (2 * p) st _ r h hd.1
       obtain ⟨e', st', h3, h4⟩ := fin a e st1 h1 h2
       exact ⟨e', st', h3, fun W0 M hM μ a w hi => wp_cond_true (hev W0 M hM μ a w hi) (h4 W0 M hM μ a w hi)⟩
     | false =>
       obtain ⟨e, st1, h1, h2⟩ := ihb (2 * p + 1) st _ r h hd.2
       obtain ⟨e', st', h3, h4⟩ := fin b e st1 h1 h2
       exact ⟨e', st', h3, fun W0 M hM μ a w hi => wp_cond_false (hev W0 M hM μ a w hi) (h4 W0 M hM μ a w hi)⟩
   · cases h
 | loop a iha =>
   intro p st K r h hd
   have key : ∀ (n : Nat) (st : St), evLoop (ev E G k H a (2 * p)) (atMeet H p) K n st = some r → ∃ e st', K e st' = some r ∧ ∀ W0 M, MOk B W0 M → ∀ μ b w, Inv N W0 M st μ b w → LoopWp E.P a (Post N W0 M e st') b w := by
     intro n
     induction n with
     | zero => intro st h; cases h
     | succ n ih =>
       intro st h
       obtain ⟨e, st1, h1, h2⟩ := iha (2 * p) st _ r h hd
       cases e with
       | normal =>
         obtain ⟨e', st', h3, h4⟩ := ih (atMeet H p st1) h1
         refine ⟨e', st', h3, fun W0 M hM μ b w hi => loop_round (wp_mono (h2 W0 M hM μ b w hi) fun ex a' w' he => ?_)⟩
         obtain ⟨rfl, μ', hi'⟩ := he
         obtain ⟨μ2, hi2⟩ := atMeet_sound hi' H p
         exact h4 W0 M hM μ2 a' w' hi2
       | exit id =>
         refine ⟨.exit id, st1, h1, fun W0 M hM μ b w hi => loop_round (wp_mono (h2 W0 M hM μ b w hi) fun ex a' w' he => ?_)⟩
         obtain ⟨rfl, hi'⟩ := he
         exact ⟨rfl, hi'⟩
       | ret =>
         refine ⟨.ret, st1, h1, fun W0 M hM μ b w hi => loop_round (wp_mono (h2 W0 M hM μ b w hi) fun ex a' w' he => ?_)⟩
         obtain ⟨rfl, hi'⟩ := he
         exact ⟨rfl, hi'⟩
   obtain ⟨e, st', h1, h2⟩ := key k (atMeet H p st) h
   refine ⟨e, st', h1, fun W0 M hM μ b w hi => ?_⟩
   obtain ⟨μ', hi'⟩ := atMeet_sound hi H p
   exact loop_of (h2 W0 M hM μ' b w hi')
 | exit id =>
   intro p st K r h hd
   exact ⟨.exit id, _, h, fun W0 M hM μ a w hi => wp_exit ⟨rfl, atMeet_sound hi H p⟩⟩
 | ret =>
   intro p st K r h hd
   exact ⟨.ret, _, h, fun W0 M hM μ a w hi => wp_ret ⟨rfl, atMeet_sound hi H p⟩⟩
 | label l =>
   intro p st K r h hd
   exact ⟨.normal, _, h, fun W0 M hM μ a w hi => wp_label ⟨rfl, μ, hi⟩⟩
 | _ => intro p st K r h hd; cases h
end
/-! ### Regions. No condition beyond those that stand in each. -/
section
variable {R : Type} {N : Nat} {P : Program} {B : Base} {E : Env} {G : Cons R}
theorem reg_text (hE : ∀ t ∈ E.eqs, eqFree E.P t = true) (hG : GOk E.P B G) (id : Nat) (ops : Array Oper) (st : St) (K : St → Option R) (r : R) (h : evOps E G id false ops.toList K ops.toList 0 [] st = some r) (hd : ∀ o ∈ ops.toList, ∀ d, o.dst = some d → d < N) :
   ∃ st', K st' = some r ∧ ∀ W0 M, MOk B W0 M → ∀ μ a w, Inv N W0 M st μ a w → (Code.region id ops false).wp E.P (fun e a' w' => e = .normal ∧ ∃ μ', Inv N W0 M st' μ' a' w') a w := by
 obtain ⟨st', h1, h2⟩ := evOps_tr (B := B) rfl hE hG ops id false ops.toList 0 [] st h
 refine ⟨st', h1, fun W0 M hM μ a w hi => wp_region ?_⟩
 have := Tr.text (Q := fun e a' w' => e = .normal ∧ ∃ μ', Inv N W0 M st' μ' a' w') hM h2 (fun k => by simp) hd hi (fun μ' a' w' h => ⟨rfl, μ', h⟩)
 rw [List.range_eq_range']
 simpa using this
end
/-! ### A region whose order is drawn: every order comes to the same. No condition beyond those that stand in each. -/
/-- One step of a region, with the state ahead of it. -/
structure Ent where
 i : Nat
 o : Oper
 v : LV
 wr : List (Nat × Blk)
 rs : List Nat
 ws : List Nat
 st : St
def appS (S : Nat → Bool) : List Ent → St → St
 | [], st => st
 | e :: l, st => appS S l (match S e.i with | true => st.app e.o e.v e.wr | false => st)
theorem app_tm {st st' : St} {t : Nat} (h : st.tm t = st'.tm t) (o : Oper) (v : LV) (wr : List (Nat × Blk)) : (st.app o v wr).tm t = (st'.app o v wr).tm t := by
 show updO st.tm o.dst v t = updO st'.tm o.dst v t
 cases o.dst with
 | none => exact h
 | some d =>
   show upd st.tm d v t = upd st'.tm d v t
   rcases upd_cases st.tm d t v with ⟨rfl, e⟩ | ⟨ne, e⟩
   · rw [e, upd_same]
   · rw [e, upd_ne _ _ ne]; exact h
theorem app_tm_ne {st : St} {t : Nat} {o : Oper} (h : o.dst ≠ some t) (v : LV) (wr : List (Nat × Blk)) : (st.app o v wr).tm t = st.tm t := by
 show updO st.tm o.dst v t = _
 cases hd : o.dst with
 | none => rfl
 | some d => exact upd_ne _ _ (fun e => h (by rw [hd, e]))
theorem app_bl {st st' : St} {id : Nat} (h : st.bl id = st'.bl id) (o : Oper) (v : LV) (wr : List (Nat × Blk)) : (st.app o v wr).bl id = (st'.app o v wr).bl id := updL_congr h wr
theorem app_bl_ne {st : St} {id : Nat} {wr : List (Nat × Blk)} (h : id ∉ fstB wr) (o : Oper) (v : LV) : (st.app o v wr).bl id = st.bl id := updL_none fun b hb => h (fst_mem hb)
theorem appS_tm {S S' : Nat → Bool} {t : Nat} : ∀ {L : List Ent} {st st' : St}, (∀ e ∈ L, S e.i ≠ S' e.i → e.o.dst ≠ some t) → st.tm t = st'.tm t → (appS S L st).tm t = (appS S' L st').tm t
 | [], _, _, _, h => h
 | e :: l, st, st', hd, h => by
   refine appS_tm (L := l) (fun e' he' => hd e' (by simp [he'])) ?_
   have := hd e (by simp)
   cases h1 : S e.i <;> cases h2 : S' e.i <;> rw [h1, h2] at this
   · exact h
   · simp only; rw [app_tm_ne (this (by simp))]; exact h
   · simp only; rw [app_tm_ne (this (by simp))]; exact h
   · exact app_tm h _ _ _
theorem appS_bl {S S' : Nat → Bool} {id : Nat} : ∀ {L : List Ent} {st st' : St}, (∀ e ∈ L, S e.i ≠ S' e.i → id ∉ fstB e.wr) → st.bl id = st'.bl id → (appS S L st).bl id = (appS S' L st').bl id
 | [], _, _, _, h => h
 | e :: l, st, st', hd, h => by
   refine appS_bl (L := l) (fun e' he' => hd e' (by simp [he'])) ?_
   have := hd e (by simp)
   cases h1 : S e.i <;> cases h2 : S' e.i <;> rw [h1, h2] at this
   · exact h
   · simp only; rw [app_bl_ne (this (by simp))]; exact h
   · simp only; rw [app_bl_ne (this (by simp))]; exact h
   · exact app_bl h _ _ _
theorem app_comm (st : St) {o o' : Oper} {v v' : LV} {wr wr' : List (Nat × Blk)} (hd : ∀ d, o.dst = some d → o'.dst ≠ some d) (hw : ∀ id ∈ fstB wr, id ∉ fstB wr') : (st.app o v wr).app o' v' wr' = (st.app o' v' wr').app o v wr := by
 have h1 : ((st.app o v wr).app o' v' wr').tm = ((st.app o' v' wr').app o v wr).tm := by
   funext t
   by_cases e : o.dst = some t
   · rw [app_tm_ne (hd t e)]
     show updO st.tm o.dst v t = updO (st.app o' v' wr').tm o.dst v t
     rw [e]
     show upd st.tm t v t = upd _ t v t
     rw [upd_same, upd_same]
   · rw [app_tm_ne (st := st.app o' v' wr') e]
     exact app_tm (app_tm_ne e v wr) o' v' wr'
 have h2 : ((st.app o v wr).app o' v' wr').bl = ((st.app o' v' wr').app o v wr).bl := by
   funext id
   by_cases e : id ∈ fstB wr
   · rw [app_bl_ne (hw id e)]
     exact app_bl (app_bl_ne (hw id e) o' v').symm o v wr
   · rw [app_bl_ne (st := st.app o' v' wr') e]
     exact app_bl (app_bl_ne e o v) o' v' wr'
 cases hx : (st.app o v wr).app o' v' wr'
 cases hy : (st.app o' v' wr').app o v wr
 rw [hx, hy] at h1 h2
 simp only at h1 h2
 rw [h1, h2]
theorem appS_push {S : Nat → Bool} {o : Oper} {v : LV} {wr : List (Nat × Blk)} : ∀ {L : List Ent} {st : St}, (∀ e ∈ L, S e.i = true → (∀ d, o.dst = some d → e.o.dst ≠ some d) ∧ ∀ id ∈ fstB wr, id ∉ fstB e.wr) → appS S L (st.app o v wr) = (appS S L st).app o v wr
 | [], _, _ => rfl
 | e :: l, st, h => by
   have h' := fun e' he' => h e' (List.mem_cons_of_mem _ he')
   show appS S l _ = (appS S l _).app o v wr
   cases hs : S e.i with
   | false => simp only; exact appS_push h'
   | true =>
     obtain ⟨h1, h2⟩ := h e (by simp) hs
     simp only
     rw [app_comm st h1 h2]
     exact appS_push h'
theorem appS_congr {S S' : Nat → Bool} : ∀ {L : List Ent} {st : St}, (∀ e ∈ L, S e.i = S' e.i) → appS S L st = appS S' L st
 | [], _, _ => rfl
 | e :: l, st, h => by
   show appS S l _ = appS S' l _
   rw [h e (by simp)]
   exact appS_congr fun e' he' => h e' (List.mem_cons_of_mem _ he')
theorem appS_app (S : Nat → Bool) : ∀ (L L' : List Ent) (st : St), appS S (L ++ L') st = appS S L' (appS S L st)
 | [], _, _ => rfl
 | e :: l, L', st => appS_app S l L' _
/-! ### A region whose order is drawn: its steps as entries. No condition beyond those that stand in each. -/
def Ent.lg (e : Ent) : Lg := ⟨e.i, e.o, e.rs, e.ws⟩
/-- The entries of a region's steps. -/
inductive Ents (P : Program) (B : Base) (ops : Array Oper) : List Oper → Nat → List Lg → St → St → List Ent → Prop
 | nil {i lg st} : Ents P B ops [] i lg st st []
 | cons {o rest i lg st v wr rs ws st' L} : StepW P B ops o st v wr rs ws → (∀ e ∈ o.after.toList, bindsAny e = true → e.on < i) → okAfter ops.toList i o rs ws lg lg = true → Ents P B ops rest (i + 1) (⟨i, o, rs, ws⟩ :: lg) (st.app o v wr) st' L → Ents P B ops (o :: rest) i lg st st' (⟨i, o, v, wr, rs, ws, st⟩ :: L)
theorem tr_ents {P : Program} {B : Base} {ops : Array Oper} {rest : List Oper} {i : Nat} {lg : List Lg} {st st' : St} (h : Tr P B ops true rest i lg st st') : ∃ L, Ents P B ops rest i lg st st' L := by
 induction h with
 | nil => exact ⟨[], .nil⟩
 | cons hs hl ht ih =>
   obtain ⟨L, hL⟩ := ih
   unfold evLog at hl
   simp only at hl
   split at hl
   · rename_i hc
     cases hl
     simp only [Bool.and_eq_true, List.all_eq_true] at hc
     refine ⟨_, .cons hs (fun e he hb => ?_) hc.2 hL⟩
     have := hc.1 e he
     rw [hb] at this
     simpa using this
   · cases hl
/-! ### A region whose order is drawn: what is not bound does not touch. No condition beyond those that stand in each. -/
theorem memB_iff {n : Nat} : ∀ {l : List Nat}, memB n l = true ↔ n ∈ l
 | [] => by simp [memB]
 | m :: l => by
   simp only [memB, Bool.or_eq_true, List.mem_cons, memB_iff (l := l)]
   constructor
   · rintro (h | h)
     · exact .inl (Nat.eq_of_beq_eq_true h)
     · exact .inr h
   · rintro (rfl | h)
     · left; simp
     · exact .inr h
theorem disjB_iff {l : List Nat} : ∀ {r : List Nat}, disjB l r = true ↔ ∀ m ∈ r, m ∉ l
 | [] => by simp [disjB]
 | m :: r => by
   simp only [disjB, Bool.and_eq_true, Bool.not_eq_true', disjB_iff (r := r), List.mem_cons]
   constructor
   · rintro ⟨h1, h2⟩ x (rfl | hx)
     · intro hm; rw [memB_iff.2 hm] at h1; cases h1
     · exact h2 x hx
   · intro h
     refine ⟨?_, fun x hx => h x (.inr hx)⟩
     cases hb : memB m l with
     | false => rfl
     | true => exact absurd (memB_iff.1 hb) (h m (.inl rfl))
/-- Two operations of which neither looks at what the other turns. -/
def NoTouch (ops : Array Oper) (d : Lg) (o : Oper) (rs ws : List Nat) : Prop := Oper.apart ops d.o o = true ∧ (∀ m ∈ ws, m ∉ d.rs) ∧ (∀ m ∈ rs, m ∉ d.ws) ∧ ∀ m ∈ ws, m ∉ d.ws
theorem okAfter_mem {ops : List Oper} {i : Nat} {o : Oper} {rs ws : List Nat} {all : List Lg} : ∀ {l : List Lg}, okAfter ops i o rs ws all l = true → ∀ d ∈ l, boundB o d.i = true ∨ NoTouch ops.toArray d o rs ws ∨ ∃ m ∈ all, boundB o m.i = true ∧ boundB m.o d.i = true
 | [], _, d, hd => by cases hd
 | x :: l, h, d, hd => by
   simp only [okAfter, Bool.and_eq_true, Bool.or_eq_true] at h
   simp only [List.mem_cons] at hd
   rcases hd with rfl | hd
   · rcases h.1 with (h1 | ⟨⟨⟨h1, h2⟩, h3⟩, h4⟩) | h1
     · exact .inl h1
     · exact .inr (.inl ⟨h1, disjB_iff.1 h2, disjB_iff.1 h3, disjB_iff.1 h4⟩)
     · right; right
       have : ∀ {k : Nat} {q : List Lg}, boundBy o k q = true → ∃ m ∈ q, boundB o m.i = true ∧ boundB m.o k = true := by
         intro k q
         induction q with
         | nil => intro e; cases e
         | cons y q ih =>
           intro e
           simp only [boundBy, Bool.or_eq_true, Bool.and_eq_true] at e
           rcases e with e | e
           · exact ⟨y, by simp, e⟩
           · obtain ⟨m, h1, h2⟩ := ih e
             exact ⟨m, by simp [h1], h2⟩
       exact this h1
   · exact okAfter_mem h.2 d hd
/-! ### A region whose order is drawn: its entries, one by one. No condition beyond those that stand in each. -/
theorem ents_split {P : Program} {B : Base} {ops : Array Oper} {rest : List Oper} {i : Nat} {lg : List Lg} {st st' : St} {L : List Ent} (h : Ents P B ops rest i lg st st' L) : ∀ (L1 : List Ent) (e : Ent) (L2 : List Ent), L = L1 ++ e :: L2 →
   StepW P B ops e.o e.st e.v e.wr e.rs e.ws ∧ (∀ x ∈ e.o.after.toList, bindsAny x = true → x.on < e.i) ∧ okAfter ops.toList e.i e.o e.rs e.ws ((L1.map Ent.lg).reverse ++ lg) ((L1.map Ent.lg).reverse ++ lg) = true ∧ e.st = appS (fun _ => true) L1 st ∧ e.i = i + L1.length ∧ rest[L1.length]? = some e.o := by
 induction h with
 | nil => intro L1 e L2 he; cases L1 <;> cases he
 | cons hs ha hk ht ih =>
   intro L1 e L2 he
   cases L1 with
   | nil =>
     simp only [List.nil_append, List.cons.injEq] at he
     obtain ⟨rfl, rfl⟩ := he
     exact ⟨hs, ha, hk, rfl, rfl, rfl⟩
   | cons x L1 =>
     simp only [List.cons_append, List.cons.injEq] at he
     obtain ⟨rfl, rfl⟩ := he
     obtain ⟨g1, g2, g3, g4, g5, g6⟩ := ih L1 e L2 rfl
     refine ⟨g1, g2, ?_, g4, by rw [g5]; simp; omega, by simpa using g6⟩
     simpa [Ent.lg] using g3
theorem ents_len {P : Program} {B : Base} {ops : Array Oper} {rest : List Oper} {i : Nat} {lg : List Lg} {st st' : St} {L : List Ent} (h : Ents P B ops rest i lg st st' L) : L.length = rest.length ∧ st' = appS (fun _ => true) L st := by
 induction h with
 | nil => exact ⟨rfl, rfl⟩
 | cons hs ha hk ht ih => exact ⟨by simp [ih.1], ih.2⟩
end Go.Ev
