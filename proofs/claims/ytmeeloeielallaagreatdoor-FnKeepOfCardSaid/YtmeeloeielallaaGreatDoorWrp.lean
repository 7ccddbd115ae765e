/- A row that lists variables: what its function's contract may lean on. No condition beyond those that stand in each. -/
import Derived.Test.YtmeeloeielallaaGreatDoorExt
import Derived.HandedShaped
import Derived.Handed
import Derived.Lay
import Derived.Lib.LaidTab
import Derived.Lib.LaidU8
namespace Go
variable {H : Type} {enc : TypeId × Value → H}
theorem returnsInHanded_of_change_laid {a : Assume} {C : Checked} {os : Os} {f : FuncId} {fn : Func} {s : ChangeSpec} {conds : List PathCond} {apart fresh handsOn again : Bool} {X : World → Array Value → Prop}
   (hX : ∀ (w w' : World) (args : Array Value), w.heap = w'.heap → X w args → X w' args)
   (own : ownKnob C.prog.godebug = none) (started : os.Started) (noInit : C.prog.inits.idxOf? f = none) (hfn : C.prog.funcs[f]? = some fn)
   (witness : ∃ (w : World) (tape : Tape) (i : Input), w.os = os ∧ (w.forCall tape i).Shaped C.prog ∧ i.vars = [] ∧ Input.okWide C.prog (w.forCall tape i) .any w.heap.size f i ∧
     ((s.pre enc C.prog fn conds apart (w.forCall tape i).memory i.args ∧ X (w.forCall tape i).memory i.args) ∧ sizedMet enc C.prog fn (OpenSpec.ofChange s) apart (w.forCall tape i).memory i.args) ∧ a.holds C.prog (lone (Frame.enter C.prog f i.args .normal) [] (w.forCall tape i)))
   (contract : ∀ (W : World) (base : Nat) (args : Array Value) (ds gs : List (DataW H)) (before : List MemPlace),
     (∀ (j : Nat) t v, fn.params[j]? = some t → args[j]? = some v → Value.okWide C.prog W .any base t v) →
     DataW.Whole enc C.prog fn.params.toList s.vars apart W args.toList ds gs before →
     X W args → W.ShapedOpen C.prog →
     Calls C.prog f args W fun e W' => ∃ v, e = .returned v ∧ s.post enc C.prog fn apart fresh handsOn again W args v W') :
   ReturnsInHanded a C os f .any (fun w args => (s.pre enc C.prog fn conds apart w args ∧ X w args) ∧ sizedMet enc C.prog fn (OpenSpec.ofChange s) apart w args) (s.post enc C.prog fn apart fresh handsOn again) := by
 refine returnsInHanded_of_calls own started noInit witness ?_
 intro w tape i _ hsh _ hok hpre hholds
 obtain ⟨_, _, _, fn', hfn', _, _, _, _, hval⟩ := hok
 have e : fn' = fn := Option.some.inj (hfn'.symm.trans hfn)
 subst e
 obtain ⟨⟨⟨ds, gs, before, hw, hc⟩, hx⟩, hz⟩ := hpre
 have hw' := DataW.Whole.of_heap (w' := w.forCall tape i) (by rfl) hw
 refine (contract (w.forCall tape i) w.heap.size i.args ds gs before hval hw' (hX _ _ _ (by rfl) hx) hsh).mono fun e W' ⟨v, he, hp⟩ => ?_
 subst he
 exact ChangeSpec.post_blind hp
/-- A listed table of numbers, wherever it stands on the list. -/
theorem tabIs_of_mem {P : Program} {W : World} {name : String} {k : IntKind} {zs : List Int} {l : List (String × DataW Unit)} {t e : TypeId} {n : Nat}
   (hty : ((P.globalNamed name).bind fun g => (P.globals[g]?).map (·.type)) = some t) (ht : P.underlying t = some (.array n e)) (he : P.underlying e = some (.int k)) (hce : P.cellsOf e = 1) (hct : P.cellsOf t = n)
   (h : laidMet P l W) {d : DataW Unit} (hm : (name, d) ∈ l) (hd : d = Lib.tabData k zs) : Lib.TabIs P W name k zs := by
 subst hd
 obtain ⟨g', t', cs, fuel, p, hg', ht', hvar, hd⟩ := Lib.laidMet.reads h hm
 rw [hg'] at hty
 obtain rfl := Option.some.inj (hty.symm.trans ht')
 unfold Lib.TabIs
 rw [hvar, ← Lib.cells_of_tab ht he hce hct hd]
end Go
namespace Go.Ev
theorem law_calls_at {f : Nat} {P : Program} {con : Con Ret} {W : World} (hok : ConOk P ⟨W.heap.size, W⟩ f con) (hm : con.muts = []) {args : List RV} (hv : ∀ v ∈ args, ∃ agg ps, v = .val agg ps)
   (hrun : con.run args some = some ⟨[.val false [.s (.bool true)]], []⟩) {xs : List Value} (hargs : ArgsAre [] W 0 args xs) :
   Calls P f xs.toArray W fun e W' => e = .returned (.bool true) ∧ Go.RowKit.Below W.heap.size W W' := by
 obtain ⟨ret, hr, hc⟩ := hok args some _ hrun
 cases hr
 have hf := its_val (w := W) (xs := xs) (n := 0) hv
 have hw : wrOf (argsIts [] W 0 args xs) = [] := by
   cases h : wrOf (argsIts [] W 0 args xs) with
   | nil => rfl
   | cons r l =>
     have : r ∈ wrOf (argsIts [] W 0 args xs) := by rw [h]; simp
     rw [wrOf_mem] at this
     have := hf _ this
     cases this
 have hp : ∀ l : List (Bool × Nat), (∀ it ∈ l, it.1 = false) → l.Pairwise AptIt := by
   intro l
   induction l with
   | nil => intro _; exact .nil
   | cons x l ih =>
     intro hl
     refine .cons (fun y hy hor => ?_) (ih fun it hit => hl it (List.mem_cons_of_mem _ hit))
     rw [hl x (List.mem_cons_self ..), hl y (List.mem_cons_of_mem _ hy)] at hor
     rcases hor with e | e <;> cases e
 have := hc W xs ⟨Nat.le_refl _, fun k _ => rfl⟩ (by rw [hm]; exact hargs) (by rw [hm]; exact hp _ hf) (by rw [hm, hw]; intro r hr; cases hr)
 refine Calls.mono this fun e W' he => ?_
 obtain ⟨v, rfl, hs, ⟨ys, rfl, h1, _⟩, _⟩ := he
 rw [hm, hw] at hs
 refine ⟨?_, hs.os, hs.tape, hs.output, hs.size, fun k hk => hs.block k hk (by simp)⟩
 cases h1 with
 | cons g1 g2 =>
   cases g2
   obtain ⟨p, e, hp⟩ := g1
   simp only [List.cons.injEq, and_true] at e
   subst e
   obtain ⟨rfl, _⟩ := hp
   rfl
end Go.Ev
