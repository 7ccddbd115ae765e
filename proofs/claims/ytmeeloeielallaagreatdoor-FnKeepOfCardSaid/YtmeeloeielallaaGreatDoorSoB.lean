/- That the machine does what the evaluator says: a part of the proof. No condition beyond those that stand in each. -/
import Derived.Test.YtmeeloeielallaaGreatDoorSoA
namespace Go.Ev
universe u
set_option linter.unusedVariables false
set_option linter.unusedSimpArgs false
/-! ### Conversions; parts of rows and texts; indexes; lengths. No condition beyond those that stand in each. -/
section
variable {N : Nat} {W0 : World} {M : Fr} {st : St} {μ : Lay} {a : Act} {w : World} {P : Program}
theorem ofBytes_eq (l : List Int) : l.foldl (fun r n => r.push (UInt8.ofNat n.toNat)) ByteArray.empty = ofBytes l := by
 rw [foldl_push_bytes]
 have he0 : ByteArray.empty.data = #[] := rfl
 rw [he0]
 simp [ofBytes]
theorem enc_u8 (l : List Int) : (l.flatMap (enc [.int .u8])) = l.map (Value.int .u8) := by
 show (l.flatMap fun (n : Int) => [Value.int .u8 n]) = _
 exact List.map_eq_flatMap.symm
theorem RowIs.load {cs : List Sc} {xs : List (RowT cs)} {x : Value} (h : RowIs w cs xs x) : ∃ ad cap, x = .slice ad xs.length cap ∧ (ad = none → xs = []) ∧ ∀ p, ad = some p → (loadCells p (xs.length * cs.length)).run P w = .ok (xs.flatMap (enc cs)).toArray w := by
 obtain ⟨ad, cap, rfl, h1, h2, h3⟩ := h
 refine ⟨ad, cap, rfl, fun e => (h2 e).1, fun p hp => ?_⟩
 obtain ⟨hsp, cells, t, fr, h4, h5⟩ := h3 p hp
 obtain ⟨r, off, sp⟩ := p
 simp only at hsp h4 h5
 subst hsp
 exact run_loadCells_at (P := P) h4 _ (flat_length (enc cs) cs.length (enc_length cs) xs) h5
theorem conv_does (h : Inv N W0 M st μ a w) (src dty : TypeId) {nid : Nat} (hid : M.lo ≤ nid) {u : LV} {x : Value} (hu : RL st.bl μ u x) : Does N W0 M P st μ a w (convert src dty x) (planConv P src dty nid u) := by
 unfold planConv
 split
 · rename_i k0 k hs hd
   split
   · obtain rfl := RL.int' hu
     refine Does.still h (x := .int k _) ?_ ⟨rfl, rfl⟩
     simp [convert, run_und hs, run_und hd, Conv.intToInt]
   · exact Does.none
 · rename_i hs hd
   split
   · obtain rfl := RL.str' hu
     refine Does.still h (x := .string _) ?_ ⟨rfl, rfl⟩
     simp [convert, run_und hs, run_und hd]
   · exact Does.none
 · rename_i e hs hd
   split
   · rename_i s
     obtain rfl := RL.str' hu
     split
     · rename_i he
       intro ids f z wr hp hf
       simp only [Option.some.injEq, Prod.mk.injEq] at hp
       obtain ⟨rfl, rfl⟩ := hp
       simp only [List.map_cons, List.map_nil] at hf
       split at hf
       · rename_i heq
         simp only [List.cons.injEq, and_true] at heq
         simp only [Option.some.injEq, Prod.mk.injEq, true_and] at hf
         obtain ⟨rfl, rfl⟩ := hf
         have hr := run_bytes_of_string w src dty e s hs hd he
         have hcap : s.size ≤ grownCap w s.size 0 e := Nat.le_add_right _ _
         have hlen : (bytesOf s).length = s.size := by simp [bytesOf]
         have hsize : (bytesRow s (grownCap w s.size 0 e)).size = grownCap w s.size 0 e := by
           simp [bytesRow]; omega
         have hinv := (h.drew (w.drawn + 1)).newRow (k := .own) heq hid (cs := [.int .u8]) (by simp) (xs := bytesOf s) (cap := grownCap w s.size 0 e) (cells := bytesRow s (grownCap w s.size 0 e)) (by omega) (fun j v hj => by
           rw [enc_u8] at hj
           have hjl : j < s.size := by
             rcases Nat.lt_or_ge j s.size with g | g
             · exact g
             · rw [List.getElem?_eq_none (by simp; omega)] at hj; cases hj
           unfold bytesRow
           rw [Array.getElem?_append_left (by simpa using hjl)]
           unfold bytesOf at hj
           simpa using hj) (by rw [hsize]; simp) e (fr := ((bytesRow s (grownCap w s.size 0 e)).size, (bytesRow s (grownCap w s.size 0 e)).size + 1)) (fun o ho hh => by omega)
         refine opV hr hinv ?_
         have := RL.newRow (st := st) (μ := μ) (id := nid) (k := .own) (cs := [.int .u8]) (xs := bytesOf s) (cap := grownCap w s.size 0 e) (n := 1) (by omega) w.heap.size
         rw [hlen] at this
         exact this
       · cases hf
     · exact Does.none
   · exact Does.none
 · rename_i e hs hd
   split
   · rename_i he
     split
     · exact Does.none
     rename_i hns
     split
     · rename_i ids0 f0 hsrc
       intro ids f z wr hp hf
       simp only [Option.some.injEq, Prod.mk.injEq] at hp
       obtain ⟨rfl, rfl⟩ := hp
       dsimp only at hf
       split at hf
       · rename_i l hl
         simp only [Option.some.injEq, Prod.mk.injEq, true_and] at hf
         obtain ⟨rfl, rfl⟩ := hf
         rcases src_rel h hu hsrc hl with hrow | ⟨s, rfl, _, _, _⟩
         · obtain ⟨ad, cap, rfl, hn, hld⟩ := hrow.load (P := P)
           refine opStill h (x := .string (ofBytes l)) ?_ ⟨rfl, rfl⟩
           rw [run_convert_bytes_string w src dty e _ _ _ hs he hd]
           cases ad with
           | none =>
             have hl0 := hn rfl
             subst hl0
             rfl
           | some p =>
             have h1 := hld p rfl
             simp only [List.length_singleton, Nat.mul_one] at h1
             rw [enc_u8] at h1
             have h2 := run_bytesToString (P := P) w p l.length cap l h1
             rw [ofBytes_eq] at h2
             exact h2
         · -- a text is no row
           exfalso
           cases u with
           | c y =>
             cases y with
             | s v =>
               have : Value.string s = v := hu.1
               exact hns s (by rw [this])
             | ptr _ _ _ => simp [src?] at hsrc
             | sl id =>
               obtain ⟨b, len, _, g, _⟩ := hu
               unfold SlOk at g
               split at g
               · cases g.2
               · cases g.2
             | sub id o n => obtain ⟨b, _, ⟨_, _, g, _⟩, _⟩ := hu; cases g
             | any => simp [src?] at hsrc
           | agg _ => simp [src?] at hsrc
           | arr _ _ => simp [src?] at hsrc
           | tup _ => simp [src?] at hsrc
       · cases hf
     · exact Does.none
   · exact Does.none
 · exact Does.none
end
/-! ### Parts of rows and texts; indexes; lengths; components. No condition beyond those that stand in each. -/
section
variable {N : Nat} {W0 : World} {M : Fr} {st : St} {μ : Lay} {a : Act} {w : World} {P : Program}
theorem bound_rel (h : Inv N W0 M st μ a w) {lo : Option Operand} {b : Option Int} (hb : bound? (lo.map st.val) = some b) : (b = none ∧ lo.map a.eval = none) ∨ ∃ n k, b = some n ∧ lo.map a.eval = some (.int k n) := by
 cases lo with
 | none => simp [bound?] at hb; exact .inl ⟨hb.symm, rfl⟩
 | some o =>
   have hv := h.val o
   simp only [Option.map_some, bound?] at hb
   split at hb
   · rename_i heq; cases heq
   · rename_i k n heq
     simp only [Option.some.injEq] at heq hb
     rw [heq] at hv
     exact .inr ⟨n, k, hb.symm, by simp [RL.int' hv]⟩
   · cases hb
theorem run_bound {k : IntKind} {n : Int} {y : Nat} (h1 : 0 ≤ n) (h2 : n ≤ y) (c : BoundsCode) (w : World) : (Instr.sliceBound (.int k n) y c).run P w = .ok n.toNat w := by
 simp [Instr.sliceBound, asIntOf, h1, h2]
theorem slice_row_does (h : Inv N W0 M st μ a w) {t e : TypeId} (hg : P.underlying t = some (.slice e)) {cs : List Sc} (hcs : scs? P e = some cs) {id : Nat} {k : Kind} {xs : List (RowT cs)} (hb : st.bl id = some (.row k cs xs)) {x : Value} (hx : RC st.bl μ (.sl id) x)
   {lo hi : Option Value} {l : Nat} {hh : Nat} (hl : (lo = none ∧ l = 0) ∨ ∃ n q, lo = some (.int q n) ∧ 0 ≤ n ∧ n ≤ hh ∧ l = n.toNat) (hhi : (hi = none ∧ hh = xs.length) ∨ ∃ n q, hi = some (.int q n) ∧ 0 ≤ n ∧ n ≤ xs.length ∧ hh = n.toNat) (hlh : l ≤ hh) (hhx : hh ≤ xs.length) :
   ∃ y, (Instr.sliceAt t x lo hi none).run P w = .ok y w ∧ RC st.bl μ (.sub id l (hh - l)) y ∧ (lo = none → hi = none → RC st.bl μ (.sl id) y) := by
 obtain ⟨b, len, hb', hs, hlen⟩ := hx
 rw [hb] at hb'; cases hb'
 have hlen := hlen k cs xs rfl
 subst hlen
 obtain ⟨hne, hB⟩ := h.bl id _ hb
 have hkey : ∀ (ad : Option Addr) (cap : Nat), xs.length ≤ cap → (Instr.sliceAt t (.slice ad xs.length cap) lo hi none).run P w = .ok (.slice (if cap = l then ad else ad.map (·.add (l * cs.length))) (hh - l) (cap - l)) w := by
   intro ad cap hcap
   have h1 : (Instr.sliceBounds true xs.length cap lo hi none).run P w = .ok (l, hh, cap) w := by
     rcases hhi with ⟨rfl, rfl⟩ | ⟨n, q, rfl, hn0, hn1, rfl⟩
     · rcases hl with ⟨rfl, rfl⟩ | ⟨m, q', rfl, hm0, hm1, rfl⟩
       · simp [Instr.sliceBounds]
       · simp [Instr.sliceBounds, run_bound hm0 hm1]
     · rcases hl with ⟨rfl, rfl⟩ | ⟨m, q', rfl, hm0, hm1, rfl⟩
       · simp [Instr.sliceBounds, run_bound hn0 (show n ≤ (cap : Int) by omega)]
       · simp [Instr.sliceBounds, run_bound hn0 (show n ≤ (cap : Int) by omega), run_bound hm0 hm1]
   simp [Instr.sliceAt, Instr.slice, run_und hg, h1, run_size_scs hcs]
 unfold SlOk at hs
 cases hm : μ id with
 | none =>
   rw [hm] at hs hB
   obtain ⟨hl0, rfl⟩ := hs
   have hxl : xs.length = 0 := by rw [hB]; rfl
   have := hkey none 0 (by omega)
   rw [hxl] at this
   have hh0 : hh = 0 := by omega
   have hl00 : l = 0 := by omega
   subst hh0 hl00
   simp at this
   refine ⟨_, this, ⟨_, hb, ⟨none, 0, rfl, Nat.le_refl _, fun h => absurd h (Nat.lt_irrefl _), fun _ => ⟨rfl, rfl⟩, fun ad e => by cases e⟩, fun k' ds ys e => by cases e; omega⟩, fun _ _ => ⟨_, xs.length, hb, ?_, fun k' ds ys e => by cases e; rfl⟩⟩
   unfold SlOk; rw [hm]; exact ⟨hxl, rfl⟩
 | some m =>
   rw [hm] at hs hB
   obtain ⟨hcap, rfl⟩ := hs
   obtain ⟨_, hst, _⟩ := hB
   refine ⟨_, hkey _ m.cap hcap, ⟨_, hb, ⟨_, _, rfl, by omega, fun hpos => ⟨m, hm, ?_⟩, fun e => ?_, fun ad e => ?_⟩, fun k' ds ys e => by cases e; omega⟩, fun e1 e2 => ⟨_, xs.length, hb, ?_, fun k' ds ys e => by cases e; rfl⟩⟩
   · rw [if_neg (by omega)]
     simp [add_off, hst]
   · exfalso
     split at e
     · cases e
     · simp at e
   · split at e
     · cases e; exact ⟨rfl, m, hm, rfl⟩
     · simp only [Option.map_some, add_off, Option.some.injEq] at e
       subst e
       exact ⟨rfl, m, hm, rfl⟩
   · unfold SlOk; rw [hm]
     subst e1 e2
     rcases hl with ⟨_, rfl⟩ | ⟨n, q, e, _⟩
     · rcases hhi with ⟨_, rfl⟩ | ⟨n, q, e, _⟩
       · refine ⟨hcap, ?_⟩
         simp only [Nat.sub_zero, Nat.zero_mul, Option.map_some]
         split
         · rfl
         · rw [add_off]; simp
       · cases e
     · cases e
theorem slice_str {t : TypeId} (hg : P.underlying t = some .string) (s : ByteArray) {lo hi : Option Value} {l hh : Nat} (hl : (lo = none ∧ l = 0) ∨ ∃ n q, lo = some (.int q n) ∧ 0 ≤ n ∧ n ≤ hh ∧ l = n.toNat) (hhi : (hi = none ∧ hh = s.size) ∨ ∃ n q, hi = some (.int q n) ∧ 0 ≤ n ∧ n ≤ s.size ∧ hh = n.toNat) :
   (Instr.sliceAt t (.string s) lo hi none).run P w = .ok (.string (s.extract l hh)) w := by
 have h1 : (Instr.sliceBounds false s.size s.size lo hi none).run P w = .ok (l, hh, s.size) w := by
   rcases hhi with ⟨rfl, rfl⟩ | ⟨n, q, rfl, hn0, hn1, rfl⟩
   · rcases hl with ⟨rfl, rfl⟩ | ⟨m, q', rfl, hm0, hm1, rfl⟩
     · simp [Instr.sliceBounds]
     · simp [Instr.sliceBounds, run_bound hm0 hm1]
   · rcases hl with ⟨rfl, rfl⟩ | ⟨m, q', rfl, hm0, hm1, rfl⟩
     · simp [Instr.sliceBounds, run_bound hn0 hn1]
     · simp [Instr.sliceBounds, run_bound hn0 hn1, run_bound hm0 hm1]
 simp [Instr.sliceAt, Instr.slice, run_und hg, h1]
theorem extract_all (s : ByteArray) : s.extract 0 s.size = s := by simp
theorem slice_does (h : Inv N W0 M st μ a w) (t : TypeId) {u : LV} {x : Value} (hu : RL st.bl μ u x) (lo hi : Option Operand) :
   Does N W0 M P st μ a w (Instr.sliceAt t x (lo.map a.eval) (hi.map a.eval) none) (planSlice P t u (lo.map st.val) (hi.map st.val)) := by
 unfold planSlice
 split
 · rename_i lo' hi' s hlo hhi hg
   obtain rfl := RL.str' hu
   split
   · rename_i heq1 heq2
     rcases bound_rel h hlo with ⟨_, e1⟩ | ⟨n, k, e, _⟩
     · rcases bound_rel h hhi with ⟨_, e2⟩ | ⟨n, k, e, _⟩
       · rw [e1, e2]
         refine Does.still h (x := .string s) ?_ ⟨rfl, rfl⟩
         have := slice_str (w := w) hg s (lo := none) (hi := none) (l := 0) (hh := s.size) (.inl ⟨rfl, rfl⟩) (.inl ⟨rfl, rfl⟩)
         rw [extract_all] at this
         exact this
       · cases e
     · cases e
   · rename_i n heq2
     rcases bound_rel h hlo with ⟨_, e1⟩ | ⟨_, _, e, _⟩
     · rcases bound_rel h hhi with ⟨e, _⟩ | ⟨m, k, e, e2⟩
       · cases e
       · cases e
         rw [e1, e2]
         refine Does.when h fun hc => ⟨_, ?_, rfl, rfl⟩
         simp only [Bool.and_eq_true, decide_eq_true_eq] at hc
         exact slice_str hg s (.inl ⟨rfl, rfl⟩) (.inr ⟨_, k, rfl, hc.1, hc.2, rfl⟩)
     · cases e
   · rename_i l heq1
     rcases bound_rel h hlo with ⟨e, _⟩ | ⟨m, k, e, e1⟩
     · cases e
     · cases e
       rcases bound_rel h hhi with ⟨_, e2⟩ | ⟨_, _, e, _⟩
       · rw [e1, e2]
         refine Does.when h fun hc => ⟨_, ?_, rfl, rfl⟩
         simp only [Bool.and_eq_true, decide_eq_true_eq] at hc
         exact slice_str hg s (.inr ⟨_, k, rfl, hc.1, hc.2, rfl⟩) (.inl ⟨rfl, rfl⟩)
       · cases e
   · rename_i l n
     rcases bound_rel h hlo with ⟨e, _⟩ | ⟨m, k, e, e1⟩
     · cases e
     · cases e
       rcases bound_rel h hhi with ⟨e, _⟩ | ⟨m', k', e, e2⟩
       · cases e
       · cases e
         rw [e1, e2]
         refine Does.when h fun hc => ⟨_, ?_, rfl, rfl⟩
         simp only [Bool.and_eq_true, decide_eq_true_eq] at hc
         exact slice_str hg s (.inr ⟨_, k, rfl, hc.1.2, by omega, rfl⟩) (.inr ⟨_, k', rfl, hc.1.1.1, hc.1.1.2, rfl⟩)
 · rename_i lo' hi' id e hlo hhi hg
   split
   · rename_i ds hds
     intro ids f z wr hp hf
     simp only [Option.some.injEq, Prod.mk.injEq] at hp
     obtain ⟨rfl, rfl⟩ := hp
     simp only [List.map_cons, List.map_nil] at hf
     split at hf
     · rename_i k cs xs heq
       simp only [List.cons.injEq, and_true] at heq
       split at hf
       · rename_i e0; subst e0
         split at hf
         · simp only [Option.some.injEq, Prod.mk.injEq, true_and] at hf
           obtain ⟨rfl, rfl⟩ := hf
           rcases bound_rel h hlo with ⟨_, e1⟩ | ⟨_, _, e, _⟩
           · rcases bound_rel h hhi with ⟨_, e2⟩ | ⟨_, _, e, _⟩
             · rw [e1, e2]
               obtain ⟨y, hr, _, hy⟩ := slice_row_does (lo := none) (hi := none) (l := 0) (hh := xs.length) h hg hds heq hu (.inl ⟨rfl, rfl⟩) (.inl ⟨rfl, rfl⟩) (Nat.zero_le _) (Nat.le_refl _)
               exact opStill h hr (hy rfl rfl)
             · cases e
           · cases e
         · rename_i n
           simp only [Option.some.injEq, Prod.mk.injEq, Bool.and_eq_true, decide_eq_true_eq] at hf
           obtain ⟨hc, rfl, rfl⟩ := hf
           rcases bound_rel h hlo with ⟨_, e1⟩ | ⟨_, _, e, _⟩
           · rcases bound_rel h hhi with ⟨e, _⟩ | ⟨m, q, e, e2⟩
             · cases e
             · cases e
               rw [e1, e2]
               obtain ⟨y, hr, hy, _⟩ := slice_row_does (lo := none) (l := 0) (hh := n.toNat) h hg hds heq hu (.inl ⟨rfl, rfl⟩) (.inr ⟨n, q, rfl, hc.1, hc.2, rfl⟩) (Nat.zero_le _) (by omega)
               exact opStill h hr hy
           · cases e
         · rename_i l
           simp only [Option.some.injEq, Prod.mk.injEq, Bool.and_eq_true, decide_eq_true_eq] at hf
           obtain ⟨hc, rfl, rfl⟩ := hf
           rcases bound_rel h hlo with ⟨e, _⟩ | ⟨m, q, e, e1⟩
           · cases e
           · cases e
             rcases bound_rel h hhi with ⟨_, e2⟩ | ⟨_, _, e, _⟩
             · rw [e1, e2]
               obtain ⟨y, hr, hy, _⟩ := slice_row_does (hi := none) (l := l.toNat) (hh := xs.length) h hg hds heq hu (.inr ⟨l, q, rfl, hc.1, hc.2, rfl⟩) (.inl ⟨rfl, rfl⟩) (by omega) (Nat.le_refl _)
               exact opStill h hr hy
             · cases e
         · rename_i l n
           simp only [Option.some.injEq, Prod.mk.injEq, Bool.and_eq_true, decide_eq_true_eq] at hf
           obtain ⟨hc, rfl, rfl⟩ := hf
           rcases bound_rel h hlo with ⟨e, _⟩ | ⟨m, q, e, e1⟩
           · cases e
           · cases e
             rcases bound_rel h hhi with ⟨e, _⟩ | ⟨m', q', e, e2⟩
             · cases e
             · cases e
               rw [e1, e2]
               obtain ⟨y, hr, hy, _⟩ := slice_row_does (l := l.toNat) (hh := n.toNat) h hg hds heq hu (.inr ⟨l, q, rfl, hc.1.2, by omega, rfl⟩) (.inr ⟨n, q', rfl, hc.1.1.1, hc.1.1.2, rfl⟩) (by omega) (by omega)
               exact opStill h hr hy
       · cases hf
     · cases hf
   · exact Does.none
 · exact Does.none
end
/-! ### Indexes; components; lengths; append and copy. No condition beyond those that stand in each. -/
section
variable {N : Nat} {W0 : World} {M : Fr} {st : St} {μ : Lay} {a : Act} {w : World} {P : Program}
theorem byteAt_eq (s : ByteArray) (i : Nat) (h : i < s.size) : s[i]? = some (s.data.toList.getD i 0) ∧ byteAt s i = ((s.data.toList.getD i 0).toNat : Int) := by
 refine ⟨?_, rfl⟩
 have h1 : i < s.data.toList.length := by simpa using h
 have : s[i]? = some s[i] := getElem?_pos s i h
 rw [this]
 congr 1
 simp [List.getD, List.getElem?_eq_getElem h1]
 rfl
theorem index_does (h : Inv N W0 M st μ a w) (t : TypeId) {u v : LV} {x y : Value} (hu : RL st.bl μ u x) (hv : RL st.bl μ v y) : Does N W0 M P st μ a w (Instr.index t x y) (planIndex P t u v) := by
 unfold planIndex
 split
 · rename_i k n hg
   obtain rfl := RL.int' hv
   split
   · rename_i s
     obtain rfl := RL.str' hu
     refine Does.when h fun hc => ⟨.int .u8 (byteAt s n.toNat), ?_, rfl, rfl⟩
     simp only [Bool.and_eq_true, decide_eq_true_eq] at hc
     obtain ⟨h1, h2⟩ := byteAt_eq s n.toNat (by omega)
     simp [Instr.index, asIntOf, run_und hg, hc.1, h1, h2]
   · exact Does.none
 · rename_i k n len e hg
   obtain rfl := RL.int' hv
   split
   · rename_i sc xs ds hds hna
     have hx : x = .agg (xs.flatMap (enc [sc])).toArray := hu
     subst hx
     split
     · rename_i e0; subst e0
       refine Does.when h fun hc => ⟨sc.v (xs.getD n.toNat sc.d), ?_, rfl, by cases sc <;> rfl⟩
       simp only [Bool.and_eq_true, decide_eq_true_eq] at hc
       obtain ⟨⟨h1, h2⟩, h3⟩ := hc
       have h3 := Nat.eq_of_beq_eq_true h3
       have hlt : n.toNat < xs.length := by omega
       have hget := flat_get (enc [sc]) 1 (fun _ => rfl) xs n.toNat 0 _ (getD_some (d := sc.d) hlt) (by omega)
       simp only [Nat.mul_one, Nat.add_zero] at hget
       have hone : (enc [sc] (xs.getD n.toNat sc.d))[0]? = some (sc.v (xs.getD n.toNat sc.d)) := rfl
       rw [hone] at hget
       have hagg : (isAgg e).run P w = .ok false w := by
         obtain ⟨_, _, _, i, hi, _, _⟩ := scs_some hds
         unfold isAggT at hna
         cases hd : P.underlying e with
         | none =>
           exfalso
           simp only [scs?, scsOf, hd] at hds
           cases hds
         | some d =>
           rw [hd] at hna
           refine run_isAgg_other hd (fun fs e => ?_) (fun n e' e => ?_) w
           · subst e; simp at hna
           · subst e; simp at hna
       have hget' : (xs.flatMap (enc [sc])).toArray[n.toNat]? = some (sc.v (xs.getD n.toNat sc.d)) := by simpa using hget
       have hpart : (Go.part e (xs.flatMap (enc [sc])).toArray (n.toNat * 1)).run P w = .ok (sc.v (xs.getD n.toNat sc.d)) w := by
         rw [Nat.mul_one]
         simp only [Go.part, Sem.run_bind, hagg, Result.andThen_ok, Bool.false_eq_true, if_false, hget', Sem.run_pure]
       have hsz := run_size_scs hds w
       simp only [Instr.index, Sem.run_bind, asIntOf, Sem.run_pure, Result.andThen_ok, run_und hg]
       rw [if_pos ⟨h1, h2⟩]
       simp only [Sem.run_bind, hsz, Result.andThen_ok]
       exact hpart
     · exact Does.none
   · exact Does.none
 · exact Does.none
theorem indexAddr_does (h : Inv N W0 M st μ a w) (t : TypeId) {u v : LV} {x y : Value} (hu : RL st.bl μ u x) (hv : RL st.bl μ v y) : Does N W0 M P st μ a w (Instr.indexAt t x y) (planIndexAddr P t u v) := by
 unfold planIndexAddr
 split
 · rename_i k n len e hg
   obtain rfl := RL.int' hv
   split
   · rename_i id ds hds
     obtain ⟨b, m, hb, hm, rfl, hi, hz⟩ := hu
     intro ids f z wr hp hf
     simp only [Option.some.injEq, Prod.mk.injEq] at hp
     obtain ⟨rfl, rfl⟩ := hp
     simp only [List.map_cons, List.map_nil] at hf
     split at hf
     · rename_i k' cs xs heq
       simp only [List.cons.injEq, and_true] at heq
       split at hf
       · rename_i e0; subst e0
         simp only [Option.some.injEq, Prod.mk.injEq, Bool.and_eq_true, decide_eq_true_eq] at hf
         obtain ⟨⟨⟨⟨g1, g2⟩, g3⟩, g4⟩, rfl, rfl⟩ := hf
         have g3 := Nat.eq_of_beq_eq_true g3
         rw [hb] at heq; cases heq
         obtain ⟨hne, hB⟩ := h.bl id _ hb
         rw [hm] at hB
         obtain ⟨_, hst, _⟩ := hB
         refine opStill h (x := .pointer (some ⟨m.r, m.off + n.toNat * m.st + 0, none⟩)) ?_ ⟨_, m, hb, hm, rfl, fun k2 cs2 ys2 e => by cases e; omega, fun ys e => by cases e⟩
         simp [Instr.indexAt, asIntOf, run_und hg, Instr.sureAddr, g1, g2, run_size_scs hds, add_off, hst]
       · cases hf
     · cases hf
   · exact Does.none
 · rename_i k n e hg
   obtain rfl := RL.int' hv
   split
   · rename_i id ds hds
     have hx : RC st.bl μ (.sl id) x := hu
     intro ids f z wr hp hf
     simp only [Option.some.injEq, Prod.mk.injEq] at hp
     obtain ⟨rfl, rfl⟩ := hp
     simp only [List.map_cons, List.map_nil] at hf
     split at hf
     · rename_i k' cs xs heq
       simp only [List.cons.injEq, and_true] at heq
       split at hf
       · rename_i e0; subst e0
         simp only [Option.some.injEq, Prod.mk.injEq, Bool.and_eq_true, decide_eq_true_eq] at hf
         obtain ⟨⟨g1, g2⟩, rfl, rfl⟩ := hf
         obtain ⟨b, len, hb, hs, hl⟩ := hx
         rw [hb] at heq; cases heq
         have hl := hl _ _ _ rfl
         subst hl
         obtain ⟨hne, hB⟩ := h.bl id _ hb
         unfold SlOk at hs
         cases hm : μ id with
         | none => rw [hm] at hs; omega
         | some m =>
           rw [hm] at hs hB
           obtain ⟨_, hst, _⟩ := hB
           rw [hs.2]
           refine opStill h (x := .pointer (some ⟨m.r, m.off + n.toNat * m.st + 0, none⟩)) ?_ ⟨_, m, hb, hm, rfl, fun k2 cs2 ys2 e => by cases e; omega, fun ys e => by cases e⟩
           simp [Instr.indexAt, asIntOf, run_und hg, g1, g2, run_size_scs hds, add_off, hst]
       · cases hf
     · cases hf
   · rename_i id o m' ds hds
     have hx : RC st.bl μ (.sub id o m') x := hu
     intro ids f z wr hp hf
     simp only [Option.some.injEq, Prod.mk.injEq] at hp
     obtain ⟨rfl, rfl⟩ := hp
     simp only [List.map_cons, List.map_nil] at hf
     split at hf
     · rename_i k' cs xs heq
       simp only [List.cons.injEq, and_true] at heq
       split at hf
       · rename_i e0; subst e0
         simp only [Option.some.injEq, Prod.mk.injEq, Bool.and_eq_true, decide_eq_true_eq] at hf
         obtain ⟨⟨g1, g2⟩, rfl, rfl⟩ := hf
         obtain ⟨b, hb, ⟨ad, c, rfl, q1, q2, q3⟩, hl⟩ := hx
         rw [hb] at heq; cases heq
         have hl := hl _ _ _ rfl
         obtain ⟨m, hm, rfl⟩ := q2 (by omega)
         obtain ⟨hne, hB⟩ := h.bl id _ hb
         rw [hm] at hB
         obtain ⟨_, hst, _⟩ := hB
         refine opStill h (x := .pointer (some ⟨m.r, m.off + (o + n.toNat) * m.st + 0, none⟩)) ?_ ⟨_, m, hb, hm, rfl, fun k2 cs2 ys2 e => by cases e; omega, fun ys e => by cases e⟩
         simp [Instr.indexAt, asIntOf, run_und hg, g1, g2, run_size_scs hds, add_off, hst, Nat.add_mul, Nat.add_assoc]
       · cases hf
     · cases hf
   · exact Does.none
 · exact Does.none
theorem All2.nth {α β : Type} {R : α → β → Prop} {l : List α} {m : Array β} (h : All2 R l m.toList) {i : Nat} {x : α} (hx : l[i]? = some x) : ∃ y, m[i]? = some y ∧ R x y := by
 obtain ⟨y, h1, h2⟩ := h.get i x hx
 exact ⟨y, by simpa using h1, h2⟩
theorem RP.asLV {bl : Nat → Option Blk} {agg : Bool} {ys : List Cell} {x : Value} (h : RP bl μ (agg, ys) x) : RL bl μ (asLV agg ys) x := by
 cases agg with
 | true => exact h
 | false => obtain ⟨y, rfl, h⟩ := h; exact h
theorem extract_does (h : Inv N W0 M st μ a w) (ix : Nat) {u : LV} {x : Value} (hu : RL st.bl μ u x) : Does N W0 M P st μ a w (Instr.extract x ix) (planExtract ix u) := by
 unfold planExtract
 split
 · rename_i xs
   obtain ⟨vs, rfl, hv⟩ := hu
   split
   · rename_i agg ys hx
     obtain ⟨y, h1, h2⟩ := hv.nth hx
     refine Does.still h (x := y) ?_ h2.asLV
     simp [Instr.extract, h1]
   · exact Does.none
 · exact Does.none
theorem len_does (h : Inv N W0 M st μ a w) (t ty : TypeId) {u : LV} {x : Value} (hu : RL st.bl μ u x) : Does N W0 M P st μ a w (Builtin.len_ #[t] ty #[x]) (planLen P t u) := by
 unfold planLen
 split
 · rename_i n e hg
   refine Does.still h (x := .int .i64 n) ?_ ⟨rfl, rfl⟩
   simp [Builtin.len_, run_und hg, goInt]
 · rename_i hg
   split
   · obtain rfl := RL.str' hu
     refine Does.still h (x := .int .i64 _) ?_ ⟨rfl, rfl⟩
     simp [Builtin.len_, run_und hg, goInt]
   · exact Does.none
 · rename_i e hg
   split
   · rename_i ids0 f0 hl
     intro ids f z wr hp hf
     simp only [Option.some.injEq, Prod.mk.injEq] at hp
     obtain ⟨rfl, rfl⟩ := hp
     dsimp only at hf
     split at hf
     · rename_i n hn
       simp only [Option.some.injEq, Prod.mk.injEq, true_and] at hf
       obtain ⟨rfl, rfl⟩ := hf
       have hx : ∃ ad cap, x = .slice ad n cap := by
         unfold lenOf? at hl
         split at hl
         · simp only [Option.some.injEq, Prod.mk.injEq] at hl
           obtain ⟨rfl, rfl⟩ := hl
           cases hn
           exact ⟨none, 0, hu.1⟩
         · rename_i id
           simp only [Option.some.injEq, Prod.mk.injEq] at hl
           obtain ⟨rfl, rfl⟩ := hl
           simp only [List.map_cons, List.map_nil] at hn
           split at hn
           · rename_i k cs xs heq
             simp only [List.cons.injEq, and_true] at heq
             cases hn
             obtain ⟨ad, cap, hx, _⟩ := h.row heq hu
             exact ⟨ad, cap, hx⟩
           · cases hn
         · rename_i id o m
           simp only [Option.some.injEq, Prod.mk.injEq] at hl
           obtain ⟨rfl, rfl⟩ := hl
           cases hn
           obtain ⟨b, _, ⟨ad, c, hx, _⟩, _⟩ := hu
           exact ⟨ad, c, hx⟩
         · cases hl
       obtain ⟨ad, cap, rfl⟩ := hx
       refine opStill h (x := .int .i64 n) ?_ ⟨rfl, rfl⟩
       simp [Builtin.len_, run_und hg, goInt]
     · cases hf
   · exact Does.none
 · exact Does.none
end
/-! ### Append and copy. No condition beyond those that stand in each. -/
section
variable {N : Nat} {W0 : World} {M : Fr} {st : St} {μ : Lay} {a : Act} {w : World} {P : Program}
/-- What a source of cells gives. -/
def SrcIs (w : World) (cs : List Sc) (l : List (RowT cs)) (y : Value) : Prop :=
 RowIs w cs l y ∨ ∃ s, y = .string s ∧ (l.flatMap (enc cs)) = s.data.toList.map (fun b => Value.int .u8 b.toNat) ∧ cs = [.int .u8] ∧ l.length = s.size
theorem SrcIs.len {cs : List Sc} {l : List (RowT cs)} {y : Value} (h : SrcIs w cs l y) (w' : World) : (Builtin.lenOf y).run P w' = .ok l.length w' := by
 rcases h with ⟨ad, cap, rfl, _⟩ | ⟨s, rfl, _, _, hl⟩
 · rfl
 · simp [Builtin.lenOf, hl]
theorem SrcIs.first {cs : List Sc} {l : List (RowT cs)} {y : Value} (h : SrcIs w cs l y) : (Builtin.firstCells cs.length l.length y).run P w = .ok (l.flatMap (enc cs)).toArray w := by
 rcases h with h | ⟨s, rfl, he, rfl, hl⟩
 · obtain ⟨ad, cap, rfl, hn, hld⟩ := h.load (P := P)
   cases ad with
   | none => rw [hn rfl]; rfl
   | some p => exact hld p rfl
 · simp only [Builtin.firstCells, Sem.run_pure]
   rw [he, hl]
   have : s.extract 0 s.size = s := by simp
   rw [this]
   congr 1
   apply Array.ext'
   simp
theorem grow_le (n : Nat) : ∀ (r c : Nat), Builtin.growBy n r c ≤ max c (2 * n + 192)
 | 0, c => by simp [Builtin.growBy]; omega
 | r + 1, c => by
   simp only [Builtin.growBy]
   split
   · omega
   · have := grow_le n r (c + (c + 768) / 4); omega
theorem next_le (need cap : Nat) (h : cap < need) : Builtin.nextslicecap need cap ≤ 2 * need + 192 := by
 unfold Builtin.nextslicecap
 split
 · omega
 · split
   · omega
   · have := grow_le need 4 cap; omega
theorem zeroCells_size (z : Array Value) (n : Nat) : (Builtin.zeroCells z n).size = n * z.size := by simp [Builtin.zeroCells]
/-- The row outgrows its array (or has none): a new one. -/
theorem run_append_new {t t2 ty e : TypeId} {ty2 : TypeDesc} (hg : P.underlying t = some (.slice e)) (hg2 : P.underlying t2 = some ty2) (hni : ∀ k, ty2 ≠ .int k) {cs : List Sc} (hcs : scs? P e = some cs) (hz : zeroIs P e (enc cs (dfl cs)) = true)
   {xs l : List (RowT cs)} {x y : Value} (hx : RowIs w cs xs x) (hy : SrcIs w cs l y) {ad : Option Addr} {cap : Nat} (hxe : x = .slice ad xs.length cap) (hcap : cap < xs.length + l.length) (hlim : xs.length + l.length ≤ lim) :
   ∃ cap' cells, (Builtin.append_ #[t, t2] ty #[x, y]).run P w = .ok (.slice (some ⟨w.heap.size, 0, none⟩) (xs.length + l.length) cap') { w with drawn := w.drawn + 1, heap := w.heap.push (.cells cells e) } ∧
     xs.length + l.length ≤ cap' ∧ cells.size = cap' * cs.length ∧ ∀ (j : Nat) v, ((xs ++ l).flatMap (enc cs))[j]? = some v → cells[j]? = some v := by
 obtain ⟨hne, hsz, hb, i, hi, hi1, hi2⟩ := scs_some hcs
 obtain ⟨i', zv, hi', hz1, hz2⟩ := zeroIs_some hz
 rw [hi] at hi'; cases hi'
 subst hxe
 have hzs : zv.cells.size = cs.length := by
   have := congrArg List.length hz2
   rw [enc_length] at this; simpa using this
 unfold lim at hlim
 have hold := (show SrcIs w cs xs _ from .inl hx).first (P := P)
 have hnew := hy.first (P := P)
 have hlen := hy.len (P := P) w
 have hn1 : ¬ (((xs.length + l.length : Nat) : Int) > IntKind.i64.max ∧ (false = true ∨ i.bytes = 0)) := by
   rw [IntKind.max_i64]; omega
 have hn2 : ¬ (Builtin.nextslicecap (xs.length + l.length) cap * i.bytes > 2 ^ 48) := by
   have h1 := next_le _ _ hcap
   have h2 : Builtin.nextslicecap (xs.length + l.length) cap * i.bytes ≤ (2 * (xs.length + l.length) + 192) * 64 := Nat.mul_le_mul h1 hi2
   omega
 have hn3 : ¬ (xs.length + l.length ≤ cap) := by omega
 let c' := (Question.appendCap (xs.length + l.length) cap e).cut (w.tape w.drawn (.appendCap (xs.length + l.length) cap e))
 have hc' : xs.length + l.length ≤ c' := Nat.le_add_right _ _
 have hfl := fun l : List (RowT cs) => flat_length (enc cs) cs.length (enc_length cs) l
 have hzero : ∀ w, (zeroValue e).run P w = .ok zv w := fun w => run_zero hi hz1 w
 have hint : (match ty2 with | .int _ => true | _ => false) = false := by
   cases ty2 <;> first | rfl | exact absurd rfl (hni _)
 refine ⟨c', ((xs.flatMap (enc cs)).toArray ++ (l.flatMap (enc cs)).toArray) ++ Builtin.zeroCells zv.cells (c' - (xs.length + l.length)), ?_, hc', ?_, ?_⟩
 · have hold' : (Builtin.firstCells cs.length xs.length (.slice ad xs.length cap)).run P w.drew = .ok (xs.flatMap (enc cs)).toArray w.drew :=
     (show SrcIs w.drew cs xs (.slice ad xs.length cap) from .inl hx).first (P := P)
   have hnew' : (Builtin.firstCells cs.length l.length y).run P w.drew = .ok (l.flatMap (enc cs)).toArray w.drew :=
     (show SrcIs w.drew cs l y from hy).first (P := P)
   have hint' : ((match ty2 with | .int _ => true | _ => false) = true) = False := by simp [hint]
   have hn1' : ¬ (9223372036854775807 < (xs.length : Int) + (l.length : Int)) := by omega
   simp [Builtin.append_, run_und hg, run_und hg2, run_size_scs hcs, hint', typeInfo, hi, hlen, hn3, hn1', hn2, hold', hnew', hzero, Question.forced, newRow]
   refine ⟨rfl, ?_⟩
   rw [← Array.append_assoc]
   simp only [List.append_toArray]
   rfl
 · simp only [Array.size_append, zeroCells_size, hzs, List.size_toArray, hfl]
   rw [← Nat.add_mul, ← Nat.add_mul]; congr 1; omega
 · intro j v hj
   have hjl : j < (xs.flatMap (enc cs)).length + (l.flatMap (enc cs)).length := by
     rw [List.flatMap_append] at hj
     rcases Nat.lt_or_ge j ((xs.flatMap (enc cs)).length + (l.flatMap (enc cs)).length) with g | g
     · exact g
     · rw [List.getElem?_eq_none (by simpa using g)] at hj; cases hj
   rw [Array.getElem?_append_left (by simpa using hjl)]
   rw [List.flatMap_append] at hj
   simpa using hj
/-- The row has room: it is written behind its end. -/
theorem run_append_in {t t2 ty e : TypeId} {ty2 : TypeDesc} (hg : P.underlying t = some (.slice e)) (hg2 : P.underlying t2 = some ty2) (hni : ∀ k, ty2 ≠ .int k) {cs : List Sc} (hcs : scs? P e = some cs)
   {l : List (RowT cs)} {n : Nat} {y : Value} (hy : SrcIs w cs l y) {r cap : Nat} (hcap : n + l.length ≤ cap) {cells : Array Value} {ct : TypeId} {fr : Nat × Nat} (hc : w.heap[r]? = some (.cells cells ct fr)) (hsz : cells.size = cap * cs.length) (hf : Thaw cells fr) :
   ∃ w' cells', (Builtin.append_ #[t, t2] ty #[.slice (some ⟨r, 0, none⟩) n cap, y]).run P w = .ok (.slice (some ⟨r, 0, none⟩) (n + l.length) cap) w' ∧
     cells'.toList = setAt cells.toList (n * cs.length) (l.flatMap (enc cs)) ∧ Turned w w' r cells' ct fr := by
 have hnew := hy.first (P := P)
 have hlen := hy.len (P := P) w
 have hint : ((match ty2 with | .int _ => true | _ => false) = true) = False := by
   cases ty2 <;> first | simp; done | exact absurd rfl (hni _)
 have hfl := flat_length (enc cs) cs.length (enc_length cs) l
 have hroom : (n * cs.length) + 0 + (l.flatMap (enc cs)).length ≤ cells.size := by
   rw [hfl, hsz, Nat.add_zero, ← Nat.add_mul]; exact Nat.mul_le_mul_right _ hcap
 obtain ⟨w', cells', h1, h2, h3⟩ := run_storeCells (P := P) (l.flatMap (enc cs)) (n * cs.length) 0 cells w hc hroom hf (fun v hv => by
   obtain ⟨x, _, hx⟩ := List.mem_flatMap.mp hv
   exact enc_one cs x v hx)
 refine ⟨w', cells', ?_, h2, h3⟩
 simp [Builtin.append_, run_und hg, run_und hg2, run_size_scs hcs, hint, hlen, hcap, hnew, add_off, h1]
theorem upd_comm {α : Type u} (f : Nat → α) {n m : Nat} (v u : α) (h : n ≠ m) : upd (upd f n v) m u = upd (upd f m u) n v := by
 funext t
 rcases upd_cases (upd f n v) m t u with ⟨rfl, e⟩ | ⟨ne, e⟩
 · rw [e, upd_ne _ _ (fun x => h x.symm), upd_same]
 · rw [e]
   rcases upd_cases f n t v with ⟨rfl, e'⟩ | ⟨ne', e'⟩
   · rw [e', upd_same]
   · rw [e', upd_ne _ _ ne', upd_ne _ _ ne]
/-- A row gets another name, and grows. -/
theorem Inv.grow (h : Inv N W0 M st μ a w) {id nid : Nat} {b b' : Blk} {m : Place} (hb : st.bl id = some b) (hw : Wr b) (hm : μ id = some m) (hn : st.bl nid = none) (hid : M.lo ≤ nid)
   {w' : World} (hs : w'.heap.size = w.heap.size) (ho : ∀ k, k ≠ m.r → w'.heap[k]? = w.heap[k]?) (hos : w'.os = w.os) (htape : w'.tape = w.tape) (hout : w'.output = w.output)
   (hsh : ∀ cells t fr, w.heap[m.r]? = some (.cells cells t fr) → ∃ cells', w'.heap[m.r]? = some (.cells cells' t fr) ∧ cells'.size = cells.size)
   (hr : BR w' (upd (upd st.bl nid (some b')) id (some .gone)) (upd μ nid (some m)) nid b') : Inv N W0 M ⟨st.tm, upd (upd st.bl nid (some b')) id (some .gone)⟩ (upd μ nid (some m)) a w' := by
 have hne : nid ≠ id := fun e => by rw [e, hb] at hn; cases hn
 have hbg : b ≠ .gone := by intro x; subst x; exact hw
 have hlk : ∀ i c, st.bl i = some c → ∃ c', upd (upd st.bl nid (some b')) id (some .gone) i = some c' ∧ Like c c' ∧ upd μ nid (some m) i = μ i := by
   intro i c hc
   have hin : i ≠ nid := fun e => by rw [e, hn] at hc; cases hc
   rcases upd_cases (upd st.bl nid (some b')) id i (some .gone) with ⟨rfl, e⟩ | ⟨ne, e⟩
   · exact ⟨.gone, e, by cases c <;> trivial, upd_ne _ _ hin⟩
   · exact ⟨c, by rw [e, upd_ne _ _ hin]; exact hc, Like.refl c, upd_ne _ _ hin⟩
 have hcase : ∀ i c, upd (upd st.bl nid (some b')) id (some .gone) i = some c → c ≠ .gone → (i = nid ∧ c = b') ∨ (i ≠ nid ∧ i ≠ id ∧ st.bl i = some c) := by
   intro i c hc hg
   rcases upd_cases (upd st.bl nid (some b')) id i (some .gone) with ⟨rfl, e⟩ | ⟨ne, e⟩
   · rw [e] at hc; cases hc; exact absurd rfl hg
   · rw [e] at hc
     rcases upd_cases st.bl nid i (some b') with ⟨rfl, e'⟩ | ⟨ne', e'⟩
     · rw [e'] at hc; cases hc; exact .inl ⟨rfl, rfl⟩
     · rw [e'] at hc; exact .inr ⟨ne', ne, hc⟩
 refine ⟨fun t => (h.tm t).mono hlk, fun i c hc => ?_, ⟨?_, ?_, ?_⟩, ⟨hos.trans h.since.os, htape.trans h.since.tape, hout.trans h.since.output, by rw [hs]; exact h.since.size, fun k hk hM => ?_, shape_turn h.since ho hsh⟩, h.size, h.defers, ?_⟩
 · by_cases hg : c = .gone
   · subst hg; trivial
   · rcases hcase i c hc hg with ⟨rfl, rfl⟩ | ⟨h1, h2, h3⟩
     · exact hr
     · refine (h.bl i c h3).keep hlk (upd_ne _ _ h1) (fun hg p hp o ho' => ?_)
       have := h.ap.two id i b c m p (fun x => h2 x.symm) hb h3 hw hg hm hp
       rw [ho p.r (fun x => this x.symm)]; exact ho'
 · intro i j c d p q hij hc hd hwc hg hp hq
   have hcg : c ≠ .gone := by intro x; subst x; exact hwc
   rcases hcase i c hc hcg with ⟨rfl, rfl⟩ | ⟨h1, h2, h3⟩
   · rcases hcase j d hd hg with ⟨rfl, rfl⟩ | ⟨g1, g2, g3⟩
     · exact absurd rfl hij
     · rw [upd_same] at hp; cases hp
       rw [upd_ne _ _ g1] at hq
       exact h.ap.two id j b d m q (fun x => g2 x.symm) hb g3 hw hg hm hq
   · rw [upd_ne _ _ h1] at hp
     rcases hcase j d hd hg with ⟨rfl, rfl⟩ | ⟨g1, g2, g3⟩
     · rw [upd_same] at hq; cases hq
       exact h.ap.two i id c b p m h2 h3 hb hwc hbg hp hm
     · rw [upd_ne _ _ g1] at hq
       exact h.ap.two i j c d p q hij h3 g3 hwc hg hp hq
 · intro i c p hc hwc hp
   have hcg : c ≠ .gone := by intro x; subst x; exact hwc
   rcases hcase i c hc hcg with ⟨rfl, rfl⟩ | ⟨h1, h2, h3⟩
   · rw [upd_same] at hp; cases hp; exact h.ap.new id b m hb hw hm
   · rw [upd_ne _ _ h1] at hp; exact h.ap.new i c p h3 hwc hp
 · intro i c p hc hg hp
   rcases hcase i c hc hg with ⟨rfl, rfl⟩ | ⟨h1, h2, h3⟩
   · rw [upd_same] at hp; cases hp; exact h.ap.old id b m hb hbg hm
   · rw [upd_ne _ _ h1] at hp; exact h.ap.old i c p h3 hg hp
 · rcases h.ap.new id b m hb hw hm with g | g
   · rw [ho k (by omega)]; exact h.since.block k hk hM
   · by_cases e : k = m.r
     · subst e; exact absurd g hM
     · rw [ho k e]; exact h.since.block k hk hM
 · intro i c hi hc
   have hin : i ≠ nid := by omega
   rw [upd_ne _ _ hin]
   rcases upd_cases (upd st.bl nid (some b')) id i (some .gone) with ⟨rfl, e⟩ | ⟨ne, e⟩
   · have hc : upd (upd st.bl nid (some b')) i (some .gone) i = some c := hc
     rw [e] at hc; cases hc
     exact ⟨(h.ent i b hi hb).1, fun k cs xs e => by cases e⟩
   · have hc : upd (upd st.bl nid (some b')) id (some .gone) i = some c := hc
     rw [e, upd_ne _ _ hin] at hc
     exact h.ent i c hi hc
theorem src_is (h : Inv N W0 M st μ a w) {cs : List Sc} {v : LV} {x : Value} (hv : RL st.bl μ v x) {ids : List Nat} {f : List (Option Blk) → Option (List (RowT cs))} (hs : src? cs v = some (ids, f)) {l : List (RowT cs)} (hl : f (ids.map st.bl) = some l) : SrcIs w cs l x := src_rel h hv hs hl
theorem append_does (h : Inv N W0 M st μ a w) (t t2 ty : TypeId) {nid : Nat} (hid : M.lo ≤ nid) {u v : LV} {x y : Value} (hu : RL st.bl μ u x) (hv : RL st.bl μ v y) : Does N W0 M P st μ a w (Builtin.append_ #[t, t2] ty #[x, y]) (planAppend P t t2 nid u v) := by
 intro ids f z wr hp hf
 unfold planAppend at hp
 split at hp
 · rename_i e ty2 hg hg2
   split at hp
   · cases hp
   rename_i hni0
   have hni : ∀ k, ty2 ≠ .int k := fun k hk => hni0 k hk
   split at hp
   · rename_i cs hcz
     obtain ⟨hcs, hz⟩ : scs? P e = some cs ∧ zeroIs P e (enc cs (dfl cs)) = true := by
       split at hcz
       · split at hcz
         · rename_i h1 _ h2; cases hcz; exact ⟨h1, h2⟩
         · cases hcz
       · cases hcz
     have hne := (scs_some hcs).1
     split at hp
     · rename_i is g hsrc
       split at hp
       · -- out of nil
         simp only [Option.some.injEq, Prod.mk.injEq] at hp
         obtain ⟨rfl, rfl⟩ := hp
         simp only [List.map_cons] at hf
         split at hf
         · rename_i bs heq
           simp only [List.cons.injEq] at heq
           obtain ⟨hn, rfl⟩ := heq
           split at hf
           · rename_i l hl
             simp only [Option.some.injEq, Prod.mk.injEq] at hf
             obtain ⟨hle, rfl, rfl⟩ := hf
             have hle := Nat.le_of_ble_eq_true hle
             have hs := src_is h hv hsrc hl
             have hx : x = .slice none 0 0 := hu.1
             subst hx
             rcases Nat.eq_zero_or_pos l.length with h0 | hpos
             · have hl0 : l = [] := List.eq_nil_of_length_eq_zero h0
               subst hl0
               have hlen := hs.len (P := P) w
               have hfirst := hs.first (P := P)
               have hint : ((match ty2 with | .int _ => true | _ => false) = true) = False := by
                 cases ty2 <;> first | simp; done | exact absurd rfl (hni _)
               simp only [List.length_nil] at hlen hfirst
               refine opV (x := .slice none 0 0) (w' := w) (μ' := upd μ nid none) ?_ (h.addNil hn hid hne) ?_
               · simp [Builtin.append_, run_und hg, run_und hg2, run_size_scs hcs, hint, hlen, hfirst]
               · exact ⟨_, 0, upd_same _ _ _, by unfold SlOk; rw [upd_same]; exact ⟨rfl, rfl⟩, fun k ds ys e => by cases e; rfl⟩
             · obtain ⟨cap', cells, h1, h2, h3, h4⟩ := run_append_new (P := P) (ty := ty) hg hg2 hni hcs hz (xs := []) (x := .slice none 0 0) ⟨none, 0, rfl, Nat.le_refl _, fun _ => ⟨rfl, rfl⟩, fun p e => by cases e⟩ hs (ad := none) (cap := 0) rfl (by simpa using hpos) (by simpa using hle)
               simp only [List.length_nil, Nat.zero_add, List.nil_append] at h1 h2 h4
               exact opV h1 ((h.drew (w.drawn + 1)).newRow (k := .own) hn hid hne h2 h4 h3 e (thaw0 _)) (RL.newRow (k := .own) h2 _)
           · cases hf
         · cases hf
       · -- onto a row of ours
         rename_i id
         simp only [Option.some.injEq, Prod.mk.injEq] at hp
         obtain ⟨rfl, rfl⟩ := hp
         simp only [List.map_cons] at hf
         split at hf
         · rename_i ds xs bs heq
           simp only [List.cons.injEq] at heq
           obtain ⟨hn, hb, rfl⟩ := heq
           split at hf
           · rename_i hd
             subst hd
             split at hf
             · rename_i l hl
               simp only [Option.some.injEq, Prod.mk.injEq] at hf
               obtain ⟨hle, rfl, rfl⟩ := hf
               have hle := Nat.le_of_ble_eq_true hle
               have hs := src_is h hv hsrc hl
               have hrow := h.row hb hu
               have hids : id ≠ nid := fun e => by rw [← e, hb] at hn; cases hn
               have hupd : ∀ b : Blk, updL st.bl [(id, .gone), (nid, b)] = upd (upd st.bl id (some .gone)) nid (some b) := fun b => upd_comm st.bl _ _ (fun e => hids e.symm)
               have hcalm : Inv N W0 M ⟨st.tm, upd st.bl id (some .gone)⟩ μ a w := h.calm hb (fun x => x) trivial (fun x => absurd rfl x) (fun _ => trivial)
               have hnn : (upd st.bl id (some Blk.gone)) nid = none := by rw [upd_ne _ _ (fun e => hids e.symm)]; exact hn
               -- grown
               have hnew : ∀ {ad : Option Addr} {cap : Nat}, x = .slice ad xs.length cap → cap < xs.length + l.length → OpOk N W0 M P st μ a w (do pure (.value (← Builtin.append_ #[t, t2] ty #[x, y]))) (.c (.sl nid)) [(id, .gone), (nid, .row .own ds (xs ++ l))] := by
                 intro ad cap hxe hc
                 obtain ⟨cap', cells, h1, h2, h3, h4⟩ := run_append_new (P := P) (ty := ty) hg hg2 hni hcs hz hrow hs hxe hc hle
                 refine opV (μ' := upd μ nid (some ⟨w.heap.size, 0, cap', ds.length⟩)) h1 ?_ ?_
                 · rw [hupd]
                   exact (hcalm.drew (w.drawn + 1)).newRow (k := .own) hnn hid hne (by simpa using h2) h4 h3 e (thaw0 _)
                 · rw [hupd]
                   have := RL.newRow (μ := μ) (st := ⟨st.tm, upd st.bl id (some .gone)⟩) (id := nid) (k := .own) (cs := ds) (xs := xs ++ l) (cap := cap') (n := ds.length) (by simpa using h2) w.heap.size
                   simpa [updL_one] using this
               cases hm : μ id with
               | none =>
                 obtain ⟨b, len, hb', hsl, hln⟩ := hu
                 rw [hb] at hb'; cases hb'
                 have hln := hln _ _ _ rfl
                 unfold SlOk at hsl
                 rw [hm] at hsl
                 obtain ⟨h0, rfl⟩ := hsl
                 subst hln
                 rcases Nat.eq_zero_or_pos l.length with g0 | hpos
                 · have hx0 : xs = [] := List.eq_nil_of_length_eq_zero h0
                   have hl0 : l = [] := List.eq_nil_of_length_eq_zero g0
                   subst hx0; subst hl0
                   have hlen := hs.len (P := P) w
                   have hfirst := hs.first (P := P)
                   have hint : ((match ty2 with | .int _ => true | _ => false) = true) = False := by
                     cases ty2 <;> first | simp; done | exact absurd rfl (hni _)
                   simp only [List.length_nil] at hlen hfirst
                   refine opV (x := .slice none 0 0) (w' := w) (μ' := upd μ nid none) ?_ ?_ ?_
                   · simp [Builtin.append_, run_und hg, run_und hg2, run_size_scs hcs, hint, hlen, hfirst]
                   · rw [hupd]; exact hcalm.addNil hnn hid hne
                   · rw [hupd]; exact ⟨_, 0, upd_same _ _ _, by unfold SlOk; rw [upd_same]; exact ⟨rfl, rfl⟩, fun k ds ys e => by cases e; rfl⟩
                 · exact hnew (by rw [h0]) (by omega)
               | some m =>
                 obtain ⟨b, len, hb', hsl, hln⟩ := hu
                 rw [hb] at hb'; cases hb'
                 have hln := hln _ _ _ rfl
                 unfold SlOk at hsl
                 rw [hm] at hsl
                 obtain ⟨h0, rfl⟩ := hsl
                 subst hln
                 by_cases hc : m.cap < xs.length + l.length
                 · exact hnew rfl hc
                 · obtain ⟨_, hB⟩ := h.bl id _ hb
                   rw [hm] at hB
                   obtain ⟨b1, b2, cells, ct, fr, b3, b4, b5, b6⟩ := hB
                   obtain ⟨b7, b8⟩ := b5 rfl
                   have hroom : xs.length + l.length ≤ m.cap := by omega
                   obtain ⟨w', cells', h1, h2, h3⟩ := run_append_in (P := P) (ty := ty) hg hg2 hni hcs (n := xs.length) hs hroom b3 b8 (b6 (by simp))
                   have hfl := fun l : List (RowT ds) => flat_length (enc ds) ds.length (enc_length ds) l
                   have hsz' : cells'.size = cells.size := by
                     have := congrArg List.length h2
                     rw [setAt_length] at this; simpa using this
                   refine opV (x := .slice (some ⟨m.r, 0, none⟩) (xs.length + l.length) m.cap) (w' := w') (μ' := upd μ nid (some m)) (by rw [b7]; exact h1) ?_ ?_
                   · refine h.grow hb (by simp [Wr]) hm hn hid h3.size h3.else_ h3.os h3.tape h3.output (h3.shape b3 h2) ⟨hne, ?_⟩
                     rw [upd_same]
                     refine ⟨by simpa using hroom, b2, cells', ct, fr, h3.here, fun j v hj => ?_, fun _ => ⟨b7, by rw [hsz']; exact b8⟩, fun _ => ?_⟩
                     · rw [b7, Nat.zero_add]
                       have hcl : cells'[j]? = cells'.toList[j]? := by simp
                       rw [hcl, h2, setAt_get, hfl]
                       rw [List.flatMap_append] at hj
                       have hxl := hfl xs
                       have hll := hfl l
                       split
                       · rename_i hr
                         rw [List.getElem?_append_right (by omega), hxl] at hj
                         exact hj
                       · rename_i hr
                         have hjl : j < xs.length * ds.length := by
                           rcases Nat.lt_or_ge j (xs.length * ds.length) with g | g
                           · exact g
                           · exfalso
                             rw [List.getElem?_append_right (by omega), hxl] at hj
                             have hj2 : j - xs.length * ds.length < l.length * ds.length := by
                               rw [← hll]
                               exact (List.getElem?_eq_some_iff.mp hj).1
                             apply hr
                             refine ⟨g, by omega, ?_⟩
                             have h9 : (xs.length + l.length) * ds.length ≤ m.cap * ds.length := Nat.mul_le_mul_right _ hroom
                             rw [Nat.add_mul] at h9
                             simp only [Array.length_toList]
                             omega
                         rw [List.getElem?_append_left (by omega)] at hj
                         have := b4 j v hj
                         rw [b7, Nat.zero_add] at this
                         simpa using this
                     · intro o ho
                       rw [hsz'] at ho
                       exact b6 (by simp) o ho
                   · refine ⟨.row .own ds (xs ++ l), xs.length + l.length, ?_, ?_, fun k cs' ys e' => by cases e'; simp⟩
                     · show upd (upd st.bl nid _) id _ nid = _
                       rw [upd_ne _ _ (fun e => hids e.symm), upd_same]
                     · unfold SlOk; rw [upd_same]; exact ⟨hroom, by rw [b7]⟩
             · cases hf
           · cases hf
         · cases hf
       · cases hp
     · cases hp
   · cases hp
 · cases hp
end
/-! ### Copy. No condition beyond those that stand in each. -/
section
variable {N : Nat} {W0 : World} {M : Fr} {st : St} {μ : Lay} {a : Act} {w : World} {P : Program}
theorem flat_take {α β : Type} (f : α → List β) (k : Nat) (h : ∀ x, (f x).length = k) : ∀ (l : List α) (n : Nat), (l.take n).flatMap f = (l.flatMap f).take (n * k)
 | [], n => by simp
 | x :: l, 0 => by simp
 | x :: l, n + 1 => by
   simp only [List.take_succ_cons, List.flatMap_cons]
   rw [flat_take f k h l n, List.take_append, List.take_of_length_le (l := f x) (by rw [h, Nat.succ_mul]; omega), h, Nat.succ_mul, Nat.add_sub_cancel]
theorem flat_drop {α β : Type} (f : α → List β) (k : Nat) (h : ∀ x, (f x).length = k) : ∀ (l : List α) (n : Nat), (l.drop n).flatMap f = (l.flatMap f).drop (n * k)
 | [], n => by simp
 | x :: l, 0 => by simp
 | x :: l, n + 1 => by
   simp only [List.drop_succ_cons, List.flatMap_cons]
   rw [flat_drop f k h l n, List.drop_append, List.drop_eq_nil_of_le (as := f x) (by rw [h, Nat.succ_mul]; omega), h, Nat.succ_mul, Nat.add_sub_cancel, List.nil_append]
theorem SrcIs.firsts {cs : List Sc} {l : List (RowT cs)} {y : Value} (h : SrcIs w cs l y) (n : Nat) (hn : n ≤ l.length) : (Builtin.firstCells cs.length n y).run P w = .ok ((l.take n).flatMap (enc cs)).toArray w := by
 have hfl := fun l : List (RowT cs) => flat_length (enc cs) cs.length (enc_length cs) l
 rcases h with ⟨ad, cap, rfl, h1, h2, h3⟩ | ⟨s, rfl, he, rfl, hl⟩
 · cases ad with
   | none =>
     obtain ⟨rfl, rfl⟩ := h2 rfl
     simp [Builtin.firstCells]
   | some p =>
     obtain ⟨hsp, cells, t, fr, h4, h5⟩ := h3 p rfl
     obtain ⟨r, off, sp⟩ := p
     simp only at hsp h4 h5
     subst hsp
     simp only [Builtin.firstCells]
     refine run_loadCells_at h4 _ (by rw [hfl, List.length_take, Nat.min_eq_left hn]) (fun j v hj => h5 j v ?_)
     rw [flat_take (enc cs) cs.length (enc_length cs), List.getElem?_take] at hj
     split at hj
     · exact hj
     · cases hj
 · simp only [Builtin.firstCells, Sem.run_pure]
   rw [flat_take (enc [.int .u8]) 1 (enc_length _), he]
   congr 1
   apply Array.ext'
   have h0 : ∀ (d : ByteArray) (n : Nat), (d.extract 0 n).data.toList = d.data.toList.take n := by
     intro d n
     simp [ByteArray.data_extract]
   simp only [Array.toList_map, h0, Nat.mul_one, List.map_take]
theorem copy_does (h : Inv N W0 M st μ a w) (t t2 ty : TypeId) {u v : LV} {x y : Value} (hu : RL st.bl μ u x) (hv : RL st.bl μ v y) : Does N W0 M P st μ a w (Builtin.copy_ #[t, t2] ty #[x, y]) (planCopy P t u v) := by
 intro ids f z wr hp hf
 unfold planCopy at hp
 split at hp
 · rename_i id
   split at hp
   · rename_i e hg
     split at hp
     · rename_i cs hcs
       have hne := (scs_some hcs).1
       split at hp
       · rename_i is g hsrc
         simp only [Option.some.injEq, Prod.mk.injEq] at hp
         obtain ⟨rfl, rfl⟩ := hp
         simp only [List.map_cons] at hf
         split at hf
         · rename_i k ds xs bs heq
           simp only [List.cons.injEq] at heq
           obtain ⟨hb, rfl⟩ := heq
           split at hf
           · cases hf
           · rename_i hk
             have hk : k ≠ .ro := fun e => hk e
             split at hf
             · rename_i hd
               subst hd
               split at hf
               · rename_i l hl
                 simp only [Option.some.injEq, Prod.mk.injEq, true_and] at hf
                 obtain ⟨rfl, rfl⟩ := hf
                 have hs := src_is h hv hsrc hl
                 have hfl := fun l : List (RowT cs) => flat_length (enc cs) cs.length (enc_length cs) l
                 have hlen := hs.len (P := P) w
                 have hfirst := hs.firsts (P := P) (Nat.min l.length xs.length) (Nat.min_le_left _ _)
                 obtain ⟨b, len, hb', hsl, hln⟩ := hu
                 rw [hb] at hb'; cases hb'
                 have hln := hln _ _ _ rfl
                 unfold SlOk at hsl
                 have hnl : (l.take xs.length ++ xs.drop l.length).length = xs.length := by simp; omega
                 have hlk : Like (.row k cs xs) (.row k cs (l.take xs.length ++ xs.drop l.length)) := ⟨rfl, hnl.symm⟩
                 have hwr : Wr (.row k cs xs) := hk
                 cases hm : μ id with
                 | none =>
                   rw [hm] at hsl
                   obtain ⟨h0, rfl⟩ := hsl
                   subst hln
                   have hx0 : xs = [] := List.eq_nil_of_length_eq_zero h0
                   subst hx0
                   refine opV (x := .int .i64 (Nat.min l.length 0)) (w' := w) (μ' := μ) ?_ ?_ ⟨rfl, rfl⟩
                   · simp only [List.length_nil] at hfirst
                     have e0 : Nat.min l.length 0 = 0 := Nat.min_zero _
                     rw [e0] at hfirst
                     simp [Builtin.copy_, run_und hg, run_size_scs hcs, hlen, e0, hfirst, goInt]
                   · have : updL st.bl [(id, Blk.row k cs (l.take ([] : List (RowT cs)).length ++ ([] : List (RowT cs)).drop l.length))] = st.bl := by
                       funext i
                       show upd st.bl id _ i = _
                       rcases upd_cases st.bl id i (some (Blk.row k cs (l.take ([] : List (RowT cs)).length ++ [].drop l.length))) with ⟨rfl, e⟩ | ⟨ne, e⟩
                       · rw [e, hb]; simp
                       · exact e
                     show Inv N W0 M ⟨st.tm, updL st.bl [(id, Blk.row k cs (l.take ([] : List (RowT cs)).length ++ ([] : List (RowT cs)).drop l.length))]⟩ μ a w
                     rw [this]
                     exact h
                 | some m =>
                   rw [hm] at hsl
                   obtain ⟨h0, rfl⟩ := hsl
                   subst hln
                   obtain ⟨_, hB⟩ := h.bl id _ hb
                   rw [hm] at hB
                   obtain ⟨b1, b2, cells, ct, fr, b3, b4, b5, b6⟩ := hB
                   let vs := (l.take (Nat.min l.length xs.length)).flatMap (enc cs)
                   have hvl : vs.length = Nat.min l.length xs.length * cs.length := by
                     show ((l.take (Nat.min l.length xs.length)).flatMap (enc cs)).length = _
                     rw [hfl, List.length_take, Nat.min_eq_left (Nat.min_le_left _ _)]
                   have hsto : ∃ w' cells', (storeCells ⟨m.r, m.off, none⟩ vs).run P w = .ok () w' ∧ cells'.toList = setAt cells.toList m.off vs ∧ Turned w w' m.r cells' ct fr := by
                     rcases Nat.eq_zero_or_pos vs.length with g | g
                     · have hv0 : vs = [] := List.eq_nil_of_length_eq_zero g
                       rw [hv0]
                       exact ⟨w, cells, rfl, by rw [setAt_nil], b3, rfl, fun _ _ => rfl, rfl, rfl, rfl⟩
                     · have hle : vs.length ≤ xs.length * cs.length := by rw [hvl]; exact Nat.mul_le_mul_right _ (Nat.min_le_right _ _)
                       have hlast : ∃ v, (xs.flatMap (enc cs))[vs.length - 1]? = some v := ⟨_, List.getElem?_eq_getElem (by rw [hfl xs]; omega)⟩
                       obtain ⟨v, hv'⟩ := hlast
                       have hc := b4 _ v hv'
                       have hlt := (Array.getElem?_eq_some_iff.mp hc).1
                       obtain ⟨w', cells', e1, e2, e3⟩ := run_storeCells (P := P) vs m.off 0 cells w b3 (by omega) (b6 hk) (fun v hv => by
                         obtain ⟨x, _, hx⟩ := List.mem_flatMap.mp hv
                         exact enc_one cs x v hx)
                       exact ⟨w', cells', e1, e2, e3⟩
                   obtain ⟨w', cells', h1, h2, h3⟩ := hsto
                   have hsz' : cells'.size = cells.size := by
                     have := congrArg List.length h2
                     rw [setAt_length] at this; simpa using this
                   refine opV (x := .int .i64 (Nat.min l.length xs.length)) (w' := w') (μ' := μ) ?_ ?_ ⟨rfl, rfl⟩
                   · simp only [Builtin.copy_, List.getElem?_toArray, List.getElem?_cons_zero, List.getElem?_cons_succ, Sem.run_bind, run_und hg, hlen, Result.andThen_ok, run_size_scs hcs, hfirst, Sem.run_pure]
                     show ((storeCells ⟨m.r, m.off, none⟩ vs).run P w).andThen _ = _
                     rw [h1]
                     rfl
                   · refine h.turn hb hwr hm h3.size h3.else_ h3.os h3.tape h3.output hlk (h3.shape b3 h2) ⟨hne, ?_⟩
                     rw [hm]
                     refine ⟨by rw [hnl]; exact b1, b2, cells', ct, fr, h3.here, fun j v hj => ?_, fun hko => ⟨(b5 hko).1, by rw [hsz']; exact (b5 hko).2⟩, fun _ o ho => by rw [hsz'] at ho; exact b6 hk o ho⟩
                     have hcl : cells'[m.off + j]? = cells'.toList[m.off + j]? := by simp
                     rw [hcl, h2, setAt_get]
                     have htk : l.take xs.length = l.take (Nat.min l.length xs.length) := by
                       rcases Nat.le_total l.length xs.length with g | g
                       · rw [show Nat.min l.length xs.length = l.length from Nat.min_eq_left g, List.take_length, List.take_of_length_le g]
                       · rw [show Nat.min l.length xs.length = xs.length from Nat.min_eq_right g]
                     rw [List.flatMap_append, htk] at hj
                     change (vs ++ _)[j]? = some v at hj
                     rcases Nat.lt_or_ge j vs.length with g | g
                     · rw [List.getElem?_append_left g] at hj
                       have hle : vs.length ≤ xs.length * cs.length := by rw [hvl]; exact Nat.mul_le_mul_right _ (Nat.min_le_right _ _)
                       obtain ⟨v', hv'⟩ : ∃ v, (xs.flatMap (enc cs))[j]? = some v := ⟨_, List.getElem?_eq_getElem (by rw [hfl xs]; omega)⟩
                       have hlt := (Array.getElem?_eq_some_iff.mp (b4 _ v' hv')).1
                       rw [if_pos ⟨by omega, by omega, by simpa using hlt⟩]
                       simpa using hj
                     · rw [List.getElem?_append_right g, flat_drop (enc cs) cs.length (enc_length cs), List.getElem?_drop] at hj
                       rw [if_neg (by omega)]
                       have hll : l.length * cs.length = vs.length := by
                         rw [hvl]
                         rcases Nat.le_total l.length xs.length with g | g
                         · rw [show Nat.min l.length xs.length = l.length from Nat.min_eq_left g]
                         · exfalso
                           have h5 := (List.getElem?_eq_some_iff.mp hj).1
                           rw [hfl xs] at h5
                           have h6 : xs.length * cs.length ≤ l.length * cs.length := Nat.mul_le_mul_right _ g
                           omega
                       have := b4 (l.length * cs.length + (j - vs.length)) v hj
                       have e9 : m.off + (l.length * cs.length + (j - vs.length)) = m.off + j := by omega
                       rw [e9] at this
                       simpa using this
               · cases hf
             · cases hf
         · cases hf
       · cases hp
     · cases hp
   · cases hp
 · cases hp
end
/-! ### Every plain operation: what the plan says is what the machine does. No condition beyond those that stand in each. -/
section
variable {N : Nat} {W0 : World} {M : Fr} {st : St} {μ : Lay} {a : Act} {w : World} {E : Env}
theorem pick_does {P : Program} (h : Inv N W0 M st μ a w) (c x y : Operand) : Does N W0 M P st μ a w (do pure (if ← asBool (a.eval c) then a.eval x else a.eval y)) (planPick (st.val c) (st.val x) (st.val y)) := by
 have hc := h.val c
 have hx := h.val x
 have hy := h.val y
 generalize st.val c = vc at hc ⊢
 generalize a.eval c = ac at hc ⊢
 unfold planPick
 split
 · rename_i b
   obtain rfl := RL.bool' hc
   cases b with
   | true => exact Does.still h (by simp [asBool]) hx
   | false => exact Does.still h (by simp [asBool]) hy
 · exact Does.none
theorem args1 {α β : Type} {xs : Array α} {x : α} (f : α → β) (h : xs.toList = [x]) : xs = #[x] ∧ xs.map f = #[f x] := by
 obtain ⟨l⟩ := xs
 simp only at h
 subst h
 exact ⟨rfl, by simp⟩
theorem args2 {α β : Type} {xs : Array α} {x y : α} (f : α → β) (h : xs.toList = [x, y]) : xs = #[x, y] ∧ xs.map f = #[f x, f y] := by
 obtain ⟨l⟩ := xs
 simp only at h
 subst h
 exact ⟨rfl, by simp⟩
theorem OpOk.congr {P : Program} {s s' : Sem Next} {v : LV} {wr : List (Nat × Blk)} (h : OpOk N W0 M P st μ a w s v wr) (e : s'.run P w = s.run P w) : OpOk N W0 M P st μ a w s' v wr := by
 obtain ⟨nx, x, w', μ', h1, h2⟩ := h
 exact ⟨nx, x, w', μ', e.trans h1, h2⟩
theorem plan_does (hE : ∀ t ∈ E.eqs, eqFree E.P t = true) (h : Inv N W0 M st μ a w) (o : Oper) {nid : Nat} (hid : M.lo ≤ nid) : ∀ ids f v wr, plan E o.op nid st.val = some (ids, f) → f (ids.map st.bl) = some (true, v, wr) → OpOk N W0 M E.P st μ a w (execOp a.eval o) v wr := by
 intro ids f v wr hp hf
 cases ho : o.op with
 | move x =>
   rw [ho] at hp
   refine OpOk.congr (Does.still (P := E.P) (s := pure (a.eval x)) h rfl (h.val x) ids f v wr hp hf) ?_
   simp [execOp, ho]
 | assign x =>
   rw [ho] at hp
   refine OpOk.congr (Does.still (P := E.P) (s := pure (a.eval x)) h rfl (h.val x) ids f v wr hp hf) ?_
   simp [execOp, ho]
 | pick c x y =>
   rw [ho] at hp
   refine OpOk.congr (pick_does h c x y ids f v wr hp hf) ?_
   simp [execOp, ho]
 | nilCheck x =>
   rw [ho] at hp
   have hx := h.val x
   simp only [plan] at hp
   split at hp
   · rename_i id i j hv
     rw [hv] at hx
     obtain ⟨b, m, h1, h2, h3, h4⟩ := hx
     refine OpOk.congr (Does.still (P := E.P) (s := pure (a.eval x)) h rfl (u := .c (.ptr id i j)) ⟨b, m, h1, h2, h3, h4⟩ ids f v wr hp hf) ?_
     simp [execOp, ho, h3]
   · cases hp
 | alloc t => rw [ho] at hp; exact OpOk.congr (alloc_does h t hid ids f v wr hp hf) (by simp [execOp, ho])
 | box t x => rw [ho] at hp; exact OpOk.congr (box_does h t hid (h.val x) ids f v wr hp hf) (by simp [execOp, ho])
 | build t parts => rw [ho] at hp; exact OpOk.congr (build_does h t parts ids f v wr hp hf) (by simp [execOp, ho])
 | buildSlice t n parts => rw [ho] at hp; exact OpOk.congr (lit_does h t n parts hid ids f v wr hp hf) (by simp [execOp, ho])
 | load t x => rw [ho] at hp; exact OpOk.congr (load_does h t (h.val x) ids f v wr hp hf) (by simp [execOp, ho])
 | store t x y => rw [ho] at hp; exact OpOk.congr (store_does h t (h.val x) (h.val y) ids f v wr hp hf) (by simp [execOp, ho])
 | binOp op t x y z => rw [ho] at hp; exact OpOk.congr (bin_does hE h op t x y (h.val x) (h.val y) ids f v wr hp hf) (by simp [execOp, ho])
 | unOp op t x => rw [ho] at hp; exact OpOk.congr (un_does h op (h.val x) ids f v wr hp hf) (by simp [execOp, ho])
 | convert s t x => rw [ho] at hp; exact OpOk.congr (conv_does h s t hid (h.val x) ids f v wr hp hf) (by simp [execOp, ho])
 | makeSlice t x y => rw [ho] at hp; exact OpOk.congr (make_does h t hid (h.val x) (h.val y) ids f v wr hp hf) (by simp [execOp, ho])
 | slice t x lo hi mx =>
   rw [ho] at hp
   cases mx with
   | none => exact OpOk.congr (slice_does h t (h.val x) lo hi ids f v wr hp hf) (by simp [execOp, ho])
   | some _ => simp [plan] at hp
 | fieldAddr t x i => rw [ho] at hp; exact OpOk.congr (fieldAddr_does h t i (h.val x) ids f v wr hp hf) (by simp [execOp, ho])
 | field t x i => rw [ho] at hp; exact OpOk.congr (field_does h t i (h.val x) ids f v wr hp hf) (by simp [execOp, ho])
 | indexAddr t x y => rw [ho] at hp; exact OpOk.congr (indexAddr_does h t (h.val x) (h.val y) ids f v wr hp hf) (by simp [execOp, ho])
 | index t x y => rw [ho] at hp; exact OpOk.congr (index_does h t (h.val x) (h.val y) ids f v wr hp hf) (by simp [execOp, ho])
 | extract x i => rw [ho] at hp; exact OpOk.congr (extract_does h i (h.val x) ids f v wr hp hf) (by simp [execOp, ho])
 | call c =>
   rw [ho] at hp
   simp only [plan] at hp
   split at hp
   · rename_i b hc
     split at hp
     · rename_i x t h1 h2
       obtain ⟨e1, e2⟩ := args1 a.eval h1
       obtain ⟨e3, _⟩ := args1 id h2
       refine OpOk.congr (len_does h t o.type (h.val x) ids f v wr hp hf) ?_
       simp [execOp, ho, resolve, hc, invoke, builtin, e1, e3]
     · rename_i x y h1
       obtain ⟨e1, e2⟩ := args2 a.eval h1
       refine OpOk.congr (min_does h c.argTypes o.type (h.val x) (h.val y) ids f v wr hp hf) ?_
       simp [execOp, ho, resolve, hc, invoke, builtin, e1]
     · rename_i x y h1
       obtain ⟨e1, e2⟩ := args2 a.eval h1
       refine OpOk.congr (max_does h c.argTypes o.type (h.val x) (h.val y) ids f v wr hp hf) ?_
       simp [execOp, ho, resolve, hc, invoke, builtin, e1]
     · rename_i x y t t2 h1 h2
       obtain ⟨e1, e2⟩ := args2 a.eval h1
       obtain ⟨e3, _⟩ := args2 id h2
       refine OpOk.congr (append_does h t t2 o.type hid (h.val x) (h.val y) ids f v wr hp hf) ?_
       simp [execOp, ho, resolve, hc, invoke, builtin, e1, e3]
     · rename_i x y t t2 h1 h2
       obtain ⟨e1, e2⟩ := args2 a.eval h1
       obtain ⟨e3, _⟩ := args2 id h2
       refine OpOk.congr (copy_does h t t2 o.type (h.val x) (h.val y) ids f v wr hp hf) ?_
       simp [execOp, ho, resolve, hc, invoke, builtin, e1, e3]
     · cases hp
   · cases hp
 | _ => rw [ho] at hp; simp [plan] at hp
end
/-! ### Where ways meet: what is kept there tells the same of the machine. No condition beyond those that stand in each. -/
-- what is forced is as it was
theorem fCell_eq {α : Type u} (x : Cell) (k : Cell → α) : fCell x k = k x := by
 cases x with
 | s v => cases v <;> rfl
 | _ => rfl
theorem fCells_eq {α : Type u} : ∀ (l : List Cell) (k : List Cell → α), fCells l k = k l
 | [], _ => rfl
 | x :: l, k => by
   show fCell x (fun y => fCells l fun m => k (y :: m)) = _
   rw [fCell_eq, fCells_eq l]
theorem fTup_eq {α : Type u} : ∀ (l : List (Bool × List Cell)) (k : List (Bool × List Cell) → α), fTup l k = k l
 | [], _ => rfl
 | (b, x) :: l, k => by
   show fCells x (fun y => fTup l fun m => k ((b, y) :: m)) = _
   rw [fCells_eq, fTup_eq l]
theorem fLV_eq {α : Type u} (x : LV) (k : LV → α) : fLV x k = k x := by
 cases x with
 | c x => show fCell x (fun y => k (.c y)) = _; rw [fCell_eq]
 | agg xs => show fCells xs (fun y => k (.agg y)) = _; rw [fCells_eq]
 | arr _ _ => rfl
 | tup xs => show fTup xs (fun y => k (.tup y)) = _; rw [fTup_eq]
theorem fBlk_eq {α : Type u} (x : Blk) (k : Blk → α) : fBlk x k = k x := by
 cases x with
 | box xs => show fCells xs (fun y => k (.box y)) = _; rw [fCells_eq]
 | row q _ _ => cases q <;> rfl
 | gone => rfl
theorem fBls_eq {α : Type u} : ∀ (l : List (Nat × Blk)) (k : List (Nat × Blk) → α), fBls l k = k l
 | [], _ => rfl
 | (n, b) :: l, k => by
   show fBlk b (fun c => fBls l fun m => k ((n, c) :: m)) = _
   rw [fBlk_eq, fBls_eq l]
theorem fTms_eq {α : Type u} : ∀ (l : List (Nat × LV)) (k : List (Nat × LV) → α), fTms l k = k l
 | [], _ => rfl
 | (n, b) :: l, k => by
   show fLV b (fun c => fTms l fun m => k ((n, c) :: m)) = _
   rw [fLV_eq, fTms_eq l]
theorem look_mem {α : Type u} {d : α} : ∀ {l : List (Nat × α)} {t : Nat}, look d l t = d ∨ (t, look d l t) ∈ l
 | [], _ => .inl rfl
 | (n, v) :: l, t => by
   unfold look
   cases hb : Nat.beq t n with
   | true => have := Nat.eq_of_beq_eq_true hb; subst this; right; simp
   | false => exact (look_mem (l := l) (t := t)).imp id (fun h => by simp [h])
section
variable {N : Nat} {W0 : World} {M : Fr} {st : St} {μ : Lay} {a : Act} {w : World}
/-- A state of which nothing is known. -/
theorem Inv.nothing (h : Inv N W0 M st μ a w) : Inv N W0 M (mkSt [] []) μ a w :=
 ⟨fun t => trivial, fun id b hb => (by cases hb), ⟨fun i j b c m p hij hb => (by cases hb), fun i b m hb => (by cases hb), fun i b m hb => (by cases hb)⟩, h.since, h.size, h.defers, fun id b _ hb => (by cases hb)⟩
-- nil slices as empty rows
theorem nilCells_sound (spec : List (Nat × List Sc)) : ∀ (xs : List Cell) (bl : Nat → Option Blk) (μ : Lay) (name j : Nat) (tm : Nat → LV) (vs : List Value), Inv N W0 M ⟨tm, bl⟩ μ a w → All2 (RC bl μ) xs vs →
   ∃ μ', Inv N W0 M ⟨tm, (nilCells spec bl name j xs).2⟩ μ' a w ∧ All2 (RC (nilCells spec bl name j xs).2 μ') (nilCells spec bl name j xs).1 vs ∧ (∀ id b, bl id = some b → (nilCells spec bl name j xs).2 id = some b ∧ μ' id = μ id)
 | [], bl, μ, name, j, tm, vs, h, hx => ⟨μ, h, hx, fun id b hb => ⟨hb, rfl⟩⟩
 | x :: l, bl, μ, name, j, tm, _, h, .cons (b := v) (m := vs) hx hl => by
   have same : ∃ μ', Inv N W0 M ⟨tm, (nilCells spec bl (name + 10000) (j + 1) l).2⟩ μ' a w ∧ All2 (RC (nilCells spec bl (name + 10000) (j + 1) l).2 μ') (x :: (nilCells spec bl (name + 10000) (j + 1) l).1) (v :: vs) ∧ (∀ id b, bl id = some b → (nilCells spec bl (name + 10000) (j + 1) l).2 id = some b ∧ μ' id = μ id) := by
     obtain ⟨μ', h1, h2, h3⟩ := nilCells_sound spec l bl μ (name + 10000) (j + 1) tm vs h hl
     exact ⟨μ', h1, .cons (hx.mono fun id b hb => ⟨b, (h3 id b hb).1, Like.refl b, (h3 id b hb).2⟩) h2, h3⟩
   unfold nilCells
   split
   · split
     · rename_i c cs hs hn
       obtain ⟨rfl, _⟩ := hx
       have h' := h.addNil (id := 500000000 + name) hn (by have := M.lo_le; omega) (k := .own) (cs := c :: cs) (by simp)
       have hlike := old_like (bl := bl) (μ := μ) (id := 500000000 + name) (b := some (Blk.row .own (c :: cs) [])) (m := none) hn
       obtain ⟨μ', h1, h2, h3⟩ := nilCells_sound spec l _ _ (name + 10000) (j + 1) tm vs h' (hl.imp fun _ _ h => h.mono hlike)
       refine ⟨μ', h1, .cons ?_ h2, fun id b hb => ?_⟩
       · have := h3 (500000000 + name) (.row .own (c :: cs) []) (upd_same _ _ _)
         refine ⟨_, 0, this.1, ?_, fun k ds ys e => by cases e; rfl⟩
         rw [this.2, upd_same]
         exact ⟨rfl, rfl⟩
       · have ne : id ≠ 500000000 + name := fun e => by rw [e, hn] at hb; cases hb
         have := h3 id b (by show upd bl _ _ id = _; rw [upd_ne _ _ ne]; exact hb)
         exact ⟨this.1, by rw [this.2, upd_ne _ _ ne]⟩
     · exact same
   · exact same
theorem RL.asLV1 {bl : Nat → Option Blk} {xs : List Cell} {v : Value} (h : All2 (RC bl μ) xs [v]) : RL bl μ (asLV false xs) v := by
 cases h with
 | cons h ht => cases ht; exact h
theorem Inv.setTm (h : Inv N W0 M st μ a w) {t : Nat} {v : LV} (hv : RL st.bl μ v (a.tmps.getD t undef)) : Inv N W0 M ⟨upd st.tm t v, st.bl⟩ μ a w :=
 ⟨fun i => by
   rcases upd_cases st.tm t i v with ⟨rfl, e⟩ | ⟨ne, e⟩
   · show RL st.bl μ (upd st.tm i v i) _
     rw [e]; exact hv
   · show RL st.bl μ (upd st.tm t v i) _
     rw [e]; exact h.tm i, h.bl, h.ap, h.since, h.size, h.defers, h.ent⟩
/-- A box whose cells are told in other words. -/
theorem Inv.rebox (h : Inv N W0 M st μ a w) {id : Nat} {xs ys : List Cell} (hb : st.bl id = some (.box xs)) (hy : ∀ m cells t fr, μ id = some m → w.heap[m.r]? = some (.cells cells t fr) → All2 (RC st.bl μ) ys cells.toList) : Inv N W0 M ⟨st.tm, upd st.bl id (some (.box ys))⟩ μ a w := by
 have hlk : ∀ i c, st.bl i = some c → ∃ c', upd st.bl id (some (.box ys)) i = some c' ∧ Like c c' ∧ μ i = μ i := by
   intro i c hc
   rcases upd_cases st.bl id i (some (.box ys)) with ⟨rfl, e⟩ | ⟨ne, e⟩
   · rw [hb] at hc; cases hc; exact ⟨_, e, trivial, rfl⟩
   · exact ⟨c, by rw [e]; exact hc, Like.refl c, rfl⟩
 have hold : ∀ i c, upd st.bl id (some (.box ys)) i = some c → (i = id ∧ c = .box ys) ∨ (i ≠ id ∧ st.bl i = some c) := by
   intro i c hc
   rcases upd_cases st.bl id i (some (.box ys)) with ⟨rfl, e⟩ | ⟨ne, e⟩
   · rw [e] at hc; cases hc; exact .inl ⟨rfl, rfl⟩
   · rw [e] at hc; exact .inr ⟨ne, hc⟩
 have was : ∀ i c, upd st.bl id (some (.box ys)) i = some c → ∃ d, st.bl i = some d ∧ (Wr c → Wr d) ∧ (c ≠ .gone → d ≠ .gone) := by
   intro i c hc
   rcases hold i c hc with ⟨rfl, rfl⟩ | ⟨ne, hc⟩
   · exact ⟨_, hb, fun _ => trivial, fun _ => by simp⟩
   · exact ⟨c, hc, fun h => h, fun h => h⟩
 refine ⟨fun t => (h.tm t).mono hlk, fun i c hc => ?_, ⟨?_, ?_, ?_⟩, h.since, h.size, h.defers, fun i c hi hc => ?_⟩
 · rcases hold i c hc with ⟨rfl, rfl⟩ | ⟨ne, hc⟩
   · obtain ⟨m, cells, t, fr, h1, h2, h3, h4, h5⟩ := h.bl i _ hb
     exact ⟨m, cells, t, fr, h1, h2, h3, h4, (hy m cells t fr h1 h3).imp fun _ _ h => h.mono hlk⟩
   · exact (h.bl i c hc).keep hlk rfl (fun _ _ _ _ h => h)
 · intro i j c d p q hij hc hd hw hg hp hq
   obtain ⟨c', h1, h2, _⟩ := was i c hc
   obtain ⟨d', h3, _, h4⟩ := was j d hd
   exact h.ap.two i j c' d' p q hij h1 h3 (h2 hw) (h4 hg) hp hq
 · intro i c p hc hw hp
   obtain ⟨c', h1, h2, _⟩ := was i c hc
   exact h.ap.new i c' p h1 (h2 hw) hp
 · intro i c p hc hw hp
   obtain ⟨c', h1, _, h2⟩ := was i c hc
   exact h.ap.old i c' p h1 (h2 hw) hp
 · rcases hold i c hc with ⟨rfl, rfl⟩ | ⟨ne, hc⟩
   · exact ⟨(h.ent i _ hi hb).1, fun k cs xs e => by cases e⟩
   · exact h.ent i c hi hc
theorem nilTm_sound (h : Inv N W0 M st μ a w) (t : Nat) (spec : List (Nat × List Sc)) : ∃ μ', Inv N W0 M (nilTm st t spec) μ' a w := by
 unfold nilTm
 split
 · exact ⟨μ, h⟩
 · split
   · rename_i id ht
     split
     · rename_i xs hb
       obtain ⟨m, cells, ty, fr, h1, h2, h3, h4, h5⟩ := h.bl id _ hb
       obtain ⟨μ', g1, g2, g3⟩ := nilCells_sound spec xs st.bl μ (1009000 + t) 0 st.tm cells.toList h h5
       refine ⟨μ', g1.rebox (g3 id _ hb).1 fun m' cells' t' fr' e1 e2 => ?_⟩
       rw [(g3 id _ hb).2, h1] at e1
       cases e1
       rw [h3] at e2
       cases e2
       exact g2
     · exact ⟨μ, h⟩
   · rename_i x hx ht
     have hv : RC st.bl μ x (a.tmps.getD t undef) := by have := h.tm t; rw [ht] at this; exact this
     obtain ⟨μ', g1, g2, g3⟩ := nilCells_sound spec [x] st.bl μ (9000 + t) 0 st.tm [a.tmps.getD t undef] h (.cons hv .nil)
     exact ⟨μ', g1.setTm (RL.asLV1 g2)⟩
   · rename_i xs ht
     have hv := h.tm t
     rw [ht] at hv
     obtain ⟨vs, e, hv⟩ := hv
     obtain ⟨μ', g1, g2, g3⟩ := nilCells_sound spec xs st.bl μ (9000 + t) 0 st.tm vs.toList h hv
     exact ⟨μ', g1.setTm (v := .agg _) ⟨vs, e, g2⟩⟩
   · exact ⟨μ, h⟩
theorem nilTms_sound : ∀ (l : List (Nat × List (Nat × List Sc))) (st : St) (μ : Lay), Inv N W0 M st μ a w → ∃ μ', Inv N W0 M (nilTms st l) μ' a w
 | [], st, μ, h => ⟨μ, h⟩
 | (t, spec) :: l, st, μ, h => by
   obtain ⟨μ', h'⟩ := nilTm_sound h t spec
   exact nilTms_sound l _ _ h'
-- new names
theorem find_mem : ∀ {l : List (Nat × Nat)} {id n : Nat}, find l id = some n → (id, n) ∈ l
 | [], _, _, h => by cases h
 | (x, y) :: l, id, n, h => by
   unfold find at h
   cases hb : Nat.beq id x with
   | true => rw [hb] at h; cases h; have := Nat.eq_of_beq_eq_true hb; subst this; simp
   | false => rw [hb] at h; have := find_mem h; simp [this]
theorem apart_cons {n : Nat} {l : List Nat} (h : apartB (n :: l) = true) : (∀ m ∈ l, m ≠ n) ∧ apartB l = true := by
 simp only [apartB, Bool.and_eq_true, List.all_eq_true] at h
 refine ⟨fun m hm e => ?_, h.2⟩
 have := h.1 m hm
 subst e
 simp at this
theorem apart_fst : ∀ {l : List (Nat × Nat)}, apartB (l.map fun x => x.1) = true → ∀ {i n m : Nat}, (i, n) ∈ l → (i, m) ∈ l → n = m
 | [], _, _, _, _, h, _ => by cases h
 | (x, y) :: l, h, i, n, m, h1, h2 => by
   obtain ⟨g1, g2⟩ := apart_cons h
   simp only [List.mem_cons, Prod.mk.injEq] at h1 h2
   rcases h1 with ⟨rfl, rfl⟩ | h1
   · rcases h2 with ⟨_, rfl⟩ | h2
     · rfl
     · exact absurd rfl (g1 i (List.mem_map.mpr ⟨_, h2, rfl⟩))
   · rcases h2 with ⟨rfl, rfl⟩ | h2
     · exact absurd rfl (g1 i (List.mem_map.mpr ⟨_, h1, rfl⟩))
     · exact apart_fst g2 h1 h2
theorem apart_snd : ∀ {l : List (Nat × Nat)}, apartB (l.map fun x => x.2) = true → ∀ {i j n : Nat}, (i, n) ∈ l → (j, n) ∈ l → i = j
 | [], _, _, _, _, h, _ => by cases h
 | (x, y) :: l, h, i, j, n, h1, h2 => by
   obtain ⟨g1, g2⟩ := apart_cons h
   simp only [List.mem_cons, Prod.mk.injEq] at h1 h2
   rcases h1 with ⟨rfl, rfl⟩ | h1
   · rcases h2 with ⟨rfl, _⟩ | h2
     · rfl
     · exact absurd rfl (g1 n (List.mem_map.mpr ⟨_, h2, rfl⟩))
   · rcases h2 with ⟨rfl, rfl⟩ | h2
     · exact absurd rfl (g1 n (List.mem_map.mpr ⟨_, h1, rfl⟩))
     · exact apart_snd g2 h1 h2
/-- The place that goes by a new name. -/
def named (l : List (Nat × Nat)) (μ : Lay) : Lay := fun n => match find (l.map fun x => (x.2, x.1)) n with
 | some id => μ id
 | none => none
theorem find_some : ∀ {l : List (Nat × Nat)} {id n : Nat}, (id, n) ∈ l → ∃ m, find l id = some m
 | [], _, _, h => by cases h
 | (x, y) :: l, id, n, h => by
   unfold find
   cases hb : Nat.beq id x with
   | true => exact ⟨y, rfl⟩
   | false =>
     simp only [List.mem_cons, Prod.mk.injEq] at h
     rcases h with ⟨rfl, rfl⟩ | h
     · simp at hb
     · exact find_some h
theorem named_eq {l : List (Nat × Nat)} (h2 : apartB (l.map fun x => x.2) = true) {id n : Nat} (h : (id, n) ∈ l) (μ : Lay) : named l μ n = μ id := by
 unfold named
 obtain ⟨m, hm⟩ := find_some (l := l.map fun x => (x.2, x.1)) (id := n) (n := id) (List.mem_map.mpr ⟨_, h, rfl⟩)
 rw [hm]
 have := find_mem hm
 obtain ⟨⟨p, q⟩, hp, e⟩ := List.mem_map.mp this
 simp only [Prod.mk.injEq] at e
 obtain ⟨rfl, rfl⟩ := e
 rw [apart_snd h2 hp h]
def blksOf (l : List (Nat × Blk)) (n : Nat) : Option Blk := look none (l.map fun x => (x.1, some x.2)) n
theorem meetBls_mem {L : List (Nat × Nat)} : ∀ {l : List (Nat × Nat)} {n : Nat} {b : Blk}, blksOf (meetBls st L l) n = some b → ∃ id c, (id, n) ∈ l ∧ st.bl id = some c ∧ b = blkMap L c
 | [], n, b, h => by cases h
 | (id, name) :: l, n, b, h => by
   unfold meetBls at h
   split at h
   · rename_i c hc
     unfold blksOf at h
     simp only [List.map_cons, look] at h
     cases hb : Nat.beq n name with
     | true =>
       rw [hb] at h; cases h
       have := Nat.eq_of_beq_eq_true hb
       subst this
       exact ⟨id, c, by simp, hc, rfl⟩
     | false =>
       rw [hb] at h
       obtain ⟨i, d, h1, h2⟩ := meetBls_mem (l := l) (n := n) (b := b) h
       exact ⟨i, d, by simp [h1], h2⟩
   · obtain ⟨i, d, h1, h2⟩ := meetBls_mem (l := l) (n := n) (b := b) h
     exact ⟨i, d, by simp [h1], h2⟩
theorem meetBls_get {L : List (Nat × Nat)} : ∀ {l : List (Nat × Nat)} (h2 : apartB (l.map fun x => x.2) = true) {id n : Nat} {c : Blk}, (id, n) ∈ l → st.bl id = some c → blksOf (meetBls st L l) n = some (blkMap L c)
 | [], _, _, _, _, h, _ => by cases h
 | (x, y) :: l, h2, id, n, c, h, hc => by
   obtain ⟨g1, g2⟩ := apart_cons h2
   simp only [List.mem_cons, Prod.mk.injEq] at h
   unfold meetBls
   rcases h with ⟨rfl, rfl⟩ | h
   · rw [hc]
     simp [blksOf, look]
   · have ne : n ≠ y := g1 n (List.mem_map.mpr ⟨_, h, rfl⟩)
     have ih := meetBls_get (l := l) (L := L) g2 h hc
     split
     · unfold blksOf at ih ⊢
       simp only [List.map_cons, look]
       cases hb : Nat.beq n y with
       | true => exact absurd (Nat.eq_of_beq_eq_true hb) ne
       | false => exact ih
     · exact ih
theorem RC.map {l : List (Nat × Nat)} (h2 : apartB (l.map fun x => x.2) = true) {y : Cell} {x : Value} (h : RC st.bl μ y x) : RC (blksOf (meetBls st l l)) (named l μ) (cellMap l y) x := by
 cases y with
 | s v => exact h
 | any => trivial
 | ptr id i j =>
   cases hf : find l id with
   | none => simp only [cellMap, hf]; trivial
   | some n =>
     simp only [cellMap, hf]
     obtain ⟨b, m, g1, g2, g3, g4, g5⟩ := h
     have hm := find_mem hf
     refine ⟨blkMap l b, m, meetBls_get h2 hm g1, by rw [named_eq h2 hm]; exact g2, g3, fun k cs xs e => ?_, fun ys e => ?_⟩
     · cases b with
       | row k' cs' xs' => cases e; exact g4 _ _ _ rfl
       | box _ => cases e
       | gone => cases e
     · cases b with
       | row k' cs' xs' => cases e
       | box zs => exact g5 zs rfl
       | gone => cases e
 | sl id =>
   cases hf : find l id with
   | none => simp only [cellMap, hf]; trivial
   | some n =>
     simp only [cellMap, hf]
     obtain ⟨b, len, g1, g2, g3⟩ := h
     have hm := find_mem hf
     refine ⟨blkMap l b, len, meetBls_get h2 hm g1, by rw [named_eq h2 hm]; exact g2, fun k cs xs e => ?_⟩
     cases b with
     | row k' cs' xs' => cases e; exact g3 _ _ _ rfl
     | box _ => cases e
     | gone => cases e
 | sub id o n' =>
   cases hf : find l id with
   | none => simp only [cellMap, hf]; trivial
   | some n =>
     simp only [cellMap, hf]
     obtain ⟨b, g1, g2, g3⟩ := h
     have hm := find_mem hf
     refine ⟨blkMap l b, meetBls_get h2 hm g1, by rw [named_eq h2 hm]; exact g2, fun k cs xs e => ?_⟩
     cases b with
     | row k' cs' xs' => cases e; exact g3 _ _ _ rfl
     | box _ => cases e
     | gone => cases e
theorem All2.mapL {α β γ : Type} {R : α → β → Prop} {S : γ → β → Prop} {f : α → γ} {l : List α} {m : List β} (h : All2 R l m) (hf : ∀ a b, R a b → S (f a) b) : All2 S (l.map f) m := by
 induction h with
 | nil => exact .nil
 | cons h _ ih => exact .cons (hf _ _ h) ih
theorem RP.map {l : List (Nat × Nat)} (h2 : apartB (l.map fun x => x.2) = true) {p : Bool × List Cell} {x : Value} (h : RP st.bl μ p x) : RP (blksOf (meetBls st l l)) (named l μ) (p.1, p.2.map (cellMap l)) x := by
 obtain ⟨agg, ys⟩ := p
 cases agg with
 | true => obtain ⟨vs, rfl, h⟩ := h; exact ⟨vs, rfl, h.mapL fun _ _ h => h.map h2⟩
 | false => obtain ⟨y, rfl, h⟩ := h; exact ⟨_, rfl, h.map h2⟩
theorem RL.map {l : List (Nat × Nat)} (h2 : apartB (l.map fun x => x.2) = true) {v : LV} {x : Value} (h : RL st.bl μ v x) : RL (blksOf (meetBls st l l)) (named l μ) (lvMap l v) x := by
 cases v with
 | c y => exact RC.map h2 h
 | agg ys => obtain ⟨vs, rfl, h⟩ := h; exact ⟨vs, rfl, h.mapL fun _ _ h => h.map h2⟩
 | arr cs xs => exact h
 | tup q => obtain ⟨vs, rfl, h⟩ := h; exact ⟨vs, rfl, h.mapL fun _ _ h => h.map h2⟩
theorem wr_map {l : List (Nat × Nat)} {b : Blk} : (Wr (blkMap l b) → Wr b) ∧ (blkMap l b ≠ .gone → b ≠ .gone) := by
 cases b <;> simp [blkMap, Wr]
theorem Inv.rename (h : Inv N W0 M st μ a w) {l : List (Nat × Nat)} (hl : okNames l = true) (tms : List Nat) : Inv N W0 M (mkSt (tms.map fun t => (t, lvMap l (st.tm t))) (meetBls st l l)) (named l μ) a w := by
 simp only [okNames, Bool.and_eq_true, List.all_eq_true] at hl
 obtain ⟨⟨h1, h2⟩, h3⟩ := hl
 refine ⟨fun t => ?_, fun n b hb => ?_, ⟨?_, ?_, ?_⟩, h.since, h.size, h.defers, fun n b hn hb => ?_⟩
 · show RL (blksOf (meetBls st l l)) (named l μ) (look (.c .any) _ t) _
   rcases look_mem (d := LV.c .any) (l := tms.map fun t => (t, lvMap l (st.tm t))) (t := t) with e | e
   · rw [e]; trivial
   · obtain ⟨t', _, e'⟩ := List.mem_map.mp e
     simp only [Prod.mk.injEq] at e'
     obtain ⟨rfl, e'⟩ := e'
     rw [← e']
     exact (h.tm t').map h2
 · obtain ⟨id, c, g1, g2, rfl⟩ := meetBls_mem hb
   have hbr := h.bl id c g2
   have hμ := named_eq h2 g1 μ
   cases c with
   | gone => trivial
   | box ys =>
     obtain ⟨m, cells, t, fr, k1, k2, k3, k4, k5⟩ := hbr
     exact ⟨m, cells, t, fr, by rw [hμ]; exact k1, k2, k3, k4, k5.mapL fun _ _ h => h.map h2⟩
   | row k cs xs =>
     obtain ⟨k1, k2⟩ := hbr
     refine ⟨k1, ?_⟩
     rw [hμ]
     exact k2
 · intro i j c d p q hij hc hd hw hg hp hq
   obtain ⟨i', c', g1, g2, rfl⟩ := meetBls_mem hc
   obtain ⟨j', d', g3, g4, rfl⟩ := meetBls_mem hd
   rw [named_eq h2 g1] at hp
   rw [named_eq h2 g3] at hq
   exact h.ap.two i' j' c' d' p q (fun e => hij (by subst e; exact apart_fst h1 g1 g3)) g2 g4 (wr_map.1 hw) (wr_map.2 hg) hp hq
 · intro i c p hc hw hp
   obtain ⟨i', c', g1, g2, rfl⟩ := meetBls_mem hc
   rw [named_eq h2 g1] at hp
   exact h.ap.new i' c' p g2 (wr_map.1 hw) hp
 · intro i c p hc hw hp
   obtain ⟨i', c', g1, g2, rfl⟩ := meetBls_mem hc
   rw [named_eq h2 g1] at hp
   exact h.ap.old i' c' p g2 (wr_map.2 hw) hp
 · obtain ⟨id, c, g1, g2, rfl⟩ := meetBls_mem hb
   have := h3 _ g1
   simp only [Bool.or_eq_true] at this
   rcases this with e | e
   · have := Nat.le_of_ble_eq_true e
     have := M.lo_le
     omega
   · have e := Nat.eq_of_beq_eq_true e
     subst e
     have hent := h.ent id c hn g2
     refine ⟨by rw [named_eq h2 g1]; exact hent.1, fun k cs xs e => ?_⟩
     cases c with
     | row k' cs' xs' => cases e; exact hent.2 _ _ _ rfl
     | box _ => cases e
     | gone => cases e
theorem meet_sound (h : Inv N W0 M st μ a w) (m : Meet) : ∃ μ', Inv N W0 M (meet m st) μ' a w := by
 obtain ⟨μ1, h1⟩ := nilTms_sound m.tms st μ h
 unfold meet
 simp only
 split
 · rename_i hok
   rw [fTms_eq, fBls_eq]
   have := h1.rename hok (m.tms.map fun t => t.1)
   rw [List.map_map] at this
   exact ⟨_, this⟩
 · exact ⟨_, h.nothing⟩
theorem atMeet_sound (h : Inv N W0 M st μ a w) (H : List (Nat × Meet)) (p : Nat) : ∃ μ', Inv N W0 M (atMeet H p st) μ' a w := by
 unfold atMeet
 split
 · exact meet_sound h _
 · exact ⟨μ, h⟩
end
end Go.Ev
