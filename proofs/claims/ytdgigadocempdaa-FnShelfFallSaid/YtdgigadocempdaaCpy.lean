/- The builtin copy over rows of whatever flat element: a law for the walk. Its conditions: the source has as many elements as the row that is written, at least one. -/
import Derived.Test.YtdgigadocempdaaWMore
import Derived.Laws.CopyOwn
import Derived.Laws.CopyRow
import Derived.Lib.ConvBytes
import Derived.Laws.BytesArg
namespace Go.Proofs.Ytdgigadocempdaa.Cpy
open Go.RowKit Go.Proofs.YtdgigadocempdaaW.PrintWords Go.Proofs.YtdgigadocempdaaW.PrintLast Go.Proofs.YtdgigadocempdaaW.PrintMore
set_option linter.unusedVariables false
set_option linter.unusedSimpArgs false
/-- What a kind's cells say hangs on no memory: they lead to nothing. -/
def Flat {α : Type} (d : Kd α) : Prop := ∀ (w w' : World) (base : Nat) (ok : Nat → Prop) (x : α) (cs : List Value), d.K w x cs → d.M w' base ok x cs

theorem take_snoc' {α : Type} {xs : List α} {m : Nat} {p : α} (h : xs[m]? = some p) : xs.take (m + 1) = xs.take m ++ [p] := by
  rw [List.take_add_one, h]
  rfl

/-- The cells of a row that is read, one behind the other. -/
theorem cells_of_row {α : Type} {d : Kd α} {w : World} {ad : Addr} {xs : List α}
    (h : ∀ j p, xs[j]? = some p → ∃ c, c.length = d.sz ∧ d.K w p c ∧ ∀ i u, c[i]? = some u → w.cell? (ad.add (j * d.sz + i)) = some u) :
    ∀ m, m ≤ xs.length → ∃ cs, Reps (d.K w) d.sz (xs.take m) cs ∧ (∀ j v, cs[j]? = some v → w.cell? (ad.add j) = some v) ∧ ∀ v ∈ cs, v.oneCell' = true := by
  intro m
  induction m with
  | zero => intro _; exact ⟨[], by rw [List.take_zero]; exact Reps.none _ _, by simp, by simp⟩
  | succ m ih =>
    intro hm
    obtain ⟨cs, h1, h2, h3⟩ := ih (by omega)
    have hp : xs[m]? = some xs[m] := List.getElem?_eq_getElem (by omega)
    obtain ⟨c, c1, c2, c3⟩ := h m _ hp
    have hl : cs.length = m * d.sz := by
      have := h1.1
      rw [List.length_take, Nat.min_eq_left (by omega)] at this
      exact this
    refine ⟨cs ++ c, ?_, fun j v hv => ?_, fun v hv => ?_⟩
    · rw [take_snoc' hp]
      exact Reps.snoc h1 c2 c1
    · rcases Nat.lt_or_ge j cs.length with hj | hj
      · rw [List.getElem?_append_left hj] at hv
        exact h2 j v hv
      · rw [List.getElem?_append_right hj] at hv
        have := c3 _ v hv
        rwa [show m * d.sz + (j - cs.length) = j from by omega] at this
    · rcases List.mem_append.1 hv with hv | hv
      · exact h3 v hv
      · exact d.K_one c2 v hv

/-- The builtin copy over cells, whatever an element's size: from a row's head. -/
theorem run_copy_cells {P : Program} (w : World) (dT sT ty elem : TypeId) (g dLen dCap : Nat) (ad : Addr) (sLen sCap : Nat) (cur : Array Value) (t : TypeId) (cs : List Value) {i : TypeInfo}
    (hu : P.underlying dT = some (.slice elem)) (hi : P.info? elem = some i)
    (hg : w.heap[g]? = some (.cells cur t (0, 0))) (hn : cs.length = Nat.min sLen dLen * i.size)
    (hsrc : ∀ j v, cs[j]? = some v → w.cell? (ad.add j) = some v) (hfit : cs.length ≤ cur.size) (h1 : ∀ v ∈ cs, v.oneCell' = true) :
    (Builtin.copy_ #[dT, sT] ty #[.slice (some ⟨g, 0, none⟩) dLen dCap, .slice (some ad) sLen sCap]).run P w =
      .ok (goInt (Nat.min sLen dLen)) (w.setRow g (cs ++ cur.toList.drop cs.length).toArray) := by
  have hl := run_loadCells_list (P := P) w ad cs hsrc
  have hst := run_storeCells_at P g 0 t cs 0 cur w hg (by simpa using hfit) h1
  simp only [Nat.zero_add, List.take_zero, List.nil_append] at hst
  rw [hn] at hl
  simp [Builtin.copy_, run_underlying hu, Builtin.lenOf, Builtin.firstCells, sizeOf, typeInfo, hi, hl, hst]

section
variable {α : Type} {P : Program} {ops : Array Oper} {rest : List Oper} {o : Oper} {a : Act} {Q : Exit → Act → World → Prop}
/-- copy(v, s): v a row of the call's own, s a row of as many elements that is read. -/
theorem R_copy (d : Kd α) (hf : Flat d) {w0 W : World} (base e : Nat) (hgd : o.guard = none) (x s : Operand) (dT sT : TypeId)
    (ho : o.op = .call { callee := .builtin .copy, args := #[x, s], argTypes := #[dT, sT] }) (hu : P.underlying dT = some (.slice e)) (hsz : (P.info? e).map (·.size) = some d.sz)
    {v : Value} {ys xs : List α} {A : Option Addr} {n c : Nat} {ok : Nat → Prop} (hx : a.eval x = v) (hs : a.eval s = .slice A n c)
    (HO : Kd.R d e W base ok v ys) (hC : Kd.C d W A n xs) (hl : ys.length = n) (hn : 0 < n) (HB : Below base w0 W)
    (h : ∀ w1, Kd.R d e w1 base ok v xs → Below base w0 w1 → wpList P ops Q rest (a.put o.dst (goInt n)) w1) : wpList P ops Q (o :: rest) a W := by
  obtain ⟨hok, inner, hown, hreps⟩ := HO
  obtain ⟨hxl, hnm, hcell0⟩ := hC
  obtain ⟨ad, rfl, hcell⟩ := hcell0 hn
  obtain ⟨cs, r1, r2, r3⟩ := cells_of_row (d := d) hcell xs.length (Nat.le_refl _)
  rw [List.take_length] at r1
  obtain ⟨i, hi, hsi⟩ := Option.map_eq_some_iff.1 hsz
  rcases hown.2 with ⟨rfl, h0⟩ | ⟨g, cap, cur, rfl, hb, hh, hnc, hcm, hcs, htk⟩
  · omega
  · have hcl : cs.length = n * d.sz := by rw [r1.1, hxl]
    have hfit : cs.length ≤ cur.size := by rw [hcl, hcs]; exact Nat.mul_le_mul_right _ (by omega)
    have hrun := run_copy_cells (P := P) W dT sT o.type e g ys.length cap ad n c cur e cs hu hi hh (by rw [hcl, hsi, hl, show Nat.min n n = n from Nat.min_self n]) r2 hfit r3
    rw [hl, show Nat.min n n = n from Nat.min_self n] at hrun
    refine wpList_plain hgd fun K hK => ?_
    unfold Oper.wp execOp
    rw [hl] at hx
    simp only [ho, resolve, invoke, builtin, Sem.run_bind, Sem.run_pure, Result.andThen_ok, List.map_toArray, List.map_cons, List.map_nil, hx, hs, hrun]
    refine hK _ _ (h _ ⟨hok, cs, ⟨by rw [hcl, hxl], .inr ⟨g, cap, _, by rw [hxl, hl], hb, setRow_heap W g cur _ e _ hh, by omega, hcm, ?_, ?_⟩⟩, ?_⟩ (below_setRow HB hb _))
    · simp; omega
    · rw [hxl, ← hcl]; simp
    · exact r1.imp_ (fun p q hp => hf _ _ _ _ _ _ hp)
end
theorem flat_scalar {α : Type} (enc : α → Value) (h1 : ∀ x, (enc x).oneCell' = true) : Flat (Kd.scalar enc h1) := fun _ _ _ _ _ _ h => h
theorem flat_int (k : IntKind) : Flat (Kd.int k) := fun _ _ _ _ _ _ h => h
theorem flat_string : Flat Kd.string := fun _ _ _ _ _ _ h => h
theorem flat_bool : Flat Kd.bool := fun _ _ _ _ _ _ h => h
theorem flat_pair {α β : Type} {a : Kd α} {b : Kd β} (ha : Flat a) (hb : Flat b) : Flat (Kd.pair a b) := by
  rintro w w' base ok x cs ⟨c0, c1, rfl, h0, h1⟩
  exact ⟨c0, c1, rfl, ha _ _ _ _ _ _ h0, hb _ _ _ _ _ _ h1⟩
theorem flat_iso {α β : Type} {d : Kd α} (h : Flat d) (f : β → α) : Flat (Kd.iso d f) := fun w w' base ok x cs hk => h w w' base ok (f x) cs hk
theorem grownBy_setRow (W : World) (g : Nat) (cs : Array Value) : W.grownBy (W.setRow g cs) (some g) :=
  ⟨rfl, rfl, rfl, by simp, fun i _ hne => setRow_other W g i cs (fun e => hne (by rw [e]))⟩
/-- What a row of bytes holds behind the copy of a string into it. -/
def copyS (l : List Int) (s : ByteArray) : List Int := (bytesOf s).take l.length ++ l.drop s.size
theorem copyS_length (l : List Int) (s : ByteArray) : (copyS l s).length = l.length := by
  unfold copyS
  rw [List.length_append, List.length_take, List.length_drop, bytesOf_length]
  omega
section
variable {P : Program} {ops : Array Oper} {rest : List Oper} {o : Oper} {a : Act} {Q : Exit → Act → World → Prop}
/-- copy(v, s): v a row of bytes of the call's own, s a string. -/
theorem R_copy_str {w0 W : World} (base e : Nat) (hgd : o.guard = none) (x s : Operand) (dT sT : TypeId)
    (ho : o.op = .call { callee := .builtin .copy, args := #[x, s], argTypes := #[dT, sT] }) (hu : P.underlying dT = some (.slice e)) (hsz : (P.info? e).map (·.size) = some 1)
    {v : Value} {ys : List Int} {S : ByteArray} {ok : Nat → Prop} (hx : a.eval x = v) (hs : a.eval s = .string S)
    (HO : Kd.R (Kd.int .u8) e W base ok v ys) (HB : Below base w0 W)
    (h : ∀ w1, Kd.R (Kd.int .u8) e w1 base ok v (copyS ys S) → Below base w0 w1 → W.grownBy w1 v.ownBlock → wpList P ops Q rest (a.put o.dst (goInt (Nat.min S.size ys.length))) w1) : wpList P ops Q (o :: rest) a W := by
  obtain ⟨hok, inner, hown, hreps⟩ := HO
  obtain ⟨i, hi, hsi⟩ := Option.map_eq_some_iff.1 hsz
  have hinner : inner = nums .u8 ys := by
    apply List.ext_getElem?
    intro j
    rcases Nat.lt_or_ge j ys.length with hj | hj
    · have h1 := hreps.2 j ys[j] (List.getElem?_eq_getElem hj)
      have h2 : (inner.drop j).take 1 = [Value.int .u8 ys[j]] := by simpa [Kd.int, Kd.scalar] using h1
      have h3 := congrArg (fun l : List Value => l[0]?) h2
      simp only [List.getElem?_take, List.getElem?_drop, List.getElem?_cons_zero] at h3
      simp [nums, List.getElem?_eq_getElem hj]
      simpa using h3
    · have h1 : inner.length = ys.length := by have := hreps.1; simpa [Kd.int, Kd.scalar] using this
      rw [List.getElem?_eq_none (by omega), List.getElem?_eq_none (by simp [nums]; omega)]
  have hcells : ∀ m : Nat, ((S.extract 0 m).data.map fun b => Value.int .u8 b.toNat).toList = (nums .u8 (bytesOf S)).take m := by
    intro m
    simp [nums, bytesOf, ByteArray.data_extract, List.map_take]
    rfl
  have hl2 : (nums .u8 (bytesOf S)).length = S.size := by simp [nums, bytesOf_length]
  rcases hown.2 with ⟨rfl, h0⟩ | ⟨g, cap, cur, rfl, hb, hh, hnc, hcm, hcs, htk⟩
  · have hy : ys = [] := List.eq_nil_of_length_eq_zero h0
    subst hy
    have hrun : (Builtin.copy_ #[dT, sT] o.type #[.slice none 0 0, .string S]).run P W = .ok (goInt (Nat.min S.size 0)) W := by
      simp [Builtin.copy_, run_underlying hu, Builtin.lenOf, Builtin.firstCells, sizeOf, typeInfo, hi]
    refine wpList_plain hgd fun K hK => ?_
    unfold Oper.wp execOp
    simp only [ho, resolve, invoke, builtin, Sem.run_bind, Sem.run_pure, Result.andThen_ok, List.map_toArray, List.map_cons, List.map_nil, hx, hs, hrun]
    have hc : copyS [] S = [] := by simp [copyS]
    refine hK _ _ (h W ?_ HB (World.grownBy.refl W _))
    rw [hc]
    exact Kd.R_nil _ _ _ _ _
  · have hcl : ((nums .u8 (bytesOf S)).take (Nat.min S.size ys.length)).length = Nat.min S.size ys.length := by
      rw [List.length_take, hl2]
      exact Nat.min_eq_left (Nat.min_le_left _ _)
    have hm : Nat.min S.size ys.length ≤ ys.length := Nat.min_le_right _ _
    have hfit : ((nums .u8 (bytesOf S)).take (Nat.min S.size ys.length)).length ≤ cur.size := by
      rw [hcl, hcs]
      simp only [Kd.int, Kd.scalar] at hcs ⊢
      omega
    have hst := run_storeCells_at P g 0 e ((nums .u8 (bytesOf S)).take (Nat.min S.size ys.length)) 0 cur W hh (by simpa using hfit) (by
      intro u hu'
      have := List.mem_of_mem_take hu'
      simp only [nums, List.mem_map] at this
      obtain ⟨q, _, rfl⟩ := this
      rfl)
    simp only [Nat.zero_add, List.take_zero, List.nil_append] at hst
    have hrun : (Builtin.copy_ #[dT, sT] o.type #[.slice (some ⟨g, 0, none⟩) ys.length cap, .string S]).run P W = .ok (goInt (Nat.min S.size ys.length)) (W.setRow g ((nums .u8 (bytesOf S)).take (Nat.min S.size ys.length) ++ cur.toList.drop ((nums .u8 (bytesOf S)).take (Nat.min S.size ys.length)).length).toArray) := by
      have hraw : (S.data.toList.map fun b => Value.int .u8 b.toNat) = nums .u8 (bytesOf S) := by simp [nums, bytesOf]
      have hdl : min S.size (min ys.length (nums .u8 (bytesOf S)).length) = ((nums .u8 (bytesOf S)).take (Nat.min S.size ys.length)).length := by
        rw [hcl, hl2, show Nat.min S.size ys.length = min S.size ys.length from rfl]
        omega
      simp [Builtin.copy_, run_underlying hu, Builtin.lenOf, sizeOf, typeInfo, hi, Builtin.firstCells]
      rw [hraw, hdl, hst]
      rfl
    refine wpList_plain hgd fun K hK => ?_
    unfold Oper.wp execOp
    simp only [ho, resolve, invoke, builtin, Sem.run_bind, Sem.run_pure, Result.andThen_ok, List.map_toArray, List.map_cons, List.map_nil, hx, hs, hrun]
    have hnew : (nums .u8 (bytesOf S)).take (Nat.min S.size ys.length) ++ (nums .u8 ys).drop (Nat.min S.size ys.length) = nums .u8 (copyS ys S) := by
      simp only [copyS, nums, List.map_append, List.map_take, List.map_drop]
      have e1 : ((bytesOf S).map fun x => Value.int .u8 x).take (Nat.min S.size ys.length) = ((bytesOf S).map fun x => Value.int .u8 x).take ys.length := by
        rw [List.take_eq_take_iff]
        simp [bytesOf_length]
        have : Nat.min S.size ys.length = min S.size ys.length := rfl
        omega
      have e2 : (ys.map fun x => Value.int .u8 x).drop (Nat.min S.size ys.length) = (ys.map fun x => Value.int .u8 x).drop S.size := by
        have : Nat.min S.size ys.length = min S.size ys.length := rfl
        rcases Nat.lt_or_ge S.size ys.length with hlt | hge
        · rw [this, Nat.min_eq_left (by omega)]
        · rw [this, Nat.min_eq_right hge, List.drop_eq_nil_of_le (by simp), List.drop_eq_nil_of_le (by simpa using hge)]
      rw [e1, e2]
    have htake : cur.toList.take ys.length = nums .u8 ys := by
      rw [← hinner]
      simpa [Kd.int, Kd.scalar] using htk
    have hlen : (nums .u8 (copyS ys S)).length = ys.length := by simp [nums, copyS_length]
    have hcur : cur.size = cap := by simpa [Kd.int, Kd.scalar] using hcs
    refine hK _ _ (h _ ⟨hok, nums .u8 (copyS ys S), ⟨?_, .inr ⟨g, cap, _, by rw [copyS_length], hb, setRow_heap W g cur _ e _ hh, by rw [copyS_length]; exact hnc, hcm, ?_, ?_⟩⟩, ?_⟩ (below_setRow HB hb _) (grownBy_setRow W g _))
    · simp [nums, copyS_length, Kd.int, Kd.scalar]
    · rw [hcl]
      have : Nat.min S.size ys.length = min S.size ys.length := rfl
      simp [hl2, hcur, Kd.int, Kd.scalar]
      omega
    · rw [hcl, copyS_length]
      simp only [Kd.int, Kd.scalar, Nat.mul_one]
      rw [← hnew, ← htake]
      rw [List.take_append, hcl]
      rw [List.take_of_length_le (by rw [hcl]; exact hm)]
      congr 1
      rw [List.drop_take]
    · refine ⟨by simp [nums, Kd.int, Kd.scalar], fun j p hp => ?_⟩
      have hj := (List.getElem?_eq_some_iff.1 hp).1
      show (List.take 1 (List.drop (j * 1) (nums .u8 (copyS ys S)))) = [Value.int .u8 p]
      rw [Nat.mul_one]
      have h1 : (nums .u8 (copyS ys S))[j]? = some (Value.int .u8 p) := by simp [nums, hp]
      have h2 : j < (nums .u8 (copyS ys S)).length := by simpa [nums] using hj
      rw [List.drop_eq_getElem_cons h2]
      have h3 : (nums .u8 (copyS ys S))[j] = Value.int .u8 p := by
        rw [List.getElem?_eq_getElem h2] at h1
        exact Option.some.inj h1
      rw [h3]
      rfl
end
/-- A block of bytes that a conversion has made: its first n cells. -/
def Bytes (e : Nat) (w : World) (g n : Nat) (l : List Int) : Prop :=
  ∃ cs m, w.heap[g]? = some (.cells cs e (m, m + 1)) ∧ n ≤ m ∧ cs.size = m ∧ l.length = n ∧ ∀ j, j < n → cs[j]? = some (.int .u8 (l.getD j 0))
theorem Bytes.made (w : World) (e : Nat) (s : ByteArray) : Bytes e (Lib.bytesWorld w e s) w.heap.size s.size (bytesOf s) := by
  refine ⟨_, _, Lib.bytesWorld_at_new w e s, ?_, rfl, bytesOf_length s, fun j hj => ?_⟩
  · simp [Lib.bytesCells]
  · have hc := Lib.bytesWorld_cell w e s j hj
    simp only [World.cell?, Lib.bytesWorld_at_new] at hc
    rw [show (bytesOf s).getD j 0 = ((s.data.toList.getD j 0).toNat : Int) from ?_]
    · simpa using hc
    · have h' : j < s.data.toList.length := by rw [data_length]; exact hj
      simp [bytesOf, List.getD_eq_getElem?_getD, List.getElem?_eq_getElem h']
theorem Bytes.cell {e : Nat} {w : World} {g n : Nat} {l : List Int} (h : Bytes e w g n l) (j : Nat) (hj : j < n) : w.cell? ⟨g, j, none⟩ = some (.int .u8 (l.getD j 0)) := by
  obtain ⟨cs, m, hb, _, _, _, hc⟩ := h
  simp [World.cell?, hb, hc j hj]
theorem Bytes.frozen {e : Nat} {w : World} {g n : Nat} {l : List Int} (h : Bytes e w g n l) (j : Nat) (hj : j < n) : w.frozen? ⟨g, j, none⟩ = false := by
  obtain ⟨cs, m, hb, hm, _⟩ := h
  simp [World.frozen?, hb]
  omega
theorem Bytes.set {e : Nat} {w : World} {g n : Nat} {l : List Int} (h : Bytes e w g n l) (j : Nat) (x : Int) : Bytes e (w.setCell ⟨g, j, none⟩ (.int .u8 x)) g n (l.set j x) := by
  obtain ⟨cs, m, hb, hm, hs, hl, hc⟩ := h
  refine ⟨cs.setIfInBounds j (.int .u8 x), m, by simp [World.setCell, Array.getElem?_modify, hb], hm, by simpa using hs, by simpa using hl, fun i hi => ?_⟩
  by_cases hij : j = i
  · subst hij
    simp [List.getD_eq_getElem?_getD, List.getElem?_set, hl, hi, Array.getElem?_setIfInBounds]
    omega
  · simp [List.getD_eq_getElem?_getD, List.getElem?_set, hij, Array.getElem?_setIfInBounds]
    simpa [List.getD_eq_getElem?_getD] using hc i hi
theorem Bytes.drew {e : Nat} {w : World} {g n : Nat} {l : List Int} (h : Bytes e w g n l) (k : Nat) : Bytes e (w.drewN k) g n l := h
theorem Bytes.string {P : Program} {src dst e : TypeId} (hs : P.underlying src = some (.slice e)) (he : P.underlying e = some (.int .u8)) (hd : P.underlying dst = some .string)
    {w : World} {g n c : Nat} {l : List Int} (h : Bytes e w g n l) : (convert src dst (.slice (some ⟨g, 0, none⟩) n c)).run P w = .ok (.string (strOfNums l)) w := by
  have hl : l.length = n := by obtain ⟨_, _, _, _, _, hl, _⟩ := h; exact hl
  refine run_convert_bytes_arg w src e hs he g 0 n c l hl (fun i hi => ?_) dst hd
  rw [Nat.zero_add]
  exact h.cell i hi
/-- The exclusive or of two texts, byte by byte: the first k bytes. -/
def xorK (a b : ByteArray) (k : Nat) : List Int := (List.range a.size).map fun j => if j < k then Go.bits .xor .u8 (bt a (j : Nat)) (bt b (j : Nat)) else bt a (j : Nat)
theorem xorK_zero (a b : ByteArray) : xorK a b 0 = bytesOf a := by
  apply List.ext_getElem?
  intro j
  rcases Nat.lt_or_ge j a.size with hj | hj
  · have h' : j < a.data.toList.length := by rw [data_length]; exact hj
    have h'' : j < a.data.size := hj
    simp [xorK, bytesOf, hj, h'', bt]
    rfl
  · have h' : (bytesOf a).length ≤ j := by rw [bytesOf_length]; exact hj
    rw [List.getElem?_eq_none h', List.getElem?_eq_none (by simp [xorK]; exact hj)]
theorem xorK_succ (a b : ByteArray) (k : Nat) (hk : k < a.size) : (xorK a b k).set k (Go.bits .xor .u8 (bt a (k : Nat)) (bt b (k : Nat))) = xorK a b (k + 1) := by
  apply List.ext_getElem?
  intro j
  rcases Nat.lt_or_ge j a.size with hj | hj
  · by_cases hjk : k = j
    · subst hjk
      simp [xorK, hj, List.getElem?_set]
    · simp [xorK, hj, List.getElem?_set, hjk]
      by_cases h1 : j < k
      · simp [h1, show j < k + 1 from by omega]
      · simp [h1, show ¬ j < k + 1 from by omega]
  · rw [List.getElem?_eq_none (by simp [xorK]; exact hj), List.getElem?_eq_none (by simp [xorK]; exact hj)]
theorem xorK_get (a b : ByteArray) (k : Nat) (hk : k < a.size) : (xorK a b k).getD k 0 = bt a (k : Nat) := by
  simp [xorK, List.getD_eq_getElem?_getD, hk]
end Go.Proofs.Ytdgigadocempdaa.Cpy
