/-
  Lists of values in memory: what a slice reads as; what the call itself made; append from whatever source; copy.
-/
import Derived.WalkKit
import Derived.Laws.CopyOwn
import Derived.Laws.AppendOwnNone
import Derived.WalkSmall
namespace Go.Proofs.Ytbcpdjhpceimlaa
open Go Go.RowKit

/-- A goal behind a name: the walk stops there. -/
def Stopped (p : Prop) : Prop := p
theorem halt_here {p : Prop} (h : Stopped p) : p := h
theorem go_on {p : Prop} (h : p) : Stopped p := h

/-- The cells from an address on read as the list. -/
def CellsAt (w : World) (a : Option Addr) (xs : List Value) : Prop :=
  xs = [] ∨ ∃ b off, a = some ⟨b, off, none⟩ ∧ ∀ j u, xs[j]? = some u → w.cell? ⟨b, off + j, none⟩ = some u

/-- A slice value of n elements, whose cells read as xs. -/
def Rd (w : World) (v : Value) (n : Nat) (xs : List Value) : Prop := ∃ a cap, v = .slice a n cap ∧ CellsAt w a xs

theorem CellsAt.nil (w : World) (a : Option Addr) : CellsAt w a [] := .inl rfl

theorem CellsAt.ext {w w' : World} {a : Option Addr} {xs : List Value} (h : CellsAt w a xs) (hw : ∀ p u, w.cell? p = some u → w'.cell? p = some u) : CellsAt w' a xs := by
  rcases h with rfl | ⟨b, off, rfl, hc⟩
  · exact .inl rfl
  · exact .inr ⟨b, off, rfl, fun j u hj => hw _ _ (hc j u hj)⟩

theorem ext_of_below {w w' : World} (h : Below w.heap.size w w') : ∀ p u, w.cell? p = some u → w'.cell? p = some u := by
  intro p u hp
  rw [h.cell (World.block_lt_of_cell? w p hp)]
  exact hp

theorem CellsAt.below {w w' : World} {a : Option Addr} {xs : List Value} (h : CellsAt w a xs) (hw : Below w.heap.size w w') : CellsAt w' a xs := h.ext (ext_of_below hw)

theorem Rd.ext {w w' : World} {v : Value} {n : Nat} {xs : List Value} (h : Rd w v n xs) (hw : ∀ p u, w.cell? p = some u → w'.cell? p = some u) : Rd w' v n xs := by
  obtain ⟨a, cap, rfl, hc⟩ := h
  exact ⟨a, cap, rfl, hc.ext hw⟩

theorem Rd.below {w w' : World} {v : Value} {n : Nat} {xs : List Value} (h : Rd w v n xs) (hw : Below w.heap.size w w') : Rd w' v n xs := h.ext (ext_of_below hw)

theorem CellsAt.take {w : World} {a : Option Addr} {xs : List Value} (h : CellsAt w a xs) (k : Nat) : CellsAt w a (xs.take k) := by
  rcases h with rfl | ⟨b, off, rfl, hc⟩
  · exact .inl (by simp)
  · refine .inr ⟨b, off, rfl, fun j u hj => hc j u ?_⟩
    rw [List.getElem?_take] at hj
    split at hj
    · exact hj
    · cases hj

theorem CellsAt.pos {w : World} {a : Option Addr} {xs : List Value} (h : CellsAt w a xs) (hp : 0 < xs.length) : ∃ b off, a = some ⟨b, off, none⟩ ∧ ∀ j u, xs[j]? = some u → w.cell? ⟨b, off + j, none⟩ = some u := by
  rcases h with rfl | h
  · cases hp
  · exact h

theorem ownsRow_rd {w : World} {base : Nat} {e : TypeId} {size : Nat} {v : Value} {n : Nat} {xs : List Value} (h : w.ownsRow base e size v n xs) : Rd w v n xs := by
  have h0 := h
  rcases h.2 with ⟨rfl, rfl⟩ | ⟨g, cap, cur, rfl, hb, hg, h1, h2, h3, h4⟩
  · refine ⟨none, 0, rfl, .inl ?_⟩
    have := h.1
    simpa using this
  · refine ⟨_, _, rfl, .inr ⟨g, 0, rfl, fun j u hj => ?_⟩⟩
    have hl : j < n * size := by
      rw [← h.1]
      exact (List.getElem?_eq_some_iff.1 hj).1
    have := h0.cellAt j hl
    rw [Nat.zero_add, this]
    exact hj

/-- Of what came in as a slice of numbers. -/
theorem rd_of_cells {w : World} {k : IntKind} {x : Addr} {len cap : Nat} {zs : List Int} (hl : len ≤ cap) (hz : zs.length = cap) (hc : ∀ i, i < zs.length → w.cell? (x.add i) = some (.int k (zs.getD i 0))) :
    Rd w (.slice (some x) len cap) len ((zs.take len).map (Value.int k)) := by
  refine ⟨_, _, rfl, ?_⟩
  by_cases h0 : len = 0
  · exact .inl (by simp [h0])
  · obtain ⟨b, off, spot⟩ := x
    have h00 := hc 0 (by omega)
    have hspot : spot = none := by simpa [Addr.add] using World.cell?_spot h00
    subst hspot
    refine .inr ⟨b, off, rfl, fun j u hj => ?_⟩
    rw [List.getElem?_map, List.getElem?_take] at hj
    split at hj
    · rename_i hjl
      have hjz : j < zs.length := by omega
      have h1 := hc j hjz
      have e1 : (⟨b, off, none⟩ : Addr).add j = ⟨b, off + j, none⟩ := by unfold Addr.add; split <;> simp_all
      rw [e1] at h1
      rw [h1]
      simp only [List.getElem?_eq_getElem hjz, Option.map_some, Option.some.injEq] at hj
      rw [← hj]
      simp [List.getElem?_eq_getElem hjz]
    · cases hj

/-- What the shells tell of a slice of integers that came in. -/
theorem isRow_cells {k : IntKind} {w : World} {a : Option Addr} {len cap : Nat} {zs : List Int}
    (h : (a = none ∧ len = 0 ∧ cap = 0 ∧ zs = []) ∨
      ∃ x, a = some x ∧ len ≤ cap ∧ cap ≤ maxLen ∧ zs.length = cap ∧ (∀ i, i < zs.length → w.cell? (x.add i) = some (.int k (zs.getD i 0))) ∧ ∀ n ∈ zs, (Lit.int k n).wf = true) :
    CellsAt w a ((zs.take len).map (Value.int k)) ∧ (a = none → len = 0 ∧ cap = 0) ∧ (zs.take len).length = len := by
  rcases h with ⟨rfl, rfl, rfl, rfl⟩ | ⟨x, rfl, hl, _, hz, hc, _⟩
  · exact ⟨.inl rfl, fun _ => ⟨rfl, rfl⟩, rfl⟩
  · obtain ⟨_, _, hv, h⟩ := rd_of_cells (k := k) hl hz hc
    cases hv
    exact ⟨h, (fun h => by cases h), by simp; omega⟩

theorem isRow_wf {k : IntKind} {w : World} {a : Option Addr} {len cap : Nat} {zs : List Int}
    (h : (a = none ∧ len = 0 ∧ cap = 0 ∧ zs = []) ∨
      ∃ x, a = some x ∧ len ≤ cap ∧ cap ≤ maxLen ∧ zs.length = cap ∧ (∀ i, i < zs.length → w.cell? (x.add i) = some (.int k (zs.getD i 0))) ∧ ∀ n ∈ zs, (Lit.int k n).wf = true) :
    len ≤ cap ∧ ∀ n ∈ zs.take len, (Lit.int k n).wf = true := by
  rcases h with ⟨rfl, rfl, rfl, rfl⟩ | ⟨x, rfl, hl, _, hz, hc, hw⟩
  · exact ⟨Nat.le_refl _, fun n hn => by simp at hn⟩
  · exact ⟨hl, fun n hn => hw n (List.mem_of_mem_take hn)⟩

/-- A literal slice that the call laid. -/
theorem rd_lit (w : World) (k : IntKind) (e : TypeId) (xs : List Int) : CellsAt (w.alloc (.cells (xs.map (Value.int k)).toArray e)) (some ⟨w.heap.size, 0, none⟩) (xs.map (Value.int k)) := by
  by_cases h : xs = []
  · subst h; exact .inl rfl
  · refine .inr ⟨w.heap.size, 0, rfl, fun j u hj => ?_⟩
    rw [cell_of_row (w.alloc _) w.heap.size (0 + j) _ e (0, 0) (heap_alloc_new w _), Nat.zero_add]
    simpa using hj

theorem cells_one (w : World) (u : Value) (e : TypeId) : CellsAt (w.alloc (.cells #[u] e)) (some ⟨w.heap.size, 0, none⟩) [u] := by
  refine .inr ⟨w.heap.size, 0, rfl, fun j v hj => ?_⟩
  rw [cell_of_row (w.alloc _) w.heap.size (0 + j) _ e (0, 0) (heap_alloc_new w _), Nat.zero_add]
  simpa using hj

theorem size_alloc_le (w : World) (o : Obj) {n : Nat} (h : n ≤ w.heap.size) : n ≤ (w.alloc o).heap.size := Nat.le_trans h (by simp)

theorem one_of {u : Value} (h : u.oneCell' = true) : ∀ z ∈ [u], z.oneCell' = true := by
  intro z hz
  simp at hz
  subst hz
  exact h

theorem ownsRow_base {w : World} {B base e size n : Nat} {v : Value} {xs : List Value} (h : w.ownsRow base e size v n xs) (hb : B ≤ base) : w.ownsRow B e size v n xs := by
  refine ⟨h.1, ?_⟩
  rcases h.2 with h | ⟨g, cap, cur, h1, h2, h3⟩
  · exact .inl h
  · exact .inr ⟨g, cap, cur, h1, Nat.le_trans hb h2, h3⟩

theorem drew_own {w : World} {base e size n : Nat} {v : Value} {xs : List Value} (h : Hid (w.ownsRow base e size v n xs)) : Hid (w.drew.ownsRow base e size v n xs) :=
  h.out.kept (row := none) ⟨rfl, rfl, rfl, Nat.le_refl _, fun _ _ _ => rfl⟩ (by cases v.ownBlock <;> simp)

/-! ### what the call itself made -/
theorem own_below {B : Nat} {w0 w w' : World} {row : Option Nat} (hb : Below B w0 w) (hB : B ≤ w.heap.size) (hg : w.grownBy w' row) (hr : ∀ k, row = some k → B ≤ k) : Below B w0 w' := hb.grown hg hB hr

theorem grown_below {w w' : World} (hg : w.grownBy w' none) : Below w.heap.size w w' := (Below.refl _ _).grown hg (Nat.le_refl _) (fun _ h => by cases h)

theorem ext_of_grown {w w' : World} {row : Option Nat} (hg : w.grownBy w' row) : ∀ p u, some p.block ≠ row → w.cell? p = some u → w'.cell? p = some u := by
  intro p u hne hp
  rw [World.cell?_of_block (hg.block p.block (World.block_lt_of_cell? w p hp) hne)]
  exact hp

/-! ### a block known whole -/
theorem blk_lt {w : World} {b : Nat} {o : Obj} (h : w.heap[b]? = some o) : b < w.heap.size := lt_of_block h
theorem blk_cell {w : World} {b : Nat} {cs : Array Value} {t : TypeId} (h : w.heap[b]? = some (.cells cs t (0, 0))) (off : Nat) : w.cell? ⟨b, off, none⟩ = cs[off]? := by simp [World.cell?, h]
theorem blk_free {w : World} {b : Nat} {cs : Array Value} {t : TypeId} (h : w.heap[b]? = some (.cells cs t (0, 0))) (off : Nat) : w.frozen? ⟨b, off, none⟩ = false := by simp [World.frozen?, h]
theorem blk_setCell {w : World} {b : Nat} {cs : Array Value} {t : TypeId} (h : w.heap[b]? = some (.cells cs t (0, 0))) (off : Nat) (u : Value) :
    (w.setCell ⟨b, off, none⟩ u).heap[b]? = some (.cells (cs.setIfInBounds off u) t (0, 0)) := by
  have hlt := lt_of_block h
  have h' : w.heap[b] = .cells cs t (0, 0) := by simpa [Array.getElem?_eq_getElem hlt] using h
  show (w.heap.modify b _)[b]? = _
  rw [Array.getElem?_eq_getElem (by simpa using hlt), Array.getElem_modify_self, h']
  rfl

section
variable {P : Program}

/-- 'append(s, x...)', s nil or the call's own, x whatever. -/
theorem run_append_rd {w : World} (base : Nat) (t ty e : TypeId) (i : TypeInfo) (z : Value) (size bytes : Nat) (ht : P.underlying t = some (.slice e)) (hi : P.info? e = some i) (hz : i.zero = some z)
    (hsize : i.size = size) (hby : i.bytes = bytes) (hzs : z.cells.size = size) (hsz : 0 < size)
    (v : Value) (n : Nat) (xs : List Value) (hown : w.ownsRow base e size v n xs)
    (x : Value) (m : Nat) (news : List Value) (hx : Rd w x m news) (hnil : ∀ cap, x = .slice none m cap → cap = 0) (hl : news.length = m * size) (h1 : ∀ u ∈ news, u.oneCell' = true)
    (h63 : n + m ≤ maxLen) (hbytes : (n + m) * bytes ≤ 140737488355328) (hbase : base ≤ w.heap.size) :
    ∃ v' w', (Builtin.append_ #[t, t] ty #[v, x]).run P w = .ok v' w' ∧ w'.ownsRow base e size v' (n + m) (xs ++ news) ∧ w.grownBy w' v.ownBlock := by
  obtain ⟨a, cap, rfl, hc⟩ := hx
  have hm0 : news = [] → m = 0 := fun h => by
    subst h
    simp only [List.length_nil] at hl
    rcases Nat.eq_zero_or_pos m with h | h
    · exact h
    · have := Nat.mul_pos h hsz; omega
  cases a with
  | none =>
    have hn : news = [] := by
      rcases hc with h | ⟨b, off, h, _⟩
      · exact h
      · cases h
    have hm := hm0 hn
    subst hm
    have := hnil cap rfl
    subst this hn
    refine ⟨v, w, run_append_owned_none (P := P) (w := w) base t ty e i size ht hi v n xs hown, ?_, ⟨rfl, rfl, rfl, Nat.le_refl _, fun _ _ _ => rfl⟩⟩
    simpa using hown
  | some ad =>
    have hcell : ∀ j u, news[j]? = some u → w.cell? (ad.add j) = some u := by
      rcases hc with h | ⟨b, off, h, hc⟩
      · subst h; intro j u hj; simp at hj
      · cases h
        intro j u hj
        have e1 : (⟨b, off, none⟩ : Addr).add j = ⟨b, off + j, none⟩ := by unfold Addr.add; split <;> simp_all
        rw [e1]
        exact hc j u hj
    obtain ⟨v', w', r1, r2, r3, _⟩ := run_append_own (P := P) (w := w) base t ty e i z size bytes ht hi hz hsize hby hzs hsz v n xs hown ad m cap news hl hcell h1 h63 hbytes hbase
    exact ⟨v', w', r1, r2, r3⟩

/-- The operation, by its run. -/
theorem wp_append {w : World} {o : Oper} {a : Act} {K : Act → World → Prop} {Q : Exit → Act → World → Prop} (s x : Operand) (t : TypeId)
    (hop : o.op = .call { callee := .builtin .append, args := #[s, x], argTypes := #[t, t] })
    (base : Nat) (e : TypeId) (i : TypeInfo) (z : Value) (size bytes : Nat) (ht : P.underlying t = some (.slice e)) (hi : P.info? e = some i) (hz : i.zero = some z)
    (hsize : i.size = size) (hby : i.bytes = bytes) (hzs : z.cells.size = size) (hsz : 0 < size)
    (v : Value) (n : Nat) (xs : List Value) (hs : a.eval s = v) (hown : w.ownsRow base e size v n xs)
    (vx : Value) (m : Nat) (news : List Value) (hvx : a.eval x = vx) (hx : Rd w vx m news) (hnil : ∀ cap, vx = .slice none m cap → cap = 0) (hl : news.length = m * size) (h1 : ∀ u ∈ news, u.oneCell' = true)
    (h63 : n + m ≤ maxLen) (hbytes : (n + m) * bytes ≤ 140737488355328) (hbase : base ≤ w.heap.size)
    (hK : ∀ v' w', w'.ownsRow base e size v' (n + m) (xs ++ news) → w.grownBy w' v.ownBlock → K (a.put o.dst v') w') : o.wp P a w K Q := by
  obtain ⟨v', w', hrun, r1, r2⟩ := run_append_rd (P := P) base t o.type e i z size bytes ht hi hz hsize hby hzs hsz v n xs hown vx m news hx hnil hl h1 h63 hbytes hbase
  unfold Oper.wp
  simp [execOp, hop, resolve, invoke, builtin, hs, hvx, hrun, Result.andThen]
  exact hK v' w' r1 r2

/-- 'copy(d, x)' of as many elements of one cell as d, a row of the call's own, has. -/
theorem run_copy_all {w : World} (dT sT ty e : TypeId) (hu : P.underlying dT = some (.slice e)) (hsz : (P.info? e).map (·.size) = some 1) (base : Nat) (v : Value) (n : Nat) (ys : List Value) (hown : w.ownsRow base e 1 v n ys)
    (x : Value) (xs : List Value) (hx : Rd w x n xs) (hl : xs.length = n) (h1 : ∀ u ∈ xs, u.oneCell' = true) :
    ∃ k w', (Builtin.copy_ #[dT, sT] ty #[v, x]).run P w = .ok k w' ∧ w'.ownsRow base e 1 v n xs ∧ w.grownBy w' v.ownBlock := by
  obtain ⟨a, cap, rfl, hc⟩ := hx
  have same : w.grownBy w v.ownBlock := ⟨rfl, rfl, rfl, Nat.le_refl _, fun _ _ _ => rfl⟩
  by_cases hn : n = 0
  · subst hn
    have hx0 : xs = [] := List.eq_nil_of_length_eq_zero hl
    have hy0 : ys = [] := List.eq_nil_of_length_eq_zero (by simpa using hown.1)
    subst hx0 hy0
    obtain ⟨d, dc, rfl, _⟩ := ownsRow_rd hown
    exact ⟨_, _, run_copy_none (P := P) w dT sT ty e d a 0 dc 0 cap hu hsz (by simp), hown, same⟩
  · rcases hown.2 with ⟨_, h0⟩ | ⟨g, dc, cur, rfl, hb, hg, h2, h3, h4, h5⟩
    · omega
    · obtain ⟨b, off, rfl, hcell⟩ := CellsAt.pos hc (by omega)
      have hsrc : ∀ j u, xs[j]? = some u → w.cell? ((⟨b, off, none⟩ : Addr).add j) = some u := by
        intro j u hj
        have e1 : (⟨b, off, none⟩ : Addr).add j = ⟨b, off + j, none⟩ := by unfold Addr.add; split <;> simp_all
        rw [e1]
        exact hcell j u hj
      refine ⟨_, _, run_copy_row (P := P) w dT sT ty e g 0 n dc ⟨b, off, none⟩ n cap cur e xs hu hsz hg (by simp [hl]) hsrc (by rw [h4]; omega) h1, ?_, ?_⟩
      · refine ⟨by simpa using hl, .inr ⟨g, dc, _, rfl, hb, setRow_heap w g _ _ e _ hg, h2, h3, ?_, ?_⟩⟩
        · simp [h4]; omega
        · simp [hl]
      · exact ⟨rfl, rfl, rfl, by simp, fun k _ hne => setRow_other w g k _ (by simpa [Value.ownBlock] using hne)⟩

theorem wp_copy {w : World} {o : Oper} {a : Act} {K : Act → World → Prop} {Q : Exit → Act → World → Prop} (d s : Operand) (dT sT : TypeId)
    (hop : o.op = .call { callee := .builtin .copy, args := #[d, s], argTypes := #[dT, sT] }) (e : TypeId) (hu : P.underlying dT = some (.slice e)) (hsz : (P.info? e).map (·.size) = some 1)
    (base : Nat) (v : Value) (n : Nat) (ys : List Value) (hd : a.eval d = v) (hown : w.ownsRow base e 1 v n ys) (x : Value) (xs : List Value) (hs : a.eval s = x) (hx : Rd w x n xs) (hl : xs.length = n) (h1 : ∀ u ∈ xs, u.oneCell' = true)
    (hK : ∀ k w', w'.ownsRow base e 1 v n xs → w.grownBy w' v.ownBlock → K (a.put o.dst k) w') : o.wp P a w K Q := by
  obtain ⟨k, w', hrun, r1, r2⟩ := run_copy_all (P := P) dT sT o.type e hu hsz base v n ys hown x xs hx hl h1
  unfold Oper.wp
  simp [execOp, hop, resolve, invoke, builtin, hd, hs, hrun, Result.andThen]
  exact hK k w' r1 r2

/-- 'make([]T, n)', n a variable. -/
theorem wp_make {w : World} {o : Oper} {a : Act} {K : Act → World → Prop} {Q : Exit → Act → World → Prop} (t : TypeId) (l c : Operand) (hop : o.op = .makeSlice t l c)
    (base : Nat) (e : TypeId) (i : TypeInfo) (z : Value) (size : Nat) (ht : P.underlying t = some (.slice e)) (hi : P.info? e = some i) (hz : i.zero = some z) (hsize : i.size = size)
    (kl kc : IntKind) (n : Nat) (hl : a.eval l = .int kl (n : Int)) (hc : a.eval c = .int kc (n : Int)) (hbytes : i.bytes * n ≤ 281474976710656) (h63 : n ≤ maxLen) (hbase : base ≤ w.heap.size)
    (hK : ∀ w', w'.ownsRow base e size (.slice (some ⟨w.heap.size, 0, none⟩) n n) n (madeCells z.cells (n * size)).toList → w.grownBy w' none → K (a.put o.dst (.slice (some ⟨w.heap.size, 0, none⟩) n n)) w') : o.wp P a w K Q := by
  obtain ⟨w', hrun, r1, r2⟩ := run_make_full (P := P) w base t e i z size ht hi hz hsize kl kc n hbytes h63 hbase
  unfold Oper.wp
  simp [execOp, hop, hl, hc, hrun, Result.andThen]
  exact hK w' r1 r2

theorem wpList_wp {ops : Array Oper} {rest : List Oper} {o : Oper} {a : Act} {w : World} {Q : Exit → Act → World → Prop} (hg : o.guard = none)
    (h : ∀ K : Act → World → Prop, (∀ a w, wpList P ops Q rest a w → K a w) → o.wp P a w K Q) : wpList P ops Q (o :: rest) a w := wpList_plain hg h
end

#print axioms wp_append
end Go.Proofs.Ytbcpdjhpceimlaa
