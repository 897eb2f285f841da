/-
  Schemas: a struct as the row of its one-cell fields; what a row of cells reads as; what came in, opened by its type.
-/
import Derived.Test.YtbcpdjhpceimlaaPut
import Derived.OpenShut
import Derived.Deep.Slices
namespace Go.Proofs.Ytbcpdjhpceimlaa
open Go.ChangeShapes Go.WideShapes Go.ChangeAt Go.RowKit Go.Deep

/-- What a field is: an int, a bool, a string, a uint64, a list of ints, a slice of structs. -/
inductive Fld where
  | i | b | t | u | l
  | e (s : List Fld)

/-- The value of a field. -/
inductive V where
  | i (n : Int)
  | b (x : Bool)
  | t (s : Bytes)
  | u (n : Nat)
  | l (xs : List Int)
  | e (rows : List (List V))

mutual
/-- The encoding of a value, of a row of values, of rows. -/
def encV : V → Bytes
  | .i n => encI n
  | .b x => encB x
  | .t s => encT s
  | .u n => leb n
  | .l xs => encL xs
  | .e rows => leb rows.length ++ encRows rows
def encRow : List V → Bytes
  | [] => []
  | v :: r => encV v ++ encRow r
def encRows : List (List V) → Bytes
  | [] => []
  | r :: rs => encRow r ++ encRows rs
end

theorem encRow_append : ∀ (a b : List V), encRow (a ++ b) = encRow a ++ encRow b
  | [], b => by simp [encRow]
  | v :: a, b => by simp [encRow, encRow_append a b]
theorem encRows_append : ∀ (a b : List (List V)), encRows (a ++ b) = encRows a ++ encRows b
  | [], b => by simp [encRows]
  | v :: a, b => by simp [encRows, encRows_append a b]
theorem encRow_one (v : V) : encRow [v] = encV v := by simp [encRow]
theorem encRows_one (r : List V) : encRows [r] = encRow r := by simp [encRows]

theorem encIs_len (l : List Int) : (l.flatMap encI).length ≤ 10 * l.length := by
  induction l with
  | nil => simp
  | cons x l ih =>
    have := (leb_length (zz x)).2
    simp only [List.flatMap_cons, List.length_append, List.length_cons]
    unfold encI at ih ⊢
    omega
theorem encI_len (n : Int) : (encI n).length ≤ 10 := (leb_length _).2
theorem encB_len (b : Bool) : (encB b).length ≤ 10 := (leb_length _).2
theorem encT_len (s : Bytes) : (encT s).length ≤ 10 + s.length := by have := (leb_length s.length).2; simp [encT]; omega
theorem encL_len (l : List Int) : (encL l).length ≤ 10 + 10 * l.length := by
  have := (leb_length l.length).2
  have := encIs_len l
  simp only [encL, List.length_append]
  omega

def In64 (n : Int) : Prop := -9223372036854775808 ≤ n ∧ n ≤ 9223372036854775807

/-- The cell u reads as the value x of the kind q; all blocks that are read lie in A. -/
inductive Rep (A : Nat → Prop) (w : World) : Fld → V → Value → Prop where
  | i (n : Int) (h : In64 n) : Rep A w .i (.i n) (.int .i64 n)
  | b (x : Bool) : Rep A w .b (.b x) (.bool x)
  | t (s : ByteArray) (h : s.size ≤ maxLen) : Rep A w .t (.t s.data.toList) (.string s)
  | u (n : Nat) (h : n < 18446744073709551616) : Rep A w .u (.u n) (.int .u64 (n : Int))
  | l (xs : List Int) (a : Option Addr) (n c : Nat) (hl : xs.length = n) (hc : n ≤ c) (hm : c ≤ maxLen) (hn : a = none → n = 0 ∧ c = 0) (hA : ∀ x, a = some x → 0 < n → A x.block ∧ x.block < w.heap.size ∧ x.spot = none)
      (hw : ∀ x ∈ xs, In64 x) (hx : CellsAt w a (ic xs)) : Rep A w .l (.l xs) (.slice a n c)
  | e (s : List Fld) (rows : List (List V)) (a : Option Addr) (n c : Nat) (f : Nat → Nat → Value) (hl : rows.length = n) (hc : n ≤ c) (hm : c ≤ maxLen) (hn : a = none → n = 0 ∧ c = 0)
      (hA : ∀ x, a = some x → 0 < n → A x.block ∧ x.block < w.heap.size ∧ x.spot = none) (hs : ∀ (r : List V), r ∈ rows → r.length = s.length)
      (hx : ∀ (g o i j : Nat), a = some ⟨g, o, none⟩ → i < n → j < s.length → w.cell? ⟨g, o + (i * s.length + j), none⟩ = some (f i j))
      (hr : ∀ (i j : Nat) (r : List V) (q : Fld) (v : V), rows[i]? = some r → s[j]? = some q → r[j]? = some v → Rep A w q v (f i j)) : Rep A w (.e s) (.e rows) (.slice a n c)

theorem cell?_heap {w w' : World} {p : Addr} (h : w'.heap[p.block]? = w.heap[p.block]?) : w'.cell? p = w.cell? p := by
  unfold World.cell?
  rw [h]

theorem Rep.mono {A A' : Nat → Prop} {w w' : World} {q : Fld} {v : V} {u : Value} (h : Rep A w q v u) (hA : ∀ b, A b → A' b) (hsz : w.heap.size ≤ w'.heap.size) (hw : ∀ b, A b → b < w.heap.size → w'.heap[b]? = w.heap[b]?) : Rep A' w' q v u := by
  induction h with
  | i n h => exact .i n h
  | b x => exact .b x
  | t s h => exact .t s h
  | u n h => exact .u n h
  | l xs a n c hl hc hm hn hA' hw' hx =>
    refine .l xs a n c hl hc hm hn (fun x hx h0 => ⟨hA _ (hA' x hx h0).1, Nat.lt_of_lt_of_le (hA' x hx h0).2.1 hsz, (hA' x hx h0).2.2⟩) hw' ?_
    rcases hx with h0 | ⟨b, off, rfl, hg⟩
    · exact .inl h0
    · refine .inr ⟨b, off, rfl, fun j u hj => ?_⟩
      have h0 : 0 < n := by
        have := (List.getElem?_eq_some_iff.1 hj).1
        simp [ic] at this
        omega
      have hq := hw _ (hA' _ rfl h0).1 (hA' _ rfl h0).2.1
      rw [cell?_heap (p := ⟨b, off + j, none⟩) hq]
      exact hg j u hj
  | e s rows a n c f hl hc hm hn hA' hs hx _ ih =>
    refine .e s rows a n c f hl hc hm hn (fun x hx h0 => ⟨hA _ (hA' x hx h0).1, Nat.lt_of_lt_of_le (hA' x hx h0).2.1 hsz, (hA' x hx h0).2.2⟩) hs ?_ (fun i j r q v h1 h2 h3 => ih i j r q v h1 h2 h3)
    intro g o i j ha hi hj
    have hq := hw _ (hA' _ ha (by omega)).1 (hA' _ ha (by omega)).2.1
    rw [cell?_heap (p := ⟨g, o + (i * s.length + j), none⟩) hq]
    exact hx g o i j ha hi hj

/-- A row of cell values reads as a row of values. -/
def RowRep (A : Nat → Prop) (w : World) (s : List Fld) (v : List V) (cs : List Value) : Prop :=
  v.length = s.length ∧ cs.length = s.length ∧ ∀ (j : Nat) (q : Fld) (x : V) (u : Value), s[j]? = some q → v[j]? = some x → cs[j]? = some u → Rep A w q x u

theorem RowRep.mono {A A' : Nat → Prop} {w w' : World} {s : List Fld} {v : List V} {cs : List Value} (h : RowRep A w s v cs) (hA : ∀ b, A b → A' b) (hsz : w.heap.size ≤ w'.heap.size) (hw : ∀ b, A b → b < w.heap.size → w'.heap[b]? = w.heap[b]?) : RowRep A' w' s v cs :=
  ⟨h.1, h.2.1, fun j q x u h1 h2 h3 => (h.2.2 j q x u h1 h2 h3).mono hA hsz hw⟩

theorem RowRep.nil (A : Nat → Prop) (w : World) : RowRep A w [] [] [] := ⟨rfl, rfl, fun j q x u h => by simp at h⟩

theorem RowRep.one {A : Nat → Prop} {w : World} {q : Fld} {x : V} {u : Value} (h : Rep A w q x u) : RowRep A w [q] [x] [u] := by
  refine ⟨rfl, rfl, fun j q' x' u' h1 h2 h3 => ?_⟩
  cases j with
  | zero => simp at h1 h2 h3; subst h1 h2 h3; exact h
  | succ j => simp at h1

theorem RowRep.append {A : Nat → Prop} {w : World} {s1 s2 : List Fld} {v1 v2 : List V} {c1 c2 : List Value} (h1 : RowRep A w s1 v1 c1) (h2 : RowRep A w s2 v2 c2) : RowRep A w (s1 ++ s2) (v1 ++ v2) (c1 ++ c2) := by
  refine ⟨by simp [h1.1, h2.1], by simp [h1.2.1, h2.2.1], fun j q x u hq hx hu => ?_⟩
  have l1 := h1.1
  have l2 := h1.2.1
  by_cases hj : j < s1.length
  · rw [List.getElem?_append_left hj] at hq
    rw [List.getElem?_append_left (by omega)] at hx hu
    exact h1.2.2 j q x u hq hx hu
  · rw [List.getElem?_append_right (by omega)] at hq hx hu
    rw [l1] at hx
    rw [l2] at hu
    exact h2.2.2 _ q x u hq hx hu

/-- The cells from o on of the block g read as a row of values. -/
def At (A : Nat → Prop) (w : World) (s : List Fld) (v : List V) (g o : Nat) : Prop :=
  v.length = s.length ∧ ∀ (j : Nat) (q : Fld) (x : V), s[j]? = some q → v[j]? = some x → ∃ u, w.cell? ⟨g, o + j, none⟩ = some u ∧ Rep A w q x u

theorem At.mono {A A' : Nat → Prop} {w w' : World} {s : List Fld} {v : List V} {g o : Nat} (h : At A w s v g o) (hA : ∀ b, A b → A' b) (hsz : w.heap.size ≤ w'.heap.size) (hw : ∀ b, A b → b < w.heap.size → w'.heap[b]? = w.heap[b]?) (hg : w'.heap[g]? = w.heap[g]?) : At A' w' s v g o := by
  refine ⟨h.1, fun j q x h1 h2 => ?_⟩
  obtain ⟨u, h3, h4⟩ := h.2 j q x h1 h2
  exact ⟨u, by rw [cell?_heap hg]; exact h3, h4.mono hA hsz hw⟩

theorem At.left {A : Nat → Prop} {w : World} {s1 s2 : List Fld} {v : List V} {g o : Nat} (h : At A w (s1 ++ s2) v g o) : At A w s1 (v.take s1.length) g o := by
  have hl := h.1
  simp at hl
  refine ⟨by simp; omega, fun j q x h1 h2 => h.2 j q x ?_ ?_⟩
  · have : j < s1.length := (List.getElem?_eq_some_iff.1 h1).1
    rw [List.getElem?_append_left this]; exact h1
  · rw [List.getElem?_take] at h2
    split at h2
    · exact h2
    · cases h2

theorem At.right {A : Nat → Prop} {w : World} {s1 s2 : List Fld} {v : List V} {g o : Nat} (h : At A w (s1 ++ s2) v g o) : At A w s2 (v.drop s1.length) g (o + s1.length) := by
  have hl := h.1
  simp at hl
  refine ⟨by simp; omega, fun j q x h1 h2 => ?_⟩
  rw [Nat.add_assoc]
  refine h.2 (s1.length + j) q x ?_ ?_
  · rw [List.getElem?_append_right (by omega)]; simpa using h1
  · simpa [List.getElem?_drop] using h2

theorem At.of_row {A : Nat → Prop} {w : World} {s : List Fld} {v : List V} {cs : List Value} (h : RowRep A w s v cs) {g o : Nat} (hc : ∀ j u, cs[j]? = some u → w.cell? ⟨g, o + j, none⟩ = some u) : At A w s v g o := by
  refine ⟨h.1, fun j q x h1 h2 => ?_⟩
  have hj : j < s.length := (List.getElem?_eq_some_iff.1 h1).1
  have hcs : cs[j]? = some (cs[j]'(by rw [h.2.1]; exact hj)) := List.getElem?_eq_getElem _
  exact ⟨_, hc j _ hcs, h.2.2 j q x _ h1 h2 hcs⟩

theorem At.row {A : Nat → Prop} {w : World} {s : List Fld} {v : List V} {g o : Nat} (h : At A w s v g o) : ∃ cs : List Value, RowRep A w s v cs ∧ ∀ j u, cs[j]? = some u → w.cell? ⟨g, o + j, none⟩ = some u := by
  have hl := h.1
  refine ⟨(List.range s.length).map fun j => (w.cell? ⟨g, o + j, none⟩).getD undef, ⟨h.1, by simp, fun j q x u h1 h2 h3 => ?_⟩, fun j u h3 => ?_⟩
  · obtain ⟨u', h4, h5⟩ := h.2 j q x h1 h2
    have hj : j < s.length := (List.getElem?_eq_some_iff.1 h1).1
    simp [List.getElem?_map, List.getElem?_range hj, h4] at h3
    subst h3
    exact h5
  · have hj : j < s.length := by
      have := (List.getElem?_eq_some_iff.1 h3).1
      simpa using this
    obtain ⟨u', h4, _⟩ := h.2 j (s[j]) (v[j]'(by omega)) (List.getElem?_eq_getElem _) (List.getElem?_eq_getElem _)
    simp [List.getElem?_map, List.getElem?_range hj, h4] at h3
    subst h3
    exact h4

/-! ### what came in -/
section
variable {P : Program}

/-- The fields of a type, in the order of its cells. -/
def flatFs (P : Program) (f : TypeId → Option (List Fld)) : List Field → Nat → Option (List Fld)
  | [], _ => some []
  | d :: r, off => if d.offset = off then (f d.type).bind fun s => if P.cellsOf d.type = s.length then (flatFs P f r (off + s.length)).map (s ++ ·) else none else none

def rep {α : Type} (s : List α) : Nat → List α
  | 0 => []
  | n + 1 => s ++ rep s n

def flat (P : Program) : Nat → TypeId → Option (List Fld)
  | 0, _ => none
  | f + 1, t => match P.underlying t with
    | some (.int .i64) => some [.i]
    | some (.int .u64) => some [.u]
    | some .bool => some [.b]
    | some .string => some [.t]
    | some (.slice e) => match P.underlying e with
      | some (.int .i64) => if P.cellsOf e = 1 then some [.l] else none
      | _ => (flat P f e).bind fun s => if P.cellsOf e = s.length ∧ 0 < s.length then some [.e s] else none
    | some (.struct fs) => (flatFs P (flat P f) fs.toList 0).bind fun s => if P.cellsOf t = s.length then some s else none
    | some (.array n e) => (flat P f e).bind fun s => if P.cellsOf e = s.length ∧ P.cellsOf t = n * s.length then some (rep s n) else none
    | _ => none

theorem i64_of_wf {n : Int} (h : (Lit.int .i64 n).wf = true) : In64 n := bounds_i64 h

theorem rep_length {α : Type} (s : List α) : ∀ n, (rep s n).length = n * s.length
  | 0 => by simp [rep]
  | n + 1 => by simp [rep, rep_length s n, Nat.succ_mul]; omega

variable {H : Type} {enc : TypeId × Value → H} {w : World} {base : Nat} {spare : Nat → Bool} {held : Bool}

/-- All that is read of what came in lies below the heap's end. -/
def Old (w : World) : Nat → Prop := fun b => b < w.heap.size

theorem cell_add {a : Addr} {k : Nat} {v : Value} (hk : k = 0) (h : w.cell? (a.add k) = some v) : a.block < w.heap.size ∧ a.spot = none := by
  have h2 := World.cell?_spot h
  have h3 := World.block_lt_of_cell? w _ h
  subst hk
  unfold Addr.add at h2 h3
  split at h2 <;> simp_all

theorem rows_choose {α : Type} (Q : Nat → α → Prop) : ∀ n, (∀ i, i < n → ∃ r, Q i r) → ∃ rows : List α, rows.length = n ∧ ∀ i r, rows[i]? = some r → Q i r
  | 0, _ => ⟨[], rfl, fun i r h => by simp at h⟩
  | n + 1, h => by
    obtain ⟨rows, hl, hq⟩ := rows_choose Q n (fun i hi => h i (by omega))
    obtain ⟨r, hr⟩ := h n (by omega)
    refine ⟨rows ++ [r], by simp [hl], fun i r' h' => ?_⟩
    by_cases hi : i < n
    · rw [List.getElem?_append_left (by omega)] at h'; exact hq i r' h'
    · rw [List.getElem?_append_right (by omega)] at h'
      have : i = n := by
        have := (List.getElem?_eq_some_iff.1 h').1
        simp at this; omega
      subst this
      simp [hl] at h'
      subst h'
      exact hr

theorem bulkAll_append (l r : List (DataW H)) : Rows.uptoBulkAll (l ++ r) = Rows.uptoBulkAll l + Rows.uptoBulkAll r := by
  induction l with
  | nil => simp [Rows.uptoBulkAll]
  | cons x l ih => simp only [List.cons_append, Rows.uptoBulkAll, ih]; omega
theorem bulk_pos (d : DataW H) : 1 ≤ Rows.uptoBulk d := by
  cases d with
  | lit l => cases l <;> simp [Rows.uptoBulk]
  | nil => simp [Rows.uptoBulk]
  | ptr d => simp [Rows.uptoBulk]
  | slice elems spare => simp [Rows.uptoBulk]
  | agg parts => simp [Rows.uptoBulk]
  | iface t d => simp [Rows.uptoBulk]
  | map entries => simp [Rows.uptoBulk]
  | held h => simp [Rows.uptoBulk]
theorem bulkAll_len (l : List (DataW H)) : l.length ≤ Rows.uptoBulkAll l := by
  induction l with
  | nil => simp
  | cons x l ih => have := bulk_pos x; simp only [Rows.uptoBulkAll, List.length_cons]; omega

theorem rows_bulk (D : Nat → DataW H) : ∀ (n : Nat) (rows : List (List V)), rows.length = n → (∀ i r, rows[i]? = some r → (encRow r).length ≤ 10 * Rows.uptoBulk (D i)) → (encRows rows).length ≤ 10 * Rows.uptoBulkAll ((List.range n).map D)
  | 0, rows, hl, _ => by
    have : rows = [] := List.eq_nil_of_length_eq_zero hl
    subst this
    simp [encRows]
  | n + 1, rows, hl, h => by
    have hsp : rows = rows.take n ++ [rows[n]'(by omega)] := by
      have := List.take_succ_eq_append_getElem (l := rows) (i := n) (by omega)
      rw [← this, List.take_of_length_le (by omega)]
    have ih := rows_bulk D n (rows.take n) (by simp; omega) (fun i r hr => h i r (by
      rw [List.getElem?_take] at hr
      split at hr
      · exact hr
      · cases hr))
    have hn := h n _ (List.getElem?_eq_getElem (by omega))
    rw [hsp, encRows_append, encRows_one, List.length_append, List.range_succ, List.map_append, bulkAll_append]
    simp only [List.map_cons, List.map_nil, Rows.uptoBulkAll]
    omega

/-- What flat_rep finds: the row, and a bound on its encoding. -/
def Found (w : World) (s : List Fld) (cs : List Value) (bulk : Nat) : Prop := ∃ v, RowRep (Old w) w s v cs ∧ (encRow v).length ≤ 10 * bulk

theorem Found.append {s1 s2 : List Fld} {c1 c2 : List Value} {b1 b2 : Nat} (h1 : Found w s1 c1 b1) (h2 : Found w s2 c2 b2) : Found w (s1 ++ s2) (c1 ++ c2) (b1 + b2) := by
  obtain ⟨v1, r1, l1⟩ := h1
  obtain ⟨v2, r2, l2⟩ := h2
  exact ⟨v1 ++ v2, r1.append r2, by rw [encRow_append, List.length_append]; omega⟩

theorem fs_rep {f : TypeId → Option (List Fld)} {m : Nat}
    (ih : ∀ t s, f t = some s → ∀ cs x, DataW.trod enc P w base spare held m t cs = some x → Found w s cs (Rows.uptoBulk x.1)) :
    ∀ (fs : List Field) (off : Nat) (s : List Fld) (cs : List Value) (ys : List (DataW H × List MemPlace)), flatFs P f fs off = some s → cs.length = off + s.length → ys.length = fs.length →
      (∀ (i : Nat) (d : Field), fs[i]? = some d → DataW.trod enc P w base spare held m d.type ((cs.drop d.offset).take (P.cellsOf d.type)) = ys[i]?) → Found w s (cs.drop off) (Rows.uptoBulkAll (ys.map (·.1)))
  | [], off, s, cs, ys, hf, hl, hyl, _ => by
    simp only [flatFs, Option.some.injEq] at hf
    subst hf
    exact ⟨[], by rw [List.drop_eq_nil_of_le (by simp at hl; omega)]; exact RowRep.nil _ _, by simp [encRow]⟩
  | d :: r, off, s, cs, [], hf, hl, hyl, hx => by simp at hyl
  | d :: r, off, s, cs, y :: ys, hf, hl, hyl, hx => by
    unfold flatFs at hf
    split at hf
    · rename_i hoff
      cases hs : f d.type with
      | none => simp [hs] at hf
      | some s1 =>
        simp only [hs, Option.bind_some] at hf
        split at hf
        · rename_i hc
          cases hr : flatFs P f r (off + s1.length) with
          | none => simp [hr] at hf
          | some s2 =>
            simp only [hr, Option.map_some, Option.some.injEq] at hf
            subst hf
            have hx1 : DataW.trod enc P w base spare held m d.type ((cs.drop d.offset).take (P.cellsOf d.type)) = some y := hx 0 d rfl
            have h1 := ih _ _ hs _ _ hx1
            have h2 := fs_rep ih r (off + s1.length) s2 cs ys hr (by simp at hl; omega) (by simpa using hyl) (fun i d' hd => hx (i + 1) d' (by simpa using hd))
            have e : cs.drop off = (cs.drop off).take s1.length ++ cs.drop (off + s1.length) := by
              rw [← List.drop_drop, List.take_append_drop]
            rw [e]
            rw [hoff, hc] at h1
            exact h1.append h2
        · cases hf
    · cases hf

theorem arr_rep {s : List Fld} {cs : List Value} : ∀ (n k : Nat) (ys : List (DataW H × List MemPlace)), cs.length = (k + n) * s.length → ys.length = n → (∀ (i : Nat) (y : DataW H × List MemPlace), ys[i]? = some y → Found w s ((cs.drop ((k + i) * s.length)).take s.length) (Rows.uptoBulk y.1)) →
    Found w (rep s n) (cs.drop (k * s.length)) (Rows.uptoBulkAll (ys.map (·.1)))
  | 0, k, ys, hl, hyl, _ => ⟨[], by rw [List.drop_eq_nil_of_le (by simp at hl; omega)]; exact RowRep.nil _ _, by simp [encRow]⟩
  | n + 1, k, [], hl, hyl, h => by simp at hyl
  | n + 1, k, y :: ys, hl, hyl, h => by
    have h1 := h 0 y rfl
    have h2 := arr_rep (s := s) (cs := cs) n (k + 1) ys (by rw [hl]; congr 1; omega) (by simpa using hyl) (fun i y' hy => by
      have := h (i + 1) y' (by simpa using hy)
      rwa [show k + (i + 1) = k + 1 + i by omega] at this)
    have e : cs.drop (k * s.length) = (cs.drop (k * s.length)).take s.length ++ cs.drop ((k + 1) * s.length) := by
      rw [Nat.succ_mul, ← List.drop_drop, List.take_append_drop]
    rw [e]
    exact h1.append h2

theorem flat_rep : ∀ (f : Nat) (t : TypeId) (s : List Fld), flat P f t = some s → ∀ m cs x, DataW.trod enc P w base spare held m t cs = some x → Found w s cs (Rows.uptoBulk x.1)
  | 0, t, s, h, _, _, _, _ => by simp [flat] at h
  | f + 1, t, s, h, m, cs, x, hx => by
    unfold flat at h
    split at h
    · rename_i ht
      cases h
      obtain ⟨n, rfl, rfl, hw⟩ := DataW.trod_int ht hx
      exact ⟨_, RowRep.one (.i n (i64_of_wf hw)), by rw [encRow_one]; exact encI_len n⟩
    · rename_i ht
      cases h
      obtain ⟨n, rfl, rfl, hw⟩ := DataW.trod_int ht hx
      have hb := bounds_u64 hw
      obtain ⟨k, rfl⟩ : ∃ k : Nat, n = (k : Int) := ⟨n.toNat, by omega⟩
      exact ⟨_, RowRep.one (.u k (by omega)), by rw [encRow_one]; exact (leb_length k).2⟩
    · rename_i ht
      cases h
      obtain ⟨b, rfl, rfl⟩ := DataW.trod_bool ht hx
      exact ⟨_, RowRep.one (.b b), by rw [encRow_one]; exact encB_len b⟩
    · rename_i ht
      cases h
      obtain ⟨b, rfl, rfl, hl⟩ := DataW.trod_string ht hx
      exact ⟨_, RowRep.one (.t b hl), by rw [encRow_one]; have := encT_len b.data.toList; simp only [encV, Rows.uptoBulk]; omega⟩
    · rename_i e ht
      rcases open_slice ht hx with ⟨rfl, rfl⟩ | ⟨a, len, cap, mm, n, D, Pl, rfl, hb, hl, hm, hmm, rfl, hi⟩
      · split at h
        · split at h
          · cases h
            exact ⟨_, RowRep.one (.l [] none 0 0 rfl (Nat.le_refl _) (Nat.zero_le _) (fun _ => ⟨rfl, rfl⟩) (fun x h => by cases h) (fun x h => by simp at h) (.inl rfl)), by rw [encRow_one]; exact (leb_length 0).2⟩
          · cases h
        · cases hs : flat P f e with
          | none => simp [hs] at h
          | some s1 =>
            simp only [hs, Option.bind_some] at h
            split at h
            · cases h
              exact ⟨_, RowRep.one (.e s1 [] none 0 0 (fun _ _ => undef) rfl (Nat.le_refl _) (Nat.zero_le _) (fun _ => ⟨rfl, rfl⟩) (fun x h => by cases h) (fun x h => by simp at h) (fun _ _ _ _ _ h => by omega) (fun i j r q v h => by simp at h)), by rw [encRow_one]; exact (leb_length 0).2⟩
            · cases h
      · have hmle : len ≤ mm := by rw [hmm]; split <;> omega
        have hbl : Rows.uptoBulkAll ((List.range len).map D) + 1 ≤ Rows.uptoBulk (DataW.slice ((List.range len).map D) ((List.range (mm - len)).map fun j => D (len + j))) := by simp only [Rows.uptoBulk]; omega
        have hbn : len ≤ Rows.uptoBulkAll ((List.range len).map D) := by have := bulkAll_len ((List.range len).map D); simpa using this
        generalize Rows.uptoBulk (DataW.slice ((List.range len).map D) ((List.range (mm - len)).map fun j => D (len + j))) = bk at hbl
        split at h
        · rename_i he
          split at h
          · rename_i hce
            cases h
            rw [hce] at hi
            have g : ∀ i, i < len → ∃ z : Int, w.cell? (a.add i) = some (.int .i64 z) ∧ In64 z := by
              intro i hil
              obtain ⟨cs', hc, ht'⟩ := hi i (by omega)
              obtain ⟨_, hcl, hat⟩ := World.cells?_some hc
              obtain ⟨z, rfl, _, hw⟩ := DataW.trod_int he ht'
              refine ⟨z, ?_, i64_of_wf hw⟩
              have := hat 0 (by omega)
              rw [Go.Deep.add_add] at this
              simpa using this
            obtain ⟨zs, hzl, hz⟩ := rows_choose (fun i z => w.cell? (a.add i) = some (.int .i64 z) ∧ In64 z) len g
            have ha : 0 < len → a.block < w.heap.size ∧ a.spot = none := by
              intro h0
              obtain ⟨z, h1, _⟩ := g 0 h0
              exact cell_add rfl h1
            refine ⟨_, RowRep.one (.l zs (some a) len cap hzl hl hm (fun h => by cases h) (fun x hx h0 => by cases hx; exact ⟨(ha h0).1, (ha h0).1, (ha h0).2⟩) (fun z hzm => ?_) ?_), ?_⟩
            · obtain ⟨i, hi⟩ := List.getElem?_of_mem hzm
              exact (hz i z hi).2
            · by_cases h0 : len = 0
              · subst h0
                exact .inl (by simp [ic, List.eq_nil_of_length_eq_zero hzl])
              · obtain ⟨b, off, spot⟩ := a
                have := (ha (by omega)).2
                simp only at this
                subst this
                refine .inr ⟨b, off, rfl, fun j u hj => ?_⟩
                simp only [ic, List.getElem?_map, Option.map_eq_some_iff] at hj
                obtain ⟨z, hj, rfl⟩ := hj
                have h1 := (hz j z hj).1
                rwa [Addr.add_lit] at h1
            · have := encL_len zs
              rw [encRow_one, encV]
              omega
          · cases h
        · cases hs : flat P f e with
          | none => simp [hs] at h
          | some s1 =>
            simp only [hs, Option.bind_some] at h
            split at h
            · rename_i hce
              obtain ⟨hce, hpos⟩ := hce
              cases h
              rw [hce] at hi
              have g : ∀ i, i < len → ∃ p : List V × List Value, RowRep (Old w) w s1 p.1 p.2 ∧ (encRow p.1).length ≤ 10 * Rows.uptoBulk (D i) ∧ ∀ j, j < s1.length → w.cell? (a.add (i * s1.length + j)) = p.2[j]? := by
                intro i hil
                obtain ⟨cs', hc, ht'⟩ := hi i (by omega)
                obtain ⟨_, hcl, hat⟩ := World.cells?_some hc
                obtain ⟨v, hv, hvl⟩ := flat_rep f e s1 hs _ _ _ ht'
                refine ⟨(v, cs'), hv, hvl, fun j hj => ?_⟩
                have := hat j hj
                rwa [Go.Deep.add_add] at this
              obtain ⟨ps, hpl, hp⟩ := rows_choose _ len g
              have ha : 0 < len → a.block < w.heap.size ∧ a.spot = none := by
                intro h0
                obtain ⟨p, h1, _, h2⟩ := g 0 h0
                have h3 := h2 0 hpos
                rw [List.getElem?_eq_getElem (by rw [h1.2.1]; exact hpos)] at h3
                exact cell_add (by simp) h3
              refine ⟨[.e (ps.map (·.1))], RowRep.one (.e s1 _ (some a) len cap (fun i j => ((ps[i]?).bind fun p => p.2[j]?).getD undef) (by simp [hpl]) hl hm (fun h => by cases h)
                  (fun x hx h0 => by cases hx; exact ⟨(ha h0).1, (ha h0).1, (ha h0).2⟩) ?_ ?_ ?_), ?_⟩
              · intro r hr
                obtain ⟨p, hpm, rfl⟩ := List.mem_map.1 hr
                obtain ⟨i, hi⟩ := List.getElem?_of_mem hpm
                exact (hp i p hi).1.1
              · intro g' o i j hg hil hj
                cases hg
                have hpi : ps[i]? = some (ps[i]'(by omega)) := List.getElem?_eq_getElem _
                have := (hp i _ hpi).2.2 j hj
                rw [Addr.add_lit] at this
                rw [this, hpi]
                simp only [Option.bind_some]
                rw [List.getElem?_eq_getElem (by rw [(hp i _ hpi).1.2.1]; exact hj)]
                rfl
              · intro i j r q v h1 h2 h3
                simp only [List.getElem?_map, Option.map_eq_some_iff] at h1
                obtain ⟨p, h1, rfl⟩ := h1
                have hj : j < s1.length := (List.getElem?_eq_some_iff.1 h2).1
                refine (hp i p h1).1.2.2 j q v _ h2 h3 ?_
                rw [h1]
                simp only [Option.bind_some]
                rw [List.getElem?_eq_getElem (by rw [(hp i _ h1).1.2.1]; exact hj)]
                rfl
              · have h1 := rows_bulk D len (ps.map (·.1)) (by simp [hpl]) (fun i r hr => by
                  simp only [List.getElem?_map, Option.map_eq_some_iff] at hr
                  obtain ⟨p, h1, rfl⟩ := hr
                  exact (hp i p h1).2.1)
                have h2 := (leb_length (ps.map (·.1)).length).2
                rw [encRow_one, encV, List.length_append]
                omega
            · cases h
    · rename_i fs ht
      cases hs : flatFs P (flat P f) fs.toList 0 with
      | none => simp [hs] at h
      | some s1 =>
        simp only [hs, Option.bind_some] at h
        split at h
        · rename_i hc
          cases h
          obtain ⟨xs, m', _, rfl, hcl, hxl, hf⟩ := DataW.trod_struct ht hx
          obtain ⟨v, hv, hvl⟩ := fs_rep (enc := enc) (base := base) (spare := spare) (held := held) (m := m') (fun t s hts cs x hcx => flat_rep f t s hts m' cs x hcx) fs.toList 0 s cs xs hs (by omega) (by simpa using hxl) (fun i d hd => hf i d (by simpa using hd))
          exact ⟨v, by simpa using hv, by simp only [Rows.uptoBulk]; omega⟩
        · cases h
    · rename_i n e ht
      cases hs : flat P f e with
      | none => simp [hs] at h
      | some s1 =>
        simp only [hs, Option.bind_some] at h
        split at h
        · rename_i hc
          cases h
          obtain ⟨xs, m', _, rfl, hcl, hxl, hf⟩ := DataW.trod_array ht hx
          rw [hc.1] at hf
          obtain ⟨v, hv, hvl⟩ := arr_rep (w := w) (s := s1) (cs := cs) n 0 xs (by rw [hcl, hc.2]; simp) hxl (fun i y hy => by
            have hil : i < n := by rw [← hxl]; exact (List.getElem?_eq_some_iff.1 hy).1
            have hf' := hf i hil
            rw [Nat.zero_add]
            exact flat_rep f e s1 hs _ _ _ (hf'.trans hy))
          exact ⟨v, by simpa using hv, by simp only [Rows.uptoBulk]; omega⟩
        · cases h
    · cases h
end

theorem Rep.later {w w' : World} {q : Fld} {x : V} {u : Value} (h : Rep (Old w) w q x u) (hb : Below w.heap.size w w') : Rep (Old w') w' q x u :=
  h.mono (fun _ h => Nat.lt_of_lt_of_le h hb.size) hb.size (fun b h _ => hb.block b h)

/-! ### a slice of structs, opened -/
theorem vals_open {A : Nat → Prop} {w : World} {s : List Fld} {x : V} {a : Option Addr} {n c : Nat} (h : Rep A w (.e s) x (.slice a n c)) :
    ∃ (rows : List (List V)) (f : Nat → Nat → Value), x = .e rows ∧ rows.length = n ∧ n ≤ c ∧ c ≤ maxLen ∧ (∀ r, r ∈ rows → r.length = s.length) ∧ (a = none → n = 0 ∧ c = 0) ∧
      (0 < n → ∃ g o, a = some ⟨g, o, none⟩ ∧ A g ∧ g < w.heap.size ∧ ∀ i j, i < n → j < s.length → w.cell? ⟨g, o + (i * s.length + j), none⟩ = some (f i j)) ∧
      ∀ (i j : Nat) (r : List V) (q : Fld) (v : V), rows[i]? = some r → s[j]? = some q → r[j]? = some v → Rep A w q v (f i j) := by
  cases h with
  | e _ rows _ _ _ f hl hc hm hn hA hs hx hr =>
    refine ⟨rows, f, rfl, hl, hc, hm, hs, hn, fun h0 => ?_, hr⟩
    cases a with
    | none => have := (hn rfl).1; omega
    | some ad =>
      obtain ⟨h1, h2, h3⟩ := hA ad rfl h0
      obtain ⟨g, o, spot⟩ := ad
      simp only at h3
      subst h3
      exact ⟨g, o, rfl, h1, h2, fun i j hi hj => hx g o i j rfl hi hj⟩

theorem rep_i {A : Nat → Prop} {w : World} {v : V} {u : Value} (h : Rep A w .i v u) : ∃ n, v = .i n ∧ u = .int .i64 n ∧ In64 n := by cases h with | i n h => exact ⟨n, rfl, rfl, h⟩
theorem rep_u {A : Nat → Prop} {w : World} {v : V} {u : Value} (h : Rep A w .u v u) : ∃ n : Nat, v = .u n ∧ u = .int .u64 (n : Int) ∧ n < 18446744073709551616 := by cases h with | u n h => exact ⟨n, rfl, rfl, h⟩
theorem rep_b {A : Nat → Prop} {w : World} {v : V} {u : Value} (h : Rep A w .b v u) : ∃ x, v = .b x ∧ u = .bool x := by cases h with | b x => exact ⟨x, rfl, rfl⟩
theorem rep_t {A : Nat → Prop} {w : World} {v : V} {u : Value} (h : Rep A w .t v u) : ∃ s : ByteArray, v = .t s.data.toList ∧ u = .string s ∧ s.size ≤ maxLen := by cases h with | t s h => exact ⟨s, rfl, rfl, h⟩
theorem rep_l {A : Nat → Prop} {w : World} {v : V} {u : Value} (h : Rep A w .l v u) : ∃ (xs : List Int) (a : Option Addr) (n c : Nat), v = .l xs ∧ u = .slice a n c ∧ xs.length = n ∧ n ≤ c ∧ c ≤ maxLen ∧ (a = none → n = 0 ∧ c = 0) ∧ (∀ x, a = some x → 0 < n → A x.block ∧ x.block < w.heap.size ∧ x.spot = none) ∧ (∀ x ∈ xs, In64 x) ∧ CellsAt w a (ic xs) := by
  cases h with | l xs a n c hl hc hm hn hA hw hx => exact ⟨xs, a, n, c, rfl, rfl, hl, hc, hm, hn, hA, hw, hx⟩

/-- The five fields of a value of layer 4's laws. -/
def valS : List Fld := [.i, .u, .i, .t, .l]

theorem val_open {A : Nat → Prop} {w : World} {rows : List (List V)} {f : Nat → Nat → Value} {i : Nat} (hl : ∀ r, r ∈ rows → r.length = valS.length) (hi : i < rows.length)
    (hr : ∀ (i j : Nat) (r : List V) (q : Fld) (v : V), rows[i]? = some r → valS[j]? = some q → r[j]? = some v → Rep A w q v (f i j)) :
    ∃ (k : Int) (u : Nat) (n : Int) (s : ByteArray) (l : List Int), rows[i]? = some [.i k, .u u, .i n, .t s.data.toList, .l l] ∧ f i 0 = .int .i64 k ∧ In64 k ∧ f i 1 = .int .u64 (u : Int) ∧ u < 18446744073709551616 ∧
      f i 2 = .int .i64 n ∧ In64 n ∧ f i 3 = .string s ∧ s.size ≤ maxLen ∧ ∃ la ln lc, f i 4 = .slice la ln lc ∧ Rep A w .l (.l l) (.slice la ln lc) := by
  have h0 : rows[i]? = some rows[i] := List.getElem?_eq_getElem hi
  have h1 := hl _ (List.getElem_mem hi)
  have h2 := fun j q v h3 h4 => hr i j _ q v h0 h3 h4
  generalize rows[i] = r at h0 h1 h2
  match r, h1 with
  | [v0, v1, v2, v3, v4], _ =>
    obtain ⟨k, rfl, e0, b0⟩ := rep_i (h2 0 _ _ rfl rfl)
    obtain ⟨u, rfl, e1, b1⟩ := rep_u (h2 1 _ _ rfl rfl)
    obtain ⟨n, rfl, e2, b2⟩ := rep_i (h2 2 _ _ rfl rfl)
    obtain ⟨s, rfl, e3, b3⟩ := rep_t (h2 3 _ _ rfl rfl)
    have h5 := h2 4 _ _ rfl rfl
    have h6 := h5
    obtain ⟨l, la, ln, lc, rfl, e4, _⟩ := rep_l h5
    exact ⟨k, u, n, s, l, h0, e0, b0, e1, b1, e2, b2, e3, b3, la, ln, lc, e4, by rw [← e4]; exact h6⟩
end Go.Proofs.Ytbcpdjhpceimlaa
