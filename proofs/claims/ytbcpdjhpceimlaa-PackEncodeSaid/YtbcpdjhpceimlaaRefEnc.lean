/-
  The reference's writers of layer 27: what they need and leave; how one step of a struct follows another.
-/
import Derived.Test.YtbcpdjhpceimlaaRefPut
import Derived.Test.YtbcpdjhpceimlaaSameB
namespace Go.Proofs.Ytbcpdjhpceimlaa
open Go.ChangeShapes Go.WideShapes Go.ChangeAt Go.RowKit
set_option linter.unusedVariables false

/-- What a writing function leaves: the bytes, and all that was there before. -/
def WroteC (w : World) (bs : Bytes) (e : Ending) (w' : World) : Prop := ∃ a n c, e = .returned (.slice a n c) ∧ Hid (CellsAt w' a (bc bs)) ∧ Hid (bs.length = n) ∧ Hid (a = none → n = 0 ∧ c = 0) ∧ Hid (Below w.heap.size w w')

theorem Wrote.c {w : World} {bs : Bytes} {e : Ending} {w' : World} (h : Wrote w bs e w') : WroteC w bs e w' := by
  obtain ⟨v, rfl, how, hb⟩ := h
  obtain ⟨a, n, c, rfl, h1, h2, h3⟩ := own_open how
  exact ⟨a, n, c, rfl, h2, h1, h3, Lib.hid hb⟩

/-- A writing function of a struct, of a slice of structs. -/
def RWriter (F : Nat) (s : List Fld) : Prop := ∀ {A : Nat → Prop} (a : Option Addr) (n c : Nat) (bs : Bytes) (cs : Array Value) (v : List V) (w : World), CellsAt w a (bc bs) → (a = none → n = 0 ∧ c = 0) → bs.length = n → RowRep A w s v cs.toList → bs.length + (encRow v).length ≤ 140737488355000 →
  Calls Try.prog F #[.slice a n c, .agg cs] w (WroteC w (bs ++ encRow v))
def RWriterE (F : Nat) (s : List Fld) : Prop := ∀ {A : Nat → Prop} (a : Option Addr) (n c : Nat) (bs : Bytes) (x : V) (u : Value) (w : World), CellsAt w a (bc bs) → (a = none → n = 0 ∧ c = 0) → bs.length = n → Rep A w (.e s) x u → bs.length + (encV x).length ≤ 140737488355000 →
  Calls Try.prog F #[.slice a n c, u] w (WroteC w (bs ++ encV x))

/-- In the middle of a struct that lies in block C from o on: k fields are written. -/
structure WSt (A : Nat → Prop) (w0 : World) (C o : Nat) (cs : List Value) (s : List Fld) (v : List V) (bs : Bytes) (k : Nat) (w : World) (a : Option Addr) (n c : Nat) : Prop where
  row : RowRep A w0 s v cs
  lt : C < w.heap.size
  rng : w.rangeAt C o cs
  cells : CellsAt w a (bc (bs ++ encRow (v.take k)))
  len : (bs ++ encRow (v.take k)).length = n
  nil : a = none → n = 0 ∧ c = 0
  below : Below w0.heap.size w0 w
  bound : bs.length + (encRow v).length ≤ 140737488355000

theorem take_step (v : List V) (k m : Nat) : encRow (v.take (k + m)) = encRow (v.take k) ++ encRow ((v.drop k).take m) := by
  rw [List.take_add, encRow_append]
theorem take_bound (v : List V) (k : Nat) : (encRow (v.take k)).length ≤ (encRow v).length := by
  have h := encRow_append (v.take k) (v.drop k)
  rw [List.take_append_drop] at h
  rw [h, List.length_append]
  omega
theorem take_one {v : List V} {k : Nat} {x : V} (h : v[k]? = some x) : (v.drop k).take 1 = [x] := by
  obtain ⟨hk, rfl⟩ := List.getElem?_eq_some_iff.1 h
  rw [List.drop_eq_getElem_cons hk]
  rfl
theorem rng_blk {w : World} {g : Nat} {T : TypeId} {cs : Array Value} (h : w.heap[g]? = some (.cells cs T (0, 0))) : w.rangeAt g 0 cs.toList := fun j u hj => by
  rw [Nat.zero_add, blk_cell h, ← Array.getElem?_toList]
  exact hj
theorem rng_below {w w' : World} {g o : Nat} {cs : List Value} (h : w.rangeAt g o cs) (hg : g < w.heap.size) (hb : Below w.heap.size w w') : w'.rangeAt g o cs := fun j u hj => by
  rw [hb.cell (p := ⟨g, o + j, none⟩) hg]
  exact h j u hj

theorem WSt.start {A : Nat → Prop} {w : World} {T : TypeId} {cs : Array Value} {s : List Fld} {v : List V} {bs : Bytes} {a : Option Addr} {n c : Nat} (h : CellsAt w a (bc bs)) (hn : a = none → n = 0 ∧ c = 0) (hl : bs.length = n) (hr : RowRep A w s v cs.toList) (hb : bs.length + (encRow v).length ≤ 140737488355000) :
    WSt A w w.heap.size 0 cs.toList s v bs 0 (w.alloc (.cells cs T)) a n c :=
  have hbl : Below w.heap.size w (w.alloc (.cells cs T)) := (Below.refl _ _).alloc (Nat.le_refl _) _
  ⟨hr, by simp, rng_blk (heap_alloc_new w _), by simpa [encRow] using h.below hbl, by simpa [encRow] using hl, hn, hbl, hb⟩

section
variable {A : Nat → Prop} {w0 : World} {C o : Nat} {cs : List Value} {s : List Fld} {v : List V} {bs : Bytes} {k : Nat} {w : World} {a : Option Addr} {n c : Nat}

/-- What grew meanwhile is no matter. -/
theorem WSt.grown {w1 : World} (h : WSt A w0 C o cs s v bs k w a n c) (hb : Below w.heap.size w w1) : WSt A w0 C o cs s v bs k w1 a n c :=
  ⟨h.row, Nat.lt_of_lt_of_le h.lt hb.size, rng_below h.rng h.lt hb, h.cells.below hb, h.len, h.nil, h.below.trans (hb.mono h.below.size), h.bound⟩

/-- A step's end: up to k. -/
def WNext (A : Nat → Prop) (w0 : World) (C o : Nat) (cs : List Value) (s : List Fld) (v : List V) (bs : Bytes) (k : Nat) (w : World) (e : Ending) (w' : World) : Prop :=
  ∃ a n c, e = .returned (.slice a n c) ∧ Hid (WSt A w0 C o cs s v bs k w' a n c) ∧ Hid (Below w.heap.size w w')

theorem WSt.next {m : Nat} {e : Ending} {w' w1 : World} (h : WSt A w0 C o cs s v bs k w a n c) (hg : Below w.heap.size w w1) (hw : WroteC w1 (bs ++ encRow (v.take k) ++ encRow ((v.drop k).take m)) e w') : WNext A w0 C o cs s v bs (k + m) w e w' := by
  obtain ⟨a2, n2, c2, rfl, h1, h2, h3, h4⟩ := hw
  have hb := hg.trans (h4.out.mono hg.size)
  have h5 := h.grown hb
  refine ⟨a2, n2, c2, rfl, Lib.hid ⟨h.row, h5.lt, h5.rng, ?_, ?_, h3.out, h5.below, h.bound⟩, Lib.hid hb⟩
  · rw [take_step, ← List.append_assoc]; exact h1.out
  · rw [take_step, ← List.append_assoc]; exact h2.out

theorem WSt.fits {m : Nat} (h : WSt A w0 C o cs s v bs k w a n c) : (bs ++ encRow (v.take k)).length + (encRow ((v.drop k).take m)).length ≤ 140737488355000 := by
  have h1 := take_bound v (k + m)
  have h2 := h.bound
  rw [take_step, List.length_append] at h1
  rw [List.length_append]
  omega

theorem WSt.at {q : Fld} (h : WSt A w0 C o cs s v bs k w a n c) (hq : s[k]? = some q) : ∃ x u, (v.drop k).take 1 = [x] ∧ cs[k]? = some u ∧ w.cell? ⟨C, o + k, none⟩ = some u ∧ Rep A w q x u := by
  have hj : k < s.length := (List.getElem?_eq_some_iff.1 hq).1
  have h1 : v[k]? = some (v[k]'(by rw [h.row.1]; exact hj)) := List.getElem?_eq_getElem _
  have h2 : cs[k]? = some (cs[k]'(by rw [h.row.2.1]; exact hj)) := List.getElem?_eq_getElem _
  exact ⟨_, _, take_one h1, h2, h.rng k _ h2, (h.row.2.2 k q _ _ hq h1 h2).mono (fun _ h => h) h.below.size (fun b _ hb => h.below.block b hb)⟩

/-- An int, a bool that lies in the struct, at whatever place. -/
theorem WSt.seei (h : WSt A w0 C o cs s v bs k w a n c) (j : Nat) (hq : s[j]? = some .i) : ∃ x, cs[j]? = some (.int .i64 x) ∧ w.cell? ⟨C, o + j, none⟩ = some (.int .i64 x) := by
  have hj : j < s.length := (List.getElem?_eq_some_iff.1 hq).1
  have h1 : v[j]? = some (v[j]'(by rw [h.row.1]; exact hj)) := List.getElem?_eq_getElem _
  have h2 : cs[j]? = some (cs[j]'(by rw [h.row.2.1]; exact hj)) := List.getElem?_eq_getElem _
  obtain ⟨x, -, e, -⟩ := rep_i (h.row.2.2 j _ _ _ hq h1 h2)
  rw [e] at h2
  exact ⟨x, h2, h.rng j _ h2⟩
theorem WSt.seeb (h : WSt A w0 C o cs s v bs k w a n c) (j : Nat) (hq : s[j]? = some .b) : ∃ x, cs[j]? = some (.bool x) ∧ w.cell? ⟨C, o + j, none⟩ = some (.bool x) := by
  have hj : j < s.length := (List.getElem?_eq_some_iff.1 hq).1
  have h1 : v[j]? = some (v[j]'(by rw [h.row.1]; exact hj)) := List.getElem?_eq_getElem _
  have h2 : cs[j]? = some (cs[j]'(by rw [h.row.2.1]; exact hj)) := List.getElem?_eq_getElem _
  obtain ⟨x, -, e⟩ := rep_b (h.row.2.2 j _ _ _ hq h1 h2)
  rw [e] at h2
  exact ⟨x, h2, h.rng j _ h2⟩

/-- An int is written. -/
theorem WSt.int (h : WSt A w0 C o cs s v bs k w a n c) (hq : s[k]? = some .i) : ∃ x, cs[k]? = some (.int .i64 x) ∧ w.cell? ⟨C, o + k, none⟩ = some (.int .i64 x) ∧ Calls Try.prog 52 #[.slice a n c, .int .i64 x] w (WNext A w0 C o cs s v bs (k + 1) w) := by
  obtain ⟨x, u, h1, h2, h3, h4⟩ := h.at hq
  obtain ⟨y, rfl, rfl, hy⟩ := rep_i h4
  refine ⟨y, h2, h3, (RPutInt_any a n c _ y w h.cells h.nil h.len hy.1 hy.2 (by have := h.fits (m := 1); rw [h1, encRow_one] at this; exact this)).mono fun e w' hw => h.next (m := 1) (Below.refl _ _) ?_⟩
  rw [h1, encRow_one]
  exact hw.c
theorem WSt.bool (h : WSt A w0 C o cs s v bs k w a n c) (hq : s[k]? = some .b) : ∃ x, cs[k]? = some (.bool x) ∧ w.cell? ⟨C, o + k, none⟩ = some (.bool x) ∧ Calls Try.prog 53 #[.slice a n c, .bool x] w (WNext A w0 C o cs s v bs (k + 1) w) := by
  obtain ⟨x, u, h1, h2, h3, h4⟩ := h.at hq
  obtain ⟨y, rfl, rfl⟩ := rep_b h4
  refine ⟨y, h2, h3, (RPutBool_any a n c _ y w h.cells h.nil h.len (by have := h.fits (m := 1); rw [h1, encRow_one] at this; exact this)).mono fun e w' hw => h.next (m := 1) (Below.refl _ _) ?_⟩
  rw [h1, encRow_one]
  exact hw.c
theorem WSt.text (h : WSt A w0 C o cs s v bs k w a n c) (hq : s[k]? = some .t) : ∃ x, cs[k]? = some (.string x) ∧ w.cell? ⟨C, o + k, none⟩ = some (.string x) ∧ Calls Try.prog 54 #[.slice a n c, .string x] w (WNext A w0 C o cs s v bs (k + 1) w) := by
  obtain ⟨x, u, h1, h2, h3, h4⟩ := h.at hq
  obtain ⟨y, rfl, rfl, hy⟩ := rep_t h4
  refine ⟨y, h2, h3, (RPutText_any a n c _ y w h.cells h.nil h.len (by have := h.fits (m := 1); rw [h1, encRow_one] at this; exact this)).mono fun e w' hw => h.next (m := 1) (Below.refl _ _) ?_⟩
  rw [h1, encRow_one]
  exact hw.c
theorem WSt.ints (h : WSt A w0 C o cs s v bs k w a n c) (hq : s[k]? = some .l) : ∃ b m d, cs[k]? = some (.slice b m d) ∧ w.cell? ⟨C, o + k, none⟩ = some (.slice b m d) ∧ Calls Try.prog 55 #[.slice a n c, .slice b m d] w (WNext A w0 C o cs s v bs (k + 1) w) := by
  obtain ⟨x, u, h1, h2, h3, h4⟩ := h.at hq
  obtain ⟨l, b, m, d, rfl, rfl, hl, hc, hm, hn, hA, hw, hx⟩ := rep_l h4
  refine ⟨b, m, d, h2, h3, (RPutInts_any a n c _ b m d l w h.cells h.nil h.len hx hl ?_ hw (by have := h.fits (m := 1); rw [h1, encRow_one] at this; exact this)).mono fun e w' hw => h.next (m := 1) (Below.refl _ _) ?_⟩
  · have h5 := h.fits (m := 1)
    rw [h1, encRow_one] at h5
    have h6 : l.length ≤ (encL l).length := encL_ge l
    have h7 : (encV (.l l)).length = (encL l).length := rfl
    omega
  · rw [h1, encRow_one]
    exact hw.c
/-- A number is written (Put of one). -/
theorem WSt.num (h : WSt A w0 C o cs s v bs k w a n c) (hq : s[k]? = some .u) : ∃ x : Nat, cs[k]? = some (.int .u64 (x : Int)) ∧ w.cell? ⟨C, o + k, none⟩ = some (.int .u64 (x : Int)) ∧ Calls Try.prog 26 #[.slice a n c, .slice (some ⟨w.heap.size, 0, none⟩) 1 1] (w.alloc (.cells #[.int .u64 (x : Int)] 28)) (WNext A w0 C o cs s v bs (k + 1) w) := by
  obtain ⟨x, u, h1, h2, h3, h4⟩ := h.at hq
  obtain ⟨y, rfl, rfl, hy⟩ := rep_u h4
  refine ⟨y, h2, h3, (RPut_one a n c _ y w _ rfl h.cells h.nil h.len hy (by have := h.fits (m := 1); rw [h1, encRow_one] at this; exact this)).mono fun e w' hw => h.next (m := 1) (Below.refl _ _) ?_⟩
  rw [h1, encRow_one]
  exact hw.c
/-- A slice of structs. -/
theorem WSt.list {F : Nat} {t : List Fld} (h : WSt A w0 C o cs s v bs k w a n c) (hF : RWriterE F t) (hq : s[k]? = some (.e t)) : ∃ b m d, cs[k]? = some (.slice b m d) ∧ w.cell? ⟨C, o + k, none⟩ = some (.slice b m d) ∧ Calls Try.prog F #[.slice a n c, .slice b m d] w (WNext A w0 C o cs s v bs (k + 1) w) := by
  obtain ⟨x, u, h1, h2, h3, h4⟩ := h.at hq
  obtain ⟨b, m, d, rfl⟩ := rep_e h4
  refine ⟨b, m, d, h2, h3, (hF a n c _ x _ w h.cells h.nil h.len h4 (by have := h.fits (m := 1); rw [h1, encRow_one] at this; exact this)).mono fun e w' hw => h.next (m := 1) (Below.refl _ _) ?_⟩
  rw [h1, encRow_one]
  exact hw
/-- A struct within the struct. -/
theorem WSt.sub {F m : Nat} {t : List Fld} (h : WSt A w0 C o cs s v bs k w a n c) (hF : RWriter F t) (hs : (s.drop k).take m = t) (ht : t.length = m) : ∃ ce : List Value, Hid (ce.length = m) ∧ Hid (w.rangeAt C (o + k) ce) ∧ Calls Try.prog F #[.slice a n c, .agg ce.toArray] w (WNext A w0 C o cs s v bs (k + m) w) := by
  have h1 := h.row.sub hs ht
  refine ⟨(cs.drop k).take m, Lib.hid (by rw [h1.2.1, ht]), Lib.hid (fun j u hj => ?_), (hF (A := A) a n c _ ((cs.drop k).take m).toArray _ w h.cells h.nil h.len ?_ h.fits).mono fun e w' hw => h.next (Below.refl _ _) hw⟩
  · have hj2 : j < m := by have := (List.getElem?_eq_some_iff.1 hj).1; rw [h1.2.1, ht] at this; exact this
    rw [get_sub _ _ _ _ hj2] at hj
    rw [Nat.add_assoc]
    exact h.rng _ _ hj
  · exact RowRep.under (by simpa using h1) h.below
/-- The struct is written. -/
theorem WSt.last (h : WSt A w0 C o cs s v bs k w a n c) (hk : s.length = k) : WroteC w0 (bs ++ encRow v) (.returned (.slice a n c)) w := by
  have e : v.take k = v := List.take_of_length_le (by rw [h.row.1]; omega)
  have h1 := h.cells
  have h2 := h.len
  rw [e] at h1 h2
  exact ⟨a, n, c, rfl, Lib.hid h1, Lib.hid h2, Lib.hid h.nil, Lib.hid h.below⟩

theorem rep_at {s : List Fld} {q : Fld} {o m j : Nat} (hs : (s.drop o).take m = List.replicate m q) (hj : j < m) : s[o + j]? = some q := by
  rw [← get_sub s o m j hj, hs, List.getElem?_replicate, if_pos hj]
end

/-! ### lists of structs -/
/-- Rows that lie behind b. -/
def RowsAt (A : Nat → Prop) (w : World) (t : List Fld) (rows : List (List V)) (b : Option Addr) : Prop := ∃ f : Nat → Nat → Value, (∀ r, r ∈ rows → r.length = t.length) ∧
  (0 < rows.length → ∃ g o, b = some ⟨g, o, none⟩ ∧ A g ∧ g < w.heap.size ∧ ∀ i j, i < rows.length → j < t.length → w.cell? ⟨g, o + (i * t.length + j), none⟩ = some (f i j)) ∧
  ∀ (i j : Nat) (r : List V) (q : Fld) (v : V), rows[i]? = some r → t[j]? = some q → r[j]? = some v → Rep A w q v (f i j)

/-- i rows are written, behind the bytes B and their number. -/
structure LSt (A : Nat → Prop) (w1 : World) (t : List Fld) (rows : List (List V)) (b : Option Addr) (B : Bytes) (i : Nat) (w : World) (a : Option Addr) (n c : Nat) : Prop where
  lay : RowsAt A w1 t rows b
  cells : CellsAt w a (bc (B ++ leb rows.length ++ encRows (rows.take i)))
  len : (B ++ leb rows.length ++ encRows (rows.take i)).length = n
  nil : a = none → n = 0 ∧ c = 0
  below : Below w1.heap.size w1 w
  bound : B.length + (encV (.e rows)).length ≤ 140737488355000

theorem rows_step (rows : List (List V)) (i : Nat) (h : i < rows.length) : encRows (rows.take (i + 1)) = encRows (rows.take i) ++ encRow rows[i] := by
  rw [List.take_succ_eq_append_getElem h, encRows_append, encRows_one]
theorem rows_bound (rows : List (List V)) (i : Nat) : (encRows (rows.take i)).length ≤ (encRows rows).length := by
  conv => rhs; rw [← List.take_append_drop i rows, encRows_append, List.length_append]
  omega

section
variable {A : Nat → Prop} {w1 : World} {t : List Fld} {rows : List (List V)} {b : Option Addr} {B : Bytes} {i : Nat} {w : World} {a : Option Addr} {n c : Nat}

/-- The next row: its struct, of which nothing is written yet. -/
theorem LSt.row {m : Nat} (h : LSt A w1 t rows b B i w a n c) (hm : t.length = m) (hi : i < rows.length) : ∃ g o ce, b = some ⟨g, o, none⟩ ∧ Hid (g < w1.heap.size) ∧ Hid (ce.length = m) ∧ Hid (WSt A w g (o + i * m) ce t (rows[i]) (B ++ leb rows.length ++ encRows (rows.take i)) 0 w a n c) := by
  obtain ⟨f, hs, hx, hr⟩ := h.lay
  obtain ⟨g, o, ce, e1, hA, hg, hrow, hrng, hl⟩ := row_open hm hs hx hr hi h.below
  refine ⟨g, o, ce, e1, Lib.hid hg, Lib.hid hl, Lib.hid ⟨hrow.under h.below, Nat.lt_of_lt_of_le hg h.below.size, hrng, by simpa [encRow] using h.cells, by simpa [encRow] using h.len, h.nil, Below.refl _ _, ?_⟩⟩
  have h1 := rows_bound rows (i + 1)
  have h2 := h.bound
  rw [rows_step rows i hi, List.length_append] at h1
  rw [show encV (.e rows) = leb rows.length ++ encRows rows by simp [encV], List.length_append] at h2
  rw [List.length_append, List.length_append]
  omega
/-- The row is written. -/
theorem LSt.step {g o : Nat} {ce : List Value} {k : Nat} {wr : World} {ar : Option Addr} {nr cr : Nat} (h : LSt A w1 t rows b B i w a n c) (hi : i < rows.length) (hr : WSt A w g o ce t (rows[i]) (B ++ leb rows.length ++ encRows (rows.take i)) k wr ar nr cr) (hk : t.length = k) : LSt A w1 t rows b B (i + 1) wr ar nr cr := by
  obtain ⟨a2, n2, c2, he, h1, h2, h3, h4⟩ := hr.last hk
  injection he with he
  injection he with e1 e2 e3
  subst e1 e2 e3
  have h1 := h1.out
  have h2 := h2.out
  rw [List.append_assoc, ← rows_step rows i hi] at h1 h2
  exact ⟨h.lay, h1, h2, h3.out, h.below.trans (h4.out.mono h.below.size), h.bound⟩
/-- The row was given to a function of its own. -/
theorem LSt.did {F m : Nat} (h : LSt A w1 t rows b B i w a n c) (hF : RWriter F t) (hm : t.length = m) (hi : i < rows.length) : ∃ g o ce, b = some ⟨g, o, none⟩ ∧ Hid (ce.length = m) ∧ Hid (w.rangeAt g (o + i * m) ce) ∧
    Calls Try.prog F #[.slice a n c, .agg ce.toArray] w (fun e w' => ∃ a n c, e = .returned (.slice a n c) ∧ Hid (LSt A w1 t rows b B (i + 1) w' a n c) ∧ Hid (Below w.heap.size w w')) := by
  obtain ⟨g, o, ce, rfl, hg, hl, hw⟩ := h.row hm hi
  obtain ⟨ce2, h1, h2, h3⟩ := hw.out.sub (m := m) hF (by rw [List.drop_zero, List.take_of_length_le (by omega)]) hm
  refine ⟨g, o, ce2, rfl, h1, h2, h3.mono ?_⟩
  rintro e w' ⟨a2, n2, c2, rfl, hn, hb⟩
  exact ⟨a2, n2, c2, rfl, Lib.hid (h.step hi hn.out (by omega)), hb⟩
/-- A row that is laid in a block of its own. -/
theorem LSt.copy {g o : Nat} {ce : List Value} {r : List V} {B2 : Bytes} (T : TypeId) (hr : WSt A w g o ce t r B2 0 w a n c) : WSt A w w.heap.size 0 ce t r B2 0 (w.alloc (.cells ce.toArray T)) a n c :=
  have hb : Below w.heap.size w (w.alloc (.cells ce.toArray T)) := (Below.refl _ _).alloc (Nat.le_refl _) _
  ⟨hr.row, by simp, by have h := rng_blk (heap_alloc_new w (.cells ce.toArray T)); rwa [List.toList_toArray] at h, hr.cells.below hb, hr.len, hr.nil, hb, hr.bound⟩
/-- All rows are written. -/
theorem LSt.last (h : LSt A w1 t rows b B i w a n c) (hi : rows.length ≤ i) : WroteC w1 (B ++ encV (.e rows)) (.returned (.slice a n c)) w := by
  have e : rows.take i = rows := List.take_of_length_le hi
  have h1 := h.cells
  have h2 := h.len
  rw [e, List.append_assoc] at h1 h2
  rw [show encV (.e rows) = leb rows.length ++ encRows rows by simp [encV]]
  exact ⟨a, n, c, rfl, Lib.hid h1, Lib.hid h2, Lib.hid h.nil, Lib.hid h.below⟩

/-- A slice of structs, opened; its number is written. -/
theorem rows_put {x : V} {u : Value} (h : CellsAt w1 a (bc B)) (hn : a = none → n = 0 ∧ c = 0) (hl : B.length = n) (hr : Rep A w1 (.e t) x u) (hb : B.length + (encV x).length ≤ 140737488355000) : ∃ rows b m d, x = .e rows ∧ u = .slice b m d ∧ Hid (rows.length = m) ∧ m ≤ 9223372036854775807 ∧ Hid (RowsAt A w1 t rows b) ∧
    Calls Try.prog 26 #[.slice a n c, .slice (some ⟨w1.heap.size, 0, none⟩) 1 1] (w1.alloc (.cells #[.int .u64 (m : Int)] 28)) (fun e w' => ∃ a n c, e = .returned (.slice a n c) ∧ Hid (LSt A w1 t rows b B 0 w' a n c) ∧ Hid (Below w1.heap.size w1 w')) := by
  obtain ⟨rows, f, b, d, rfl, rfl, hm, hs, hx, hf⟩ := rows_open hr
  refine ⟨rows, b, rows.length, d, rfl, rfl, Lib.hid rfl, hm, Lib.hid ⟨f, hs, hx, hf⟩, (RPut_one a n c B rows.length w1 _ rfl h hn hl (by omega) ?_).mono ?_⟩
  · rw [show encV (.e rows) = leb rows.length ++ encRows rows by simp [encV], List.length_append] at hb
    omega
  · rintro e w' hw
    obtain ⟨a2, n2, c2, rfl, h1, h2, h3, h4⟩ := hw.c
    exact ⟨a2, n2, c2, rfl, Lib.hid ⟨⟨f, hs, hx, hf⟩, by simpa [encRows] using h1.out, by simpa [encRows] using h2.out, h3.out, h4.out, hb⟩, h4⟩
end

section
variable {A : Nat → Prop} {w0 : World} {C o : Nat} {cs : List Value} {s : List Fld} {v : List V} {bs : Bytes} {k : Nat} {w : World} {a : Option Addr} {n c : Nat}
/-- A slice of structs in the struct, opened; its number is written. -/
theorem WSt.rows {t : List Fld} (h : WSt A w0 C o cs s v bs k w a n c) (hq : s[k]? = some (.e t)) : ∃ rows b m d, Hid ((v.drop k).take 1 = [.e rows]) ∧ w.cell? ⟨C, o + k, none⟩ = some (.slice b m d) ∧ Hid (rows.length = m) ∧ m ≤ 9223372036854775807 ∧ Hid (RowsAt A w t rows b) ∧
    Calls Try.prog 26 #[.slice a n c, .slice (some ⟨w.heap.size, 0, none⟩) 1 1] (w.alloc (.cells #[.int .u64 (m : Int)] 28)) (fun e w' => ∃ a n c, e = .returned (.slice a n c) ∧ Hid (LSt A w t rows b (bs ++ encRow (v.take k)) 0 w' a n c) ∧ Hid (Below w.heap.size w w')) := by
  obtain ⟨x, u, h1, h2, h3, h4⟩ := h.at hq
  obtain ⟨rows, b, m, d, rfl, rfl, e1, e2, e3, e4⟩ := rows_put h.cells h.nil h.len h4 (by have := h.fits (m := 1); rw [h1, encRow_one] at this; exact this)
  exact ⟨rows, b, m, d, Lib.hid h1, h3, e1, e2, e3, e4⟩
/-- All its rows are written. -/
theorem WSt.rowsEnd {t : List Fld} {rows : List (List V)} {b : Option Addr} {i : Nat} {w2 : World} {a2 : Option Addr} {n2 c2 : Nat} (h : WSt A w0 C o cs s v bs k w a n c) (hv : (v.drop k).take 1 = [.e rows]) (hl : LSt A w t rows b (bs ++ encRow (v.take k)) i w2 a2 n2 c2) (hi : rows.length ≤ i) : Hid (WSt A w0 C o cs s v bs (k + 1) w2 a2 n2 c2) := by
  obtain ⟨a3, n3, c3, he, h1, -⟩ := h.next (m := 1) (Below.refl _ _) (by rw [hv, encRow_one]; exact hl.last hi)
  injection he with he
  injection he with e1 e2 e3
  subst e1 e2 e3
  exact h1
end
end Go.Proofs.Ytbcpdjhpceimlaa
