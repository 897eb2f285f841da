/-
  Small values, in plain Lean: texts of at most N bytes, lists and slices of at most L elements; what follows from it; how it is shown cell by cell.
-/
import Derived.Test.YtbcpdjhpceimlaaPLaw
import Derived.Test.YtbcpdjhpceimlaaEncDec
namespace Go.Proofs.Ytbcpdjhpceimlaa
open Go.ChangeShapes Go.WideShapes Go.ChangeAt Go.RowKit
set_option linter.unusedVariables false

mutual
def fewV (N L : Nat) : Fld → V → Prop
  | .i, .i n => In64 n
  | .b, .b _ => True
  | .t, .t s => s.length ≤ N
  | .u, .u n => n < 18446744073709551616
  | .l, .l xs => xs.length ≤ L ∧ ∀ x ∈ xs, In64 x
  | .e s, .e rows => rows.length ≤ L ∧ fewRows N L s rows
  | _, _ => False
def fewRow (N L : Nat) : List Fld → List V → Prop
  | [], [] => True
  | q :: s, v :: r => fewV N L q v ∧ fewRow N L s r
  | _, _ => False
def fewRows (N L : Nat) : List Fld → List (List V) → Prop
  | _, [] => True
  | s, r :: rs => fewRow N L s r ∧ fewRows N L s rs
end

mutual
theorem few_okV : ∀ (q : Fld) (v : V), fewV 32 100 q v → okV q v
  | .i, .i n, h => h
  | .b, .b x, h => trivial
  | .t, .t s, h => h
  | .u, .u n, h => h
  | .l, .l xs, h => by
    have h : xs.length ≤ 100 ∧ ∀ x ∈ xs, In64 x := h
    exact ⟨by omega, h.2⟩
  | .e s, .e rows, h => by
    have h : rows.length ≤ 100 ∧ fewRows 32 100 s rows := h
    exact ⟨by omega, few_okRows s rows h.2⟩
theorem few_okRow : ∀ (s : List Fld) (r : List V), fewRow 32 100 s r → okRow s r
  | [], [], h => trivial
  | q :: s, v :: r, h => by
    have h : fewV 32 100 q v ∧ fewRow 32 100 s r := h
    exact ⟨few_okV q v h.1, few_okRow s r h.2⟩
theorem few_okRows : ∀ (s : List Fld) (rows : List (List V)), fewRows 32 100 s rows → okRows s rows
  | s, [], h => trivial
  | s, r :: rows, h => by
    have h : fewRow 32 100 s r ∧ fewRows 32 100 s rows := h
    exact ⟨few_okRow s r h.1, few_okRows s rows h.2⟩
end

mutual
/-- How long an encoding can be. -/
def bndV (N L : Nat) : Fld → Nat
  | .i => 10
  | .b => 10
  | .t => 10 + N
  | .u => 10
  | .l => 10 + 10 * L
  | .e s => 10 + L * bndRow N L s
def bndRow (N L : Nat) : List Fld → Nat
  | [] => 0
  | q :: s => bndV N L q + bndRow N L s
end

mutual
theorem bndV_le (N L : Nat) : ∀ (q : Fld) (v : V), fewV N L q v → (encV v).length ≤ bndV N L q
  | .i, .i n, h => by simp only [encV, bndV]; exact encI_len n
  | .b, .b x, h => by simp only [encV, bndV]; exact encB_len x
  | .t, .t s, h => by
    have h : s.length ≤ N := h
    have := encT_len s
    simp only [encV, bndV]; omega
  | .u, .u n, h => by simp only [encV, bndV]; exact (leb_length n).2
  | .l, .l xs, h => by
    have h : xs.length ≤ L ∧ ∀ x ∈ xs, In64 x := h
    have := encL_len xs
    simp only [encV, bndV]; omega
  | .e s, .e rows, h => by
    have h : rows.length ≤ L ∧ fewRows N L s rows := h
    have h1 := bndRows_le N L s rows h.2
    have h2 := (leb_length rows.length).2
    have h3 := Nat.mul_le_mul_right (bndRow N L s) h.1
    simp only [encV, bndV, List.length_append]; omega
theorem bndRow_le (N L : Nat) : ∀ (s : List Fld) (r : List V), fewRow N L s r → (encRow r).length ≤ bndRow N L s
  | [], [], h => by simp [encRow, bndRow]
  | q :: s, v :: r, h => by
    have h : fewV N L q v ∧ fewRow N L s r := h
    have h1 := bndV_le N L q v h.1
    have h2 := bndRow_le N L s r h.2
    simp only [encRow, bndRow, List.length_append]; omega
theorem bndRows_le (N L : Nat) : ∀ (s : List Fld) (rows : List (List V)), fewRows N L s rows → (encRows rows).length ≤ rows.length * bndRow N L s
  | s, [], h => by simp [encRows]
  | s, r :: rows, h => by
    have h : fewRow N L s r ∧ fewRows N L s rows := h
    have h1 := bndRow_le N L s r h.1
    have h2 := bndRows_le N L s rows h.2
    simp only [encRows, List.length_append, List.length_cons, Nat.succ_mul]; omega
end

theorem bnd_state : bndRow 100 100 stateS ≤ 17000000000000 := by decide +kernel
theorem bnd_state32 : bndRow 32 100 stateS ≤ 17000000000000 := by decide +kernel

/-- A field that no test needs to look at. -/
def simpleF : Fld → Bool
  | .i => true
  | .b => true
  | .u => true
  | _ => false

theorem few_simple {A : Nat → Prop} {w : World} {q : Fld} {x : V} {u : Value} {N L : Nat} (hq : simpleF q = true) (h : Rep A w q x u) : fewV N L q x := by
  cases h with
  | i n h => exact h
  | b x => exact trivial
  | u n h => exact h
  | t s h => cases hq
  | l => cases hq
  | e => cases hq

theorem fewRow_iff {N L : Nat} : ∀ (s : List Fld) (v : List V), v.length = s.length → (∀ (j : Nat) (q : Fld) (x : V), s[j]? = some q → v[j]? = some x → fewV N L q x) → fewRow N L s v
  | [], [], _, _ => trivial
  | q :: s, x :: v, hl, h => ⟨h 0 q x rfl rfl, fewRow_iff s v (by simpa using hl) (fun j q' x' h1 h2 => h (j + 1) q' x' (by simpa using h1) (by simpa using h2))⟩
  | [], x :: v, hl, h => by simp at hl
  | q :: s, [], hl, h => by simp at hl
theorem fewRows_iff {N L : Nat} {s : List Fld} : ∀ (rows : List (List V)), (∀ (i : Nat) (r : List V), rows[i]? = some r → fewRow N L s r) → fewRows N L s rows
  | [], _ => trivial
  | r :: rows, h => ⟨h 0 r rfl, fewRows_iff rows (fun i r' h1 => h (i + 1) r' (by simpa using h1))⟩

/-- Of a row that reads as v: only the texts, lists and slices are to be looked at. -/
theorem few_of_row {A : Nat → Prop} {w : World} {s : List Fld} {v : List V} {cs : List Value} {N L : Nat} (hr : RowRep A w s v cs) (P : List Nat) (hP : ∀ (j : Nat) (q : Fld), s[j]? = some q → simpleF q = true ∨ j ∈ P)
    (h : ∀ (j : Nat) (q : Fld) (x : V), j ∈ P → s[j]? = some q → v[j]? = some x → fewV N L q x) : fewRow N L s v := by
  refine fewRow_iff s v hr.1 (fun j q x h1 h2 => ?_)
  rcases hP j q h1 with hq | hj
  · have hjl : j < s.length := (List.getElem?_eq_some_iff.1 h1).1
    exact few_simple hq (hr.2.2 j q x _ h1 h2 (List.getElem?_eq_getElem (by rw [hr.2.1]; exact hjl)))
  · exact h j q x hj h1 h2

/-- The places of a schema that are not simple. -/
def places (s : List Fld) : List Nat := (List.range s.length).filter fun j => match s[j]? with | some q => !simpleF q | none => false
theorem places_ok (s : List Fld) (j : Nat) (q : Fld) (h : s[j]? = some q) : simpleF q = true ∨ j ∈ places s := by
  cases hq : simpleF q with
  | true => exact .inl rfl
  | false =>
    right
    have hj : j < s.length := (List.getElem?_eq_some_iff.1 h).1
    obtain ⟨_, e⟩ := List.getElem?_eq_some_iff.1 h
    simp [places, List.mem_filter, hj, e, hq]

/-- What stands at a place is few. -/
def PlaceOk (N L : Nat) (s : List Fld) (v : List V) (p : Nat) : Prop := ∀ q x, s[p]? = some q → v[p]? = some x → fewV N L q x
theorem place_of {N L : Nat} {s : List Fld} {v : List V} {p : Nat} {q : Fld} {x : V} (hq : s[p]? = some q) (hx : v[p]? = some x) (h : fewV N L q x) : PlaceOk N L s v p := by
  intro q' x' h1 h2
  rw [hq] at h1; rw [hx] at h2
  cases h1; cases h2
  exact h

theorem few_of_places {A : Nat → Prop} {w : World} {s : List Fld} {v : List V} {f : Nat → Value} {N L : Nat} (hl : v.length = s.length) (hr : ∀ (j : Nat) (q : Fld) (x : V), s[j]? = some q → v[j]? = some x → Rep A w q x (f j))
    {ps : List Nat} (hp : places s = ps) (h : ∀ p ∈ ps, PlaceOk N L s v p) : fewRow N L s v := by
  subst hp
  refine fewRow_iff s v hl (fun j q x h1 h2 => ?_)
  rcases places_ok s j q h1 with hq | hj
  · exact few_simple hq (hr j q x h1 h2)
  · exact h j hj q x h1 h2

/-- What stands at a place of a row. -/
theorem row_at {A : Nat → Prop} {w : World} {s : List Fld} {v : List V} {f : Nat → Value} (hl : v.length = s.length) (hr : ∀ (j : Nat) (q : Fld) (x : V), s[j]? = some q → v[j]? = some x → Rep A w q x (f j)) {j : Nat} {q : Fld} (hj : s[j]? = some q) : ∃ x, v[j]? = some x ∧ Rep A w q x (f j) := by
  have hjl : j < s.length := (List.getElem?_eq_some_iff.1 hj).1
  have hx : v[j]? = some (v[j]'(by omega)) := List.getElem?_eq_getElem _
  exact ⟨_, hx, hr j q _ hj hx⟩
theorem row_t {A : Nat → Prop} {w : World} {s : List Fld} {v : List V} {f : Nat → Value} (hl : v.length = s.length) (hr : ∀ (j : Nat) (q : Fld) (x : V), s[j]? = some q → v[j]? = some x → Rep A w q x (f j)) {j : Nat} (hj : s[j]? = some .t) :
    ∃ b : ByteArray, f j = .string b ∧ b.size ≤ maxLen ∧ ∀ N L, b.size ≤ N → PlaceOk N L s v j := by
  obtain ⟨x, hx, hrep⟩ := row_at hl hr hj
  obtain ⟨b, rfl, hf, hm⟩ := rep_t hrep
  exact ⟨b, hf, hm, fun N L h => place_of hj hx (by show b.data.toList.length ≤ N; simpa using h)⟩
theorem row_l {A : Nat → Prop} {w : World} {s : List Fld} {v : List V} {f : Nat → Value} (hl : v.length = s.length) (hr : ∀ (j : Nat) (q : Fld) (x : V), s[j]? = some q → v[j]? = some x → Rep A w q x (f j)) {j : Nat} (hj : s[j]? = some .l) :
    ∃ a n c, f j = .slice a n c ∧ n ≤ maxLen ∧ ∀ N L, n ≤ L → PlaceOk N L s v j := by
  obtain ⟨x, hx, hrep⟩ := row_at hl hr hj
  obtain ⟨xs, a, n, c, rfl, hf, hn, hc, hm, -, -, hw, -⟩ := rep_l hrep
  exact ⟨a, n, c, hf, by omega, fun N L h => place_of hj hx ⟨by omega, hw⟩⟩
theorem row_e {A : Nat → Prop} {w : World} {s t : List Fld} {v : List V} {f : Nat → Value} (hl : v.length = s.length) (hr : ∀ (j : Nat) (q : Fld) (x : V), s[j]? = some q → v[j]? = some x → Rep A w q x (f j)) {j : Nat} (hj : s[j]? = some (.e t)) :
    ∃ a n c x, f j = .slice a n c ∧ n ≤ maxLen ∧ Rep A w (.e t) x (.slice a n c) ∧ ∀ N L, fewV N L (.e t) x → PlaceOk N L s v j := by
  obtain ⟨x, hx, hrep⟩ := row_at hl hr hj
  obtain ⟨a, n, c, hf⟩ := rep_e hrep
  rw [hf] at hrep
  obtain ⟨rows, g, rfl, -, h2, h3, -⟩ := vals_open hrep
  exact ⟨a, n, c, _, hf, by omega, hrep, fun N L h => place_of hj hx h⟩
end Go.Proofs.Ytbcpdjhpceimlaa
