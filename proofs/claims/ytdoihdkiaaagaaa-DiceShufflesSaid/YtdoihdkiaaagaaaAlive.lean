/-
  'alive': the fixed examples hold; the call makes memory of its own alone.
-/
import Derived.Test.YtdoihdkiaaagaaaShuf
namespace Go.Proofs.Ytdoihdkiaaagaaa
open Go.ChangeShapes Go.WideShapes Go.ChangeAt Go.RowKit

/-- What the shells tell of a slice of integers that came in. -/
theorem isRow_cells {w : World} {a : Option Addr} {len cap : Nat} {zs : List Int}
    (h : (a = none ∧ len = 0 ∧ cap = 0 ∧ zs = []) ∨
      ∃ x, a = some x ∧ len ≤ cap ∧ cap ≤ maxLen ∧ zs.length = cap ∧ (∀ i, i < zs.length → w.cell? (x.add i) = some (.int .i64 (zs.getD i 0))) ∧ ∀ n ∈ zs, (Lit.int .i64 n).wf = true) :
    CellsAt w a ((zs.take len).map (Value.int .i64)) ∧ (a = none → len = 0 ∧ cap = 0) ∧ (zs.take len).length = len := by
  rcases h with ⟨rfl, rfl, rfl, rfl⟩ | ⟨x, rfl, hl, _, hz, hc, _⟩
  · exact ⟨.inl rfl, fun _ => ⟨rfl, rfl⟩, rfl⟩
  · obtain ⟨_, _, hv, h⟩ := rd_of_cells (k := .i64) hl hz hc
    cases hv
    exact ⟨h, (fun h => by cases h), by simp; omega⟩

theorem count_take_succ (l : List Int) (j : Nat) (x : Int) (h : j < l.length) : (l.take (j + 1)).count x = (l.take j).count x + if l.getD j 0 = x then 1 else 0 := by
  rw [List.take_succ_eq_append_getElem h, List.count_append, List.count_singleton]
  simp only [List.getD_eq_getElem?_getD, List.getElem?_eq_getElem h, Option.getD_some, beq_iff_eq]

theorem drew_own {w : World} {base e size n : Nat} {v : Value} {xs : List Value} (h : Hid (w.ownsRow base e size v n xs)) : Hid (w.drew.ownsRow base e size v n xs) :=
  h.out.kept (row := none) ⟨rfl, rfl, rfl, Nat.le_refl _, fun _ _ _ => rfl⟩ (by cases v.ownBlock <;> simp)

theorem sub_sd (s : Int) (_h : 0 ≤ s ∧ s ≤ 18446744073709551615) : (IntKind.u64.wrap (sd s - s) == 11400714819323198485) = true := by
  have : IntKind.u64.wrap (sd s - s) = 11400714819323198485 := by
    unfold sd
    simp only [IntKind.wrap_u64]
    omega
  rw [this]
  rfl

theorem ex1 : (mixv 0 == 16294208416658607535) = true := by decide +kernel
theorem ex2 : (sd 0 == 11400714819323198485) = true := by decide +kernel
theorem ex3 : belowN 0 1 = 0 := by decide +kernel
theorem ex4 : belowS 0 1 = sd 0 := by decide +kernel
theorem ex5 : belowN 5 0 = 0 := by decide +kernel
theorem ex6 : belowS 5 0 = 5 := by decide +kernel

theorem rd_lit (w : World) (xs : List Int) : CellsAt (w.alloc (.cells (xs.map (Value.int .i64)).toArray 3)) (some ⟨w.heap.size, 0, none⟩) (xs.map (Value.int .i64)) := by
  by_cases h : xs = []
  · subst h; exact .inl rfl
  · refine .inr ⟨w.heap.size, 0, rfl, fun j u hj => ?_⟩
    rw [cell_of_row (w.alloc _) w.heap.size (0 + j) _ 3 (0, 0) (heap_alloc_new w _), Nat.zero_add]
    simpa using hj

set_option maxRecDepth 100000 in
set_option maxHeartbeats 1000000 in
theorem alive_any (w : World) : Calls Try.prog 10 #[] w fun e w' => e = .returned (.bool true) ∧ Below w.heap.size w w' := by
  have h1 := ex1
  have h2 := ex2
  have h3 := ex3
  have h4 := ex4
  have h5 := ex5
  have h6 := ex6
  go_enter Try.func10, Try.ntmps10
  go_wp2_with (first
    | (go_at_call 8; refine (next_any _ _).mono ?_; rintro e w2 ⟨rfl, rfl⟩)
    | (go_at_call 11; refine (below_any _ _ _ (by decide)).mono ?_; rintro e w2 ⟨rfl, rfl⟩))
  refine (shuffle_core [9] 3 3 _ 1 1 [9] _ (rd_lit w [9]) (fun h => by cases h) rfl (by decide) rfl rfl).mono ?_
  rintro e w2 ⟨v, rfl, how, hbel⟩
  obtain ⟨a', c', rfl, hc⟩ := ownsRow_rd how
  have hb2 : Below w.heap.size w w2 := ((Below.refl _ _).alloc (Nat.le_refl _) _).trans (hbel.mono (by simp))
  have HC := Lib.hid hc
  clear hc how hbel
  go_wp2_with (go_at_call 15; refine (same_eq _ _ 1 [9] _ ⟨_, _, rfl, HC.out.below ((Below.refl _ _).alloc (Nat.le_refl _) _)⟩ ⟨_, _, rfl, rd_lit w2 [9]⟩ rfl (by decide)).mono ?_; rintro e w3 ⟨rfl, hb3⟩)
  go_ret
  exact ⟨rfl, (hb2.alloc (hb2.size) _).trans (hb3.mono (by have := hb2.size; simp; omega))⟩
end Go.Proofs.Ytdoihdkiaaagaaa
