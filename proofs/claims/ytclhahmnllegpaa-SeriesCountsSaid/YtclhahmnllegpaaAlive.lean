/-
  'alive' of layer 55: the chapter's examples hold; the call makes memory of its own alone.
-/
import Derived.Test.YtclhahmnllegpaaDec
namespace Go.Proofs.Ytclhahmnllegpaa
open Go.ChangeShapes Go.WideShapes Go.ChangeAt Go.RowKit

theorem ex1 : DecR [0, -1, 0] (max 3 1) 0 true := by
  refine .inl ⟨rfl, 3, by decide, by decide, ?_, ?_, by decide⟩
  · exact .inl (by decide)
  · intro m m0 m1 h
    have : m = 1 ∨ m = 2 := by omega
    rcases this with rfl | rfl
    · rcases h with h | h | h <;> revert h <;> decide
    · rcases h with h | h | h <;> revert h <;> decide

theorem ex2 : DecR [0, -1] (max 3 1) (-1) false := by
  refine .inr ⟨rfl, rfl, ?_⟩
  intro m m0 m1 h
  have m1 : m ≤ 2 := m1
  have : m = 1 ∨ m = 2 := by omega
  rcases this with rfl | rfl
  · rcases h with h | h | h <;> revert h <;> decide
  · rcases h with h | h | h <;> revert h <;> decide

theorem ex3 : resV 4 7 [0, -1, 0] = .agg #[.int .i64 4, .int .i64 7, .int .i64 2, .int .i64 0, .int .i64 1] := rfl
theorem ex4 : loserOf [1, -1] = 0 := rfl

theorem ex5 (w : World) : Calls Try.prog 13 #[.int .i64 4, .int .i64 7, .slice (some ⟨w.heap.size, 0, none⟩) 3 3] (w.alloc (.cells #[.int .i64 0, .int .i64 (-1), .int .i64 0] 3)) fun e w' =>
    e = .returned (.agg #[.int .i64 4, .int .i64 7, .int .i64 2, .int .i64 0, .int .i64 1]) ∧ Below (w.heap.size + 1) (w.alloc (.cells #[.int .i64 0, .int .i64 (-1), .int .i64 0] 3)) w' :=
  (result_any 4 7 _ 3 3 [0, -1, 0] _ (rd_lit w .i64 3 [0, -1, 0]) rfl (by decide)).mono fun e w' ⟨h1, h2⟩ => ⟨by rw [h1, ex3], by simpa using h2⟩

theorem ex6 (w : World) (b : Nat) (hb : b = w.heap.size) : Calls Try.prog 11 #[.slice (some ⟨b, 0, none⟩) 2 2] (w.alloc (.cells #[.int .i64 1, .int .i64 (-1)] 3)) fun e w' =>
    e = .returned (.int .i64 0) ∧ w.alloc (.cells #[.int .i64 1, .int .i64 (-1)] 3) = w' := by
  subst hb
  exact (loser_any _ 2 2 [1, -1] _ (rd_lit w .i64 3 [1, -1]) rfl (by decide)).mono fun e w' ⟨h1, h2⟩ => ⟨by rw [h1, ex4], h2⟩

set_option maxRecDepth 100000 in
set_option maxHeartbeats 2000000 in
theorem alive_any (w : World) : Calls Try.prog 8 #[] w fun e w' => e = .returned (.bool true) ∧ Below w.heap.size w w' := by
  go_enter Try.func8, Try.ntmps8
  go_wp2_with fail
  refine (decided_any 3 _ 3 3 [0, -1, 0] _ (rd_lit w .i64 3 [0, -1, 0]) rfl (by decide) (by decide)).mono ?_
  rintro e w2 ⟨p, ok, rfl, hd, hb2⟩
  obtain ⟨rfl, rfl⟩ := decR_one hd ex1
  have hb2' : Below w.heap.size w w2 := ((Below.refl _ _).alloc (Nat.le_refl _) _).trans (hb2.mono (by simp))
  clear hd hb2
  go_wp2_with fail
  refine (decided_any 3 _ 2 2 [0, -1] _ (rd_lit w2 .i64 3 [0, -1]) rfl (by decide) (by decide)).mono ?_
  rintro e w3 ⟨p, ok, rfl, hd, hb3⟩
  obtain ⟨rfl, rfl⟩ := decR_one hd ex2
  have hb3' : Below w.heap.size w w3 := (hb2'.alloc hb2'.size _).trans (hb3.mono (by have := hb2'.size; simp; omega))
  clear hd hb3 hb2'
  go_wp2_with fail
  refine (ex5 w3).mono ?_
  rintro e w4 ⟨rfl, hb4⟩
  have hb4' : Below w.heap.size w w4 := (hb3'.alloc hb3'.size _).trans (hb4.mono (by have := hb3'.size; omega))
  clear hb4 hb3'
  go_wp2_with (go_at_call 11; refine (ex6 _ _ (by simp)).mono ?_; rintro e w5 ⟨rfl, rfl⟩)
  go_ret
  exact ⟨rfl, (hb4'.alloc hb4'.size _).alloc (by have := hb4'.size; simp; omega) _⟩
end Go.Proofs.Ytclhahmnllegpaa
