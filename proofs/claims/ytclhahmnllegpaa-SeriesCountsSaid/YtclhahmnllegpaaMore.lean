/-
  Small words for the two laws that build another list of games.
-/
import Derived.Test.YtclhahmnllegpaaAlive
import Derived.Test.YtclhahmnllegpaaRef
namespace Go.Proofs.Ytclhahmnllegpaa
open Go.ChangeShapes Go.WideShapes Go.ChangeAt Go.RowKit

theorem take_map_succ (g : List Int) (k : Nat) (h : k < g.length) (f : Int → Value) : ((g.take (k + 1)).map f) = (g.take k).map f ++ [f (g.getD k 0)] := by
  rw [List.take_succ_eq_append_getElem h, List.map_append]
  simp [List.getD_eq_getElem?_getD, List.getElem?_eq_getElem h]

/-- Result, its numbers named. -/
theorem result_nat (x y : Int) (a : Option Addr) (n c : Nat) (g : List Int) (w : World) (h : CellsAt w a (g.map (Value.int .i64))) (hl : g.length = n) (hb : n ≤ 4611686018427387904) (u v : Nat) (hu : cw g 0 = u) (hv : cw g 1 = v) :
    Calls Try.prog 13 #[.int .i64 x, .int .i64 y, .slice a n c] w fun e w' => e = .returned (.agg #[.int .i64 x, .int .i64 y, .int .i64 (u : Int), .int .i64 (v : Int), .int .i64 ((n : Int) - u - v)]) ∧ Below w.heap.size w w' :=
  (result_any x y a n c g w h hl hb).mono fun e w' ⟨h1, h2⟩ => ⟨by rw [h1, resV, hu, hv, hl], h2⟩

theorem loser_nat (a : Option Addr) (n c : Nat) (g : List Int) (w : World) (h : CellsAt w a (g.map (Value.int .i64))) (hl : g.length = n) (hb : n ≤ 4611686018427387904) (ls : Int) (hls : loserOf g = ls) :
    Calls Try.prog 11 #[.slice a n c] w fun e w' => e = .returned (.int .i64 ls) ∧ w = w' := by
  subst hls
  exact loser_any a n c g w h hl hb

theorem wins_zero (a : Option Addr) (n c : Nat) (g : List Int) (p : Int) (w : World) (h : CellsAt w a (g.map (Value.int .i64))) (hl : g.length = n) (hb : n ≤ 4611686018427387904) (hz : cw g p = 0) :
    Calls Try.prog 9 #[.slice a n c, .int .i64 p] w fun e w' => e = .returned (.int .i64 0) ∧ w = w' :=
  (wins_any a n c g p w h hl hb).mono fun e w' ⟨h1, h2⟩ => ⟨by rw [h1, hz]; rfl, h2⟩

theorem wins_nat (a : Option Addr) (n c : Nat) (g : List Int) (p : Int) (w : World) (h : CellsAt w a (g.map (Value.int .i64))) (hl : g.length = n) (hb : n ≤ 4611686018427387904) (k : Nat) (hk : cw g p = k) :
    Calls Try.prog 9 #[.slice a n c, .int .i64 p] w fun e w' => e = .returned (.int .i64 (k : Int)) ∧ w = w' := by
  subst hk
  exact wins_any a n c g p w h hl hb

theorem rwins_nat (a : Option Addr) (n c : Nat) (g : List Int) (p : Int) (w : World) (h : CellsAt w a (g.map (Value.int .i64))) (hl : g.length = n) (hb : n ≤ 4611686018427387904) (k : Nat) (hk : cw g p = k) :
    Calls Try.prog 10 #[.slice a n c, .int .i64 p] w fun e w' => e = .returned (.int .i64 (k : Int)) ∧ w = w' := by
  subst hk
  exact rwins_any a n c g p w h hl hb

theorem rloser_nat (a : Option Addr) (n c : Nat) (g : List Int) (w : World) (h : CellsAt w a (g.map (Value.int .i64))) (hl : g.length = n) (hb : n ≤ 4611686018427387904) (ls : Int) (hls : loserOf g = ls) :
    Calls Try.prog 12 #[.slice a n c] w fun e w' => e = .returned (.int .i64 ls) ∧ w = w' := by
  subst hls
  exact rloser_any a n c g w h hl hb

theorem rresult_nat (x y : Int) (a : Option Addr) (n c : Nat) (g : List Int) (w : World) (h : CellsAt w a (g.map (Value.int .i64))) (hl : g.length = n) (hb : n ≤ 4611686018427387904) (u v : Nat) (hu : cw g 0 = u) (hv : cw g 1 = v) :
    Calls Try.prog 14 #[.int .i64 x, .int .i64 y, .slice a n c] w fun e w' => e = .returned (.agg #[.int .i64 x, .int .i64 y, .int .i64 (u : Int), .int .i64 (v : Int), .int .i64 ((n : Int) - u - v)]) ∧ Below w.heap.size w w' :=
  (rresult_any x y a n c g w h hl hb).mono fun e w' ⟨h1, h2⟩ => ⟨by rw [h1, resV, hu, hv, hl], h2⟩

theorem drew_cells {w : World} {a : Option Addr} {xs : List Value} (h : CellsAt w a xs) : CellsAt w.drew a xs := h
end Go.Proofs.Ytclhahmnllegpaa
