/-
  What the pack laws share: a struct loaded whole, kept values, an encoding is not empty.
-/
import Derived.Test.YtbcpdjhpceimlaaFew4
import Derived.Test.YtbcpdjhpceimlaaPAlive
namespace Go.Proofs.Ytbcpdjhpceimlaa
open Go.ChangeShapes Go.WideShapes Go.ChangeAt Go.RowKit
set_option linter.unusedVariables false

theorem RowRep.later {w w' : World} {s : List Fld} {v : List V} {cs : List Value} (h : RowRep (Old w) w s v cs) (hb : Below w.heap.size w w') : RowRep (Old w') w' s v cs :=
  h.mono (fun _ h => Nat.lt_of_lt_of_le h hb.size) hb.size (fun b h _ => hb.block b h)

theorem wpList_load_blk {P : Program} {ops : Array Oper} {rest : List Oper} {op : Oper} {a : Act} {w : World} {Q : Exit → Act → World → Prop} (hg : Region.wanted op (yielded ops a.tmps) = true) (ty : TypeId) (x : Operand) (ho : op.op = .load ty x)
    (g : Nat) (hx : a.eval x = .pointer (some ⟨g, 0, none⟩)) (cs : Array Value) {t : TypeId} (d : TypeDesc) (hb : w.heap[g]? = some (.cells cs t (0, 0)))
    (hu : P.underlying ty = some d) (hd : d.isRow = true) (hi : (P.info? ty).map (·.size) = some cs.size)
    (h : wpList P ops Q rest (a.put op.dst (.agg cs)) w) : wpList P ops Q (op :: rest) a w :=
  wpList_want hg fun _ hK => wp_load_mid ty x ho g 0 hx cs.toList d (fun j u hj => by rw [Nat.zero_add, blk_cell hb]; simpa using hj) hu hd (by simpa using hi) (by simpa using hK _ _ h)

theorem encV_pos (x : V) : 1 ≤ (encV x).length := by
  cases x with
  | i n => exact (leb_length _).1
  | b x => exact (leb_length _).1
  | t s => have := (leb_length s.length).1; simp only [encV, encT, List.length_append]; omega
  | u n => exact (leb_length _).1
  | l xs => have := (leb_length xs.length).1; simp only [encV, encL, List.length_append]; omega
  | e rows => have := (leb_length rows.length).1; simp only [encV, List.length_append]; omega
theorem encRow_pos {s : List Fld} {v : List V} (hl : v.length = s.length) (hs : 0 < s.length) : 0 < (encRow v).length := by
  match v, hl with
  | [], h => simp at h; omega
  | x :: r, _ => have := encV_pos x; simp only [encRow, List.length_append]; omega

theorem row_size {A : Nat → Prop} {w : World} {v : List V} {cs : Array Value} (h : RowRep A w stateS v cs.toList) : cs.size = 19 := by
  have := h.2.1
  rw [len_stateS] at this
  simpa using this
end Go.Proofs.Ytbcpdjhpceimlaa
