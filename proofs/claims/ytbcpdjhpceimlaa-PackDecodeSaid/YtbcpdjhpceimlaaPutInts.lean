/-
  PutInts, the program's.
-/
import Derived.Test.YtbcpdjhpceimlaaInts
namespace Go.Proofs.Ytbcpdjhpceimlaa
open Go.ChangeShapes Go.WideShapes Go.ChangeAt Go.RowKit
set_option linter.unusedVariables false

/-- The encodings of ints, one behind the other. -/
def encIs (l : List Int) : Bytes := l.flatMap encI
theorem encL_eq (l : List Int) : encL l = leb l.length ++ encIs l := rfl

theorem encIs_take (l : List Int) (k : Nat) (h : k < l.length) : encIs (l.take (k + 1)) = encIs (l.take k) ++ leb (zz (l.getD k 0)) := by
  unfold encIs
  rw [List.take_succ_eq_append_getElem h, List.flatMap_append]
  simp [List.getD_eq_getElem?_getD, List.getElem?_eq_getElem h, encI]

theorem encIs_le (l : List Int) (k : Nat) : (encIs (l.take k)).length ≤ (encIs l).length := by
  conv => rhs; rw [← List.take_append_drop k l]
  unfold encIs
  rw [List.flatMap_append, List.length_append]
  omega

theorem ic_getD {l : List Int} {k : Nat} (h : k < l.length) : (ic l)[k]? = some (.int .i64 (l.getD k 0)) := by
  simp [ic, List.getElem?_map, List.getElem?_eq_getElem h]

set_option maxRecDepth 100000 in
set_option maxHeartbeats 1000000 in
theorem PutInts_any (a : Option Addr) (n c : Nat) (bs : Bytes) (al : Option Addr) (m cl : Nat) (l : List Int) (w : World) (h : CellsAt w a (bc bs)) (hnil : a = none → n = 0 ∧ c = 0) (hl : bs.length = n)
    (h2 : CellsAt w al (ic l)) (hl2 : l.length = m) (hm : m ≤ 4611686018427387904) (hw : ∀ x ∈ l, -9223372036854775808 ≤ x ∧ x ≤ 9223372036854775807) (hb : bs.length + (encL l).length ≤ 140737488355000) :
    Calls Try.prog 51 #[.slice a n c, .slice al m cl] w fun e w' => ∃ v, e = .returned v ∧ w'.ownsRow w.heap.size 5 1 v (bs ++ encL l).length (bc (bs ++ encL l)) ∧ Below w.heap.size w w' := by
  have H := Lib.hid h
  have HN := Lib.hid hnil
  have HL := Lib.hid hl
  have H2 := Lib.hid h2
  have HL2 := Lib.hid hl2
  have HW := Lib.hid hw
  have HB := Lib.hid (show bs.length + (leb m).length + (encIs l).length ≤ 140737488355000 by rw [encL_eq, List.length_append, hl2] at hb; omega)
  have HEQ := Lib.hid (show bs ++ encL l = bs ++ leb m ++ encIs l by rw [encL_eq, hl2, List.append_assoc])
  have hmw : IntKind.u64.wrap (m : Int) = (m : Int) := wrapU _ (by omega) (by omega)
  clear h hnil hl h2 hl2 hw hb
  go_enter Try.func51, Try.ntmps51
  go_wp2_with (go_at_call 24; refine halt_here ?_)
  refine go_on ((Put_one a n c bs m w _ rfl H.out HN.out HL.out (by omega) (by have := HB.out; omega)).mono ?_)
  rintro e w1 ⟨v0, rfl, how, hbel⟩
  have HOW := Lib.hid how
  clear how
  go_wp2_with fail
  go_loopw [5, 16] (fun v i wr => ∃ k : Nat, k ≤ m ∧ i = .int .i64 k ∧ Hid (wr.ownsRow w.heap.size 5 1 v (bs ++ leb m ++ encIs (l.take k)).length (bc (bs ++ leb m ++ encIs (l.take k)))) ∧ Below w.heap.size w wr) (fun _ i _ => m - (intOf i).toNat)
  case atStart => exact ⟨0, Nat.zero_le _, rfl, Lib.hid (by simpa [encIs] using HOW.out), hbel⟩
  case round =>
    obtain ⟨k, hk, rfl, HOW, hbel⟩ := hrel
    by_cases hlt : k < m
    · obtain ⟨b1, o1, rfl, g1⟩ := CellsAt.pos H2.out (by rw [ic, List.length_map, HL2.out]; omega)
      have e1 : wr.cell? ⟨b1, o1 + k, none⟩ = some (.int .i64 (l.getD k 0)) := by
        have := g1 k _ (ic_getD (by rw [HL2.out]; omega))
        rw [hbel.cell (World.block_lt_of_cell? w _ this)]; exact this
      have HS := Lib.hid (encIs_take l k (by rw [HL2.out]; omega))
      have HX := Lib.hid (show -9223372036854775808 ≤ l.getD k 0 ∧ l.getD k 0 ≤ 9223372036854775807 from HW.out _ (by rw [List.getD_eq_getElem?_getD, List.getElem?_eq_getElem (by rw [HL2.out]; omega)]; exact List.getElem_mem _))
      have HLE := Lib.hid (encIs_le l k)
      generalize l.getD k 0 = x at e1 HS HX
      clear g1
      go_wp2_with (go_at_call 48; refine halt_here ?_)
      refine go_on ((unsigned_any x wr HX.out.1 HX.out.2).mono ?_)
      rintro e w2 ⟨rfl, rfl⟩
      go_wp2_with (go_at_call 47; refine halt_here ?_)
      refine go_on ((put_any w.heap.size _ (bs ++ leb m ++ encIs (l.take k)) (zz x) _ HOW.out hbel.size (zz_lt x HX.out.1 HX.out.2) (by rw [List.length_append, List.length_append]; have := HLE.out; have := HB.out; omega)).mono ?_)
      rintro e w2 ⟨v2, rfl, how2, hb2⟩
      have HW2 := Lib.hid (show w2.ownsRow w.heap.size 5 1 v2 (bs ++ leb m ++ encIs (l.take (k + 1))).length (bc (bs ++ leb m ++ encIs (l.take (k + 1)))) by rw [HS.out, ← List.append_assoc, List.length_append]; exact how2)
      clear how2
      go_wp2_with fail
      go_roundw
      case rel => exact ⟨k + 1, by omega, by go_num, HW2, hbel.trans hb2⟩
      case measure => simp [intOf]; omega
    · have hkm : l.take k = l := List.take_of_length_le (by rw [HL2.out]; omega)
      rw [hkm] at HOW
      clear hkm
      go_wp2_with fail
      go_ret
      refine ⟨_, rfl, ?_, hbel⟩
      rw [HEQ.out]
      exact HOW.out
end Go.Proofs.Ytbcpdjhpceimlaa
