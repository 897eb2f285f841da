/-
  What was written is read: the plain law; the comparison of two lists; the laws' reading back of a value.
-/
import Derived.Test.YtbcpdjhpceimlaaVal
namespace Go.Proofs.Ytbcpdjhpceimlaa
open Go.ChangeShapes Go.WideShapes Go.ChangeAt Go.RowKit
set_option linter.unusedVariables false

theorem uS_back {n most : Nat} {rest : Bytes} (h : n < 18446744073709551616) (hm : n ≤ most) : uS most (.ok (leb n ++ rest)) = (n, .ok rest) := by
  simp only [uS, num_leb n rest h]
  rw [if_neg (by omega)]
theorem iS_back {n : Int} {rest : Bytes} (h : In64 n) : iS (.ok (encI n ++ rest)) = (n, .ok rest) := by
  have h1 := zz_lt n h.1 h.2
  rw [iS, encI, uS_back h1 (by unfold top64; omega), unzz_zz]
theorem bS_back {b : Bool} {rest : Bytes} : bS (.ok (encB b ++ rest)) = (b, .ok rest) := by
  rw [bS, encB, uS_back (by split <;> omega) (by split <;> omega)]
  cases b <;> rfl
theorem tS_back {s rest : Bytes} {most : Int} (h : s.length < 18446744073709551616) (hm : s.length ≤ most.toNat) : tS most (.ok (encT s ++ rest)) = (s, .ok rest) := by
  unfold tS
  rw [encT, List.append_assoc, uS_back h hm]
  simp
theorem isN_back : ∀ (l : List Int) (acc : List Int) (rest : Bytes), (∀ x ∈ l, In64 x) → isN l.length acc (.ok (l.flatMap encI ++ rest)) = (acc ++ l, .ok rest)
  | [], acc, rest, _ => by simp [isN]
  | x :: l, acc, rest, h => by
    rw [List.length_cons, isN, List.flatMap_cons, List.append_assoc, iS_back (h x (by simp))]
    simp only
    rw [isN_back l (acc ++ [x]) rest (fun y hy => h y (by simp [hy]))]
    simp
theorem lS_back {l : List Int} {rest : Bytes} {most : Int} (h : l.length < 18446744073709551616) (hm : l.length ≤ most.toNat) (hw : ∀ x ∈ l, In64 x) : lS most (.ok (encL l ++ rest)) = (l, .ok rest) := by
  unfold lS
  rw [encL, List.append_assoc, uS_back h hm, isN_back l [] rest hw]
  simp

set_option maxRecDepth 100000 in
set_option maxHeartbeats 1000000 in
theorem same_eq (a : Option Addr) (n c : Nat) (a2 : Option Addr) (c2 : Nat) (l : List Int) (w : World) (hl : l.length = n) (hn : n ≤ 4611686018427387904) (h : CellsAt w a (ic l)) (h2 : CellsAt w a2 (ic l)) :
    Calls Try.prog 60 #[.slice a n c, .slice a2 n c2] w fun e w' => e = .returned (.bool true) ∧ ∃ k, w' = w.drewN k := by
  have H := Lib.hid h
  have H2 := Lib.hid h2
  have HL := Lib.hid hl
  clear h h2 hl
  go_enter Try.func60, Try.ntmps60
  go_wp2_with fail
  go_loopw [13] (fun i wr => ∃ k : Nat, i = .int .i64 k ∧ k ≤ n ∧ ∃ j, wr = w.drewN j) (fun i _ => n - (intOf i).toNat)
  case atStart => exact ⟨0, rfl, Nat.zero_le _, 0, rfl⟩
  case round =>
    obtain ⟨k, rfl, hk, j, rfl⟩ := hrel
    by_cases hlt : k < n
    · obtain ⟨b1, o1, rfl, g1⟩ := H.out.pos (by rw [ic_length, HL.out]; omega)
      obtain ⟨b2, o2, rfl, g2⟩ := H2.out.pos (by rw [ic_length, HL.out]; omega)
      have e1 := g1 k _ (ic_getD (by rw [HL.out]; omega))
      have e2 := g2 k _ (ic_getD (by rw [HL.out]; omega))
      generalize l.getD k 0 = x at e1 e2
      clear g1 g2
      go_wp2_with fail
      refine wp_region_plan [(0, none), (1, none), (2, none), (3, some none), (4, none), (5, none), (6, none), (7, some none), (8, none)] (by kernel_rfl) (by kernel_rfl) ?_
      repeat (first | (refine plan_free (v := ?_) rfl rfl (fun _ => ?_) (fun K hK => ?_); rotate_left 1; (focus (go_simp <;> exact rfl)); go_simp; refine hK _ _ ?_; clear hK K) | (refine plan_held (v := ?_) rfl rfl ?_ (fun K hK => ?_); rotate_left 1; (focus (go_simp <;> exact rfl)); go_simp; refine hK _ _ ?_; clear hK K) | (refine plan_skip rfl rfl (fun K hK => ?_); go_simp; refine hK _ _ ?_; clear hK K))
      refine plan_nil ?_
      go_wp2_with fail
      go_roundw
      case rel => exact ⟨k + 1, by go_num, by omega, j + 1, rfl⟩
      case measure => simp [intOf]; omega
    · go_wp2_with fail
      go_ret
      exact ⟨rfl, j, rfl⟩
end Go.Proofs.Ytbcpdjhpceimlaa
