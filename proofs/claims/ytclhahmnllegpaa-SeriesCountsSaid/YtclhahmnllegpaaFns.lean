/-
  The contracts of layer 55's functions, the program's and the reference's: Wins, Loser, leader, Result, Decided.
-/
import Derived.Test.YtclhahmnllegpaaRows
import Derived.Test.YtclhahmnllegpaaNum
import Derived.Test.YtclhahmnllegpaaMem
import Derived.Test.YtclhahmnllegpaaPlan
import Derived.WalkKit
import Derived.ProofKit
import Derived.WalkSpells
import Derived.Lib.Hide
namespace Go.Proofs.Ytclhahmnllegpaa
open Go.ChangeShapes Go.WideShapes Go.ChangeAt Go.RowKit

theorem ret1 {a b : Value} (h : a = b) : Ending.returned a = Ending.returned b := by rw [h]
theorem ret2 {a b c d : Value} (h1 : a = c) (h2 : b = d) : Ending.returned (.tuple #[a, b]) = Ending.returned (.tuple #[c, d]) := by rw [h1, h2]

theorem getD_int {xs : List Int} {k : Nat} (h : k < xs.length) (f : Int → Value) : (xs.map f)[k]? = some (f (xs.getD k 0)) := by
  simp [List.getElem?_map, List.getElem?_eq_getElem h]

theorem one_int {xs : List Int} : ∀ u ∈ xs.map (Value.int .i64), u.oneCell' = true := by
  intro u hu
  obtain ⟨x, _, rfl⟩ := List.mem_map.1 hu
  rfl

theorem info3 : (Try.prog.info? 3).map (fun i => (i.zero, i.size, i.bytes)) = some (some (.int .i64 0), 1, 8) := by kernel_rfl

/-! ### Wins -/
set_option maxHeartbeats 1000000 in
theorem wins_any (a : Option Addr) (n c : Nat) (g : List Int) (p : Int) (w : World) (h : CellsAt w a (g.map (Value.int .i64))) (hl : g.length = n) (hb : n ≤ 4611686018427387904) :
    Calls Try.prog 9 #[.slice a n c, .int .i64 p] w fun e w' => e = .returned (.int .i64 (cw g p : Nat)) ∧ w = w' := by
  have HL := Lib.hid hl
  have H := Lib.hid h
  clear hl h
  go_enter Try.func9, Try.ntmps9
  go_wp2_with fail
  go_loop [5, 10] (fun x i => ∃ k : Nat, k ≤ n ∧ i = .int .i64 k ∧ x = .int .i64 (cw (g.take k) p : Nat)) (fun _ i => n - (intOf i).toNat)
  case atStart => exact ⟨0, Nat.zero_le _, rfl, by simp [cw]⟩
  case round =>
    obtain ⟨k, hk, rfl, rfl⟩ := hrel
    have hc := cw_le (g.take k) p
    rw [List.length_take] at hc
    have hcb : cw (g.take k) p ≤ 4611686018427387904 := by omega
    clear hc
    by_cases hlt : k < n
    · obtain ⟨b1, o1, rfl, g1⟩ := CellsAt.pos H.out (by rw [List.length_map, HL.out]; omega)
      have e1 : w.cell? ⟨b1, o1 + k, none⟩ = some (.int .i64 (g.getD k 0)) := g1 k _ (getD_int (by rw [HL.out]; omega) _)
      have T := Lib.hid (cw_succ g k p (by rw [HL.out]; omega))
      generalize g.getD k 0 = x at e1 T
      clear g1
      by_cases hx : x = p ∧ (p = 0 ∨ p = 1)
      · obtain ⟨rfl, h01⟩ := hx
        have T' := T.out
        rw [if_pos ⟨rfl, h01⟩] at T'
        have HT := Lib.hid T'
        clear T T'
        have q1 : (x == x) = true := by simp
        rcases h01 with rfl | rfl
        · go_wp2_with fail
          go_round
          case rel => exact ⟨k + 1, by omega, by go_num, by rw [HT.out]; go_num⟩
          case measure => simp [intOf]; omega
        · go_wp2_with fail
          go_round
          case rel => exact ⟨k + 1, by omega, by go_num, by rw [HT.out]; go_num⟩
          case measure => simp [intOf]; omega
      · have T' := T.out
        rw [if_neg hx] at T'
        have HT := Lib.hid T'
        clear T T'
        by_cases hxp : x = p
        · subst hxp
          have q1 : (x == x) = true := by simp
          have q2 : (x == 0) = false := by simp; omega
          have q3 : (x == 1) = false := by simp; omega
          clear hx
          go_wp2_with fail
          go_round
          case rel => exact ⟨k + 1, by omega, by go_num, by rw [HT.out]; go_num⟩
          case measure => simp [intOf]; omega
        · have q1 : (x == p) = false := by simp [hxp]
          clear hx
          go_wp2_with fail
          go_round
          case rel => exact ⟨k + 1, by omega, by go_num, by rw [HT.out]; go_num⟩
          case measure => simp [intOf]; omega
    · have hkn : g.take k = g := List.take_of_length_le (by rw [HL.out]; omega)
      rw [hkn]
      clear hkn hcb
      go_wp2_with fail
      go_ret
      exact ⟨rfl, rfl⟩

set_option maxHeartbeats 1000000 in
theorem rwins_any (a : Option Addr) (n c : Nat) (g : List Int) (p : Int) (w : World) (h : CellsAt w a (g.map (Value.int .i64))) (hl : g.length = n) (hb : n ≤ 4611686018427387904) :
    Calls Try.prog 10 #[.slice a n c, .int .i64 p] w fun e w' => e = .returned (.int .i64 (cw g p : Nat)) ∧ w = w' := by
  have HL := Lib.hid hl
  have H := Lib.hid h
  clear hl h
  go_enter Try.func10, Try.ntmps10
  go_wp2_with fail
  go_loop [5, 6] (fun x i => ∃ k : Nat, k ≤ n ∧ i = .int .i64 k ∧ x = .int .i64 (cw (g.take k) p : Nat)) (fun _ i => n - (intOf i).toNat)
  case atStart => exact ⟨0, Nat.zero_le _, rfl, by simp [cw]⟩
  case round =>
    obtain ⟨k, hk, rfl, rfl⟩ := hrel
    have hc := cw_le (g.take k) p
    rw [List.length_take] at hc
    have hcb : cw (g.take k) p ≤ 4611686018427387904 := by omega
    clear hc
    by_cases hlt : k < n
    · obtain ⟨b1, o1, rfl, g1⟩ := CellsAt.pos H.out (by rw [List.length_map, HL.out]; omega)
      have e1 : w.cell? ⟨b1, o1 + k, none⟩ = some (.int .i64 (g.getD k 0)) := g1 k _ (getD_int (by rw [HL.out]; omega) _)
      have T := Lib.hid (cw_succ g k p (by rw [HL.out]; omega))
      generalize g.getD k 0 = x at e1 T
      clear g1
      by_cases hx : x = p ∧ (p = 0 ∨ p = 1)
      · obtain ⟨rfl, h01⟩ := hx
        have T' := T.out
        rw [if_pos ⟨rfl, h01⟩] at T'
        have HT := Lib.hid T'
        clear T T'
        have q1 : (x == x) = true := by simp
        rcases h01 with rfl | rfl
        · go_wp2_with fail
          go_round
          case rel => exact ⟨k + 1, by omega, by go_num, by rw [HT.out]; go_num⟩
          case measure => simp [intOf]; omega
        · go_wp2_with fail
          go_round
          case rel => exact ⟨k + 1, by omega, by go_num, by rw [HT.out]; go_num⟩
          case measure => simp [intOf]; omega
      · have T' := T.out
        rw [if_neg hx] at T'
        have HT := Lib.hid T'
        clear T T'
        by_cases hxp : x = p
        · subst hxp
          have q1 : (x == x) = true := by simp
          have q2 : (x == 0) = false := by simp; omega
          have q3 : (x == 1) = false := by simp; omega
          clear hx
          go_wp2_with fail
          go_round
          case rel => exact ⟨k + 1, by omega, by go_num, by rw [HT.out]; go_num⟩
          case measure => simp [intOf]; omega
        · have q1 : (x == p) = false := by simp [hxp]
          clear hx
          go_wp2_with fail
          go_round
          case rel => exact ⟨k + 1, by omega, by go_num, by rw [HT.out]; go_num⟩
          case measure => simp [intOf]; omega
    · have hkn : g.take k = g := List.take_of_length_le (by rw [HL.out]; omega)
      rw [hkn]
      clear hkn hcb
      go_wp2_with fail
      go_ret
      exact ⟨rfl, rfl⟩

/-! ### Loser -/
set_option maxHeartbeats 1000000 in
theorem loser_any (a : Option Addr) (n c : Nat) (g : List Int) (w : World) (h : CellsAt w a (g.map (Value.int .i64))) (hl : g.length = n) (hb : n ≤ 4611686018427387904) :
    Calls Try.prog 11 #[.slice a n c] w fun e w' => e = .returned (.int .i64 (loserOf g)) ∧ w = w' := by
  have HL := Lib.hid hl
  have H := Lib.hid h
  clear hl h
  generalize hL : loserOf g = L
  have HLL := Lib.hid hL
  clear hL
  go_enter Try.func11, Try.ntmps11
  go_wp2_with fail
  go_loop [3] (fun i => ∃ k : Int, -1 ≤ k ∧ k < (n : Int) ∧ i = .int .i64 k ∧ Hid (loserL (g.take (k + 1).toNat).reverse = L)) (fun i => (intOf i + 1).toNat)
  case atStart => exact ⟨(n : Int) - 1, by omega, by omega, rfl, by rw [List.take_of_length_le (by rw [HL.out]; omega)]; exact HLL.out⟩
  case round =>
    obtain ⟨k, hk1, hk2, rfl, HK⟩ := hrel
    by_cases hlt : 0 ≤ k
    · obtain ⟨k, rfl⟩ := Int.eq_ofNat_of_zero_le hlt
      obtain ⟨b1, o1, rfl, g1⟩ := CellsAt.pos H.out (by rw [List.length_map, HL.out]; omega)
      have e1 : w.cell? ⟨b1, o1 + k, none⟩ = some (.int .i64 (g.getD k 0)) := g1 k _ (getD_int (by rw [HL.out]; omega) _)
      have T0 := HK.out
      rw [show ((k : Int) + 1).toNat = k + 1 by omega, loser_step g k (by rw [HL.out]; omega)] at T0
      have T := Lib.hid T0
      clear T0 HK
      generalize g.getD k 0 = x at e1 T
      clear g1
      by_cases h0 : x = 0
      · subst h0
        have T' := T.out
        simp at T'
        subst T'
        clear T HLL
        go_wp2_with fail
        go_ret
        exact ⟨rfl, rfl⟩
      · by_cases h1 : x = 1
        · subst h1
          have T' := T.out
          simp at T'
          subst T'
          clear T HLL
          go_wp2_with fail
          go_ret
          exact ⟨rfl, rfl⟩
        · have T' := T.out
          rw [if_neg (by omega)] at T'
          have HT := Lib.hid T'
          clear T T'
          have q1 : (x == 0) = false := by simp [h0]
          have q2 : (x == 1) = false := by simp [h1]
          clear h0 h1
          go_wp2_with fail
          go_round
          case rel => exact ⟨(k : Int) - 1, by omega, by omega, by go_num, by rw [show ((k : Int) - 1 + 1).toNat = k by omega]; exact HT⟩
          case measure => first | (simp [intOf]; done) | (simp [intOf]; omega)
    · have T' := HK.out
      rw [show (k + 1).toNat = 0 by omega] at T'
      have hz : L = 0 := T'.symm
      subst hz
      clear T' HK HLL
      go_wp2_with fail
      go_ret
      exact ⟨rfl, rfl⟩

set_option maxHeartbeats 1000000 in
theorem rloser_any (a : Option Addr) (n c : Nat) (g : List Int) (w : World) (h : CellsAt w a (g.map (Value.int .i64))) (hl : g.length = n) (hb : n ≤ 4611686018427387904) :
    Calls Try.prog 12 #[.slice a n c] w fun e w' => e = .returned (.int .i64 (loserOf g)) ∧ w = w' := by
  have HL := Lib.hid hl
  have H := Lib.hid h
  clear hl h
  generalize hL : loserOf g = L
  have HLL := Lib.hid hL
  clear hL
  go_enter Try.func12, Try.ntmps12
  go_wp2_with fail
  go_loop [3] (fun i => ∃ k : Int, -1 ≤ k ∧ k < (n : Int) ∧ i = .int .i64 k ∧ Hid (loserL (g.take (k + 1).toNat).reverse = L)) (fun i => (intOf i + 1).toNat)
  case atStart => exact ⟨(n : Int) - 1, by omega, by omega, rfl, by rw [List.take_of_length_le (by rw [HL.out]; omega)]; exact HLL.out⟩
  case round =>
    obtain ⟨k, hk1, hk2, rfl, HK⟩ := hrel
    by_cases hlt : 0 ≤ k
    · obtain ⟨k, rfl⟩ := Int.eq_ofNat_of_zero_le hlt
      obtain ⟨b1, o1, rfl, g1⟩ := CellsAt.pos H.out (by rw [List.length_map, HL.out]; omega)
      have e1 : w.cell? ⟨b1, o1 + k, none⟩ = some (.int .i64 (g.getD k 0)) := g1 k _ (getD_int (by rw [HL.out]; omega) _)
      have T0 := HK.out
      rw [show ((k : Int) + 1).toNat = k + 1 by omega, loser_step g k (by rw [HL.out]; omega)] at T0
      have T := Lib.hid T0
      clear T0 HK
      generalize g.getD k 0 = x at e1 T
      clear g1
      by_cases h0 : x = 0
      · subst h0
        have T' := T.out
        simp at T'
        subst T'
        clear T HLL
        go_wp2_with fail
        go_ret
        exact ⟨rfl, rfl⟩
      · by_cases h1 : x = 1
        · subst h1
          have T' := T.out
          simp at T'
          subst T'
          clear T HLL
          go_wp2_with fail
          go_ret
          exact ⟨rfl, rfl⟩
        · have T' := T.out
          rw [if_neg (by omega)] at T'
          have HT := Lib.hid T'
          clear T T'
          have q1 : (x == 0) = false := by simp [h0]
          have q2 : (x == 1) = false := by simp [h1]
          clear h0 h1
          go_wp2_with fail
          go_round
          case rel => exact ⟨(k : Int) - 1, by omega, by omega, by go_num, by rw [show ((k : Int) - 1 + 1).toNat = k by omega]; exact HT⟩
          case measure => first | (simp [intOf]; done) | (simp [intOf]; omega)
    · have T' := HK.out
      rw [show (k + 1).toNat = 0 by omega] at T'
      have hz : L = 0 := T'.symm
      subst hz
      clear T' HK HLL
      go_wp2_with fail
      go_ret
      exact ⟨rfl, rfl⟩

/-! ### leader -/
set_option maxHeartbeats 1000000 in
theorem leader_any (a : Option Addr) (n c : Nat) (g : List Int) (w : World) (h : CellsAt w a (g.map (Value.int .i64))) (hl : g.length = n) (hb : n ≤ 4611686018427387904) :
    Calls Try.prog 18 #[.slice a n c] w fun e w' => e = .returned (.int .i64 (leadOf g)) ∧ w = w' := by
  have HL := Lib.hid hl
  have H := Lib.hid h
  clear hl h
  have E0 := Lib.hid (cw0 g)
  have E1 := Lib.hid (cw1 g)
  generalize hL : leadOf g = L
  have HLL := Lib.hid hL
  clear hL
  by_cases h1 : cw g 1 < cw g 0
  · go_enter Try.func18, Try.ntmps18
    go_wp2_with (go_at_call 10; refine (rwins_any _ _ _ g _ _ H.out HL.out hb).mono ?_; rintro e w' ⟨rfl, rfl⟩)
    go_ret
    refine ⟨ret1 (by rw [← HLL.out, leadOf, leadN, if_pos (by rw [← E0.out, ← E1.out]; exact h1)]; rfl), rfl⟩
  · by_cases h2 : cw g 0 < cw g 1
    · go_enter Try.func18, Try.ntmps18
      go_wp2_with (go_at_call 10; refine (rwins_any _ _ _ g _ _ H.out HL.out hb).mono ?_; rintro e w' ⟨rfl, rfl⟩)
      go_ret
      refine ⟨ret1 (by rw [← HLL.out, leadOf, leadN, if_neg (by rw [← E0.out, ← E1.out]; exact h1), if_pos (by rw [← E0.out, ← E1.out]; exact h2)]; rfl), rfl⟩
    · go_enter Try.func18, Try.ntmps18
      go_wp2_with (go_at_call 10; refine (rwins_any _ _ _ g _ _ H.out HL.out hb).mono ?_; rintro e w' ⟨rfl, rfl⟩)
      go_ret
      refine ⟨ret1 (by rw [← HLL.out, leadOf, leadN, if_neg (by rw [← E0.out, ← E1.out]; exact h1), if_neg (by rw [← E0.out, ← E1.out]; exact h2)]; rfl), rfl⟩

/-! ### Result -/
/-- What Result returns. -/
def resV (a b : Int) (g : List Int) : Value := .agg #[.int .i64 a, .int .i64 b, .int .i64 (cw g 0 : Nat), .int .i64 (cw g 1 : Nat), .int .i64 ((g.length : Int) - (cw g 0 : Nat) - (cw g 1 : Nat))]

set_option maxHeartbeats 1000000 in
theorem result_any (x y : Int) (a : Option Addr) (n c : Nat) (g : List Int) (w : World) (h : CellsAt w a (g.map (Value.int .i64))) (hl : g.length = n) (hb : n ≤ 4611686018427387904) :
    Calls Try.prog 13 #[.int .i64 x, .int .i64 y, .slice a n c] w fun e w' => e = .returned (resV x y g) ∧ Below w.heap.size w w' := by
  have HL := Lib.hid hl
  have H := Lib.hid h
  have c0 := cw_le g 0
  have c1 := cw_le g 1
  have c2 := two_counts g
  rw [← cw0, ← cw1] at c2
  rw [hl] at c0 c1 c2
  clear hl h
  have HR := Lib.hid (show resV x y g = .agg #[.int .i64 x, .int .i64 y, .int .i64 (cw g 0 : Nat), .int .i64 (cw g 1 : Nat), .int .i64 ((n : Int) - (cw g 0 : Nat) - (cw g 1 : Nat))] by rw [resV, HL.out])
  have hal : ∀ o : Obj, Below w.heap.size w (w.alloc o) := fun o => (Below.refl _ _).alloc (Nat.le_refl _) o
  have HAL := Lib.hid hal
  clear hal
  have HC := Lib.hid (fun (o : Obj) => H.out.below (HAL.out o))
  clear H
  go_enter Try.func13, Try.ntmps13
  go_wp2_with (go_at_call 9; refine (wins_any _ _ _ g _ _ (HC.out _) HL.out hb).mono ?_; rintro e w' ⟨rfl, rfl⟩)
  refine bodyPost_ret (v := .agg #[.int .i64 x, .int .i64 y, .int .i64 (cw g 0 : Nat), .int .i64 (cw g 1 : Nat), .int .i64 ((n : Int) - (cw g 0 : Nat) - (cw g 1 : Nat))]) (by simp [results, Try.results13, go_sem]) rfl ⟨ret1 HR.out.symm, ?_⟩
  exact HAL.out _

set_option maxHeartbeats 1000000 in
theorem rresult_any (x y : Int) (a : Option Addr) (n c : Nat) (g : List Int) (w : World) (h : CellsAt w a (g.map (Value.int .i64))) (hl : g.length = n) (hb : n ≤ 4611686018427387904) :
    Calls Try.prog 14 #[.int .i64 x, .int .i64 y, .slice a n c] w fun e w' => e = .returned (resV x y g) ∧ Below w.heap.size w w' := by
  have HL := Lib.hid hl
  have H := Lib.hid h
  have c0 := cw_le g 0
  have c1 := cw_le g 1
  have c2 := two_counts g
  rw [← cw0, ← cw1] at c2
  rw [hl] at c0 c1 c2
  clear hl h
  have HR := Lib.hid (show resV x y g = .agg #[.int .i64 x, .int .i64 y, .int .i64 (cw g 0 : Nat), .int .i64 (cw g 1 : Nat), .int .i64 ((n : Int) - (cw g 0 : Nat) - (cw g 1 : Nat))] by rw [resV, HL.out])
  have hal : ∀ o : Obj, Below w.heap.size w (w.alloc o) := fun o => (Below.refl _ _).alloc (Nat.le_refl _) o
  have HAL := Lib.hid hal
  clear hal
  have HC := Lib.hid (fun (o : Obj) => H.out.below (HAL.out o))
  clear H
  go_enter Try.func14, Try.ntmps14
  go_wp2_with (go_at_call 10; refine (rwins_any _ _ _ g _ _ (HC.out _) HL.out hb).mono ?_; rintro e w' ⟨rfl, rfl⟩)
  refine bodyPost_ret (v := .agg #[.int .i64 x, .int .i64 y, .int .i64 (cw g 0 : Nat), .int .i64 (cw g 1 : Nat), .int .i64 ((n : Int) - (cw g 0 : Nat) - (cw g 1 : Nat))]) (by simp [results, Try.results14, go_sem]) rfl ⟨ret1 HR.out.symm, ?_⟩
  exact (HAL.out _).alloc (by simp) _
end Go.Proofs.Ytclhahmnllegpaa
