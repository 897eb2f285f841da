/-
  The contracts of layer 6's functions, the program's and the reference's: Next, Below, Clone, Same.
-/
import Derived.Test.YtdoihdkiaaagaaaRows
import Derived.Test.YtdoihdkiaaagaaaNum
import Derived.Test.YtdoihdkiaaagaaaMem
import Derived.Test.YtdoihdkiaaagaaaPlan
import Derived.WalkKit
import Derived.ProofKit
import Derived.WalkSpells
import Derived.Lib.Hide
namespace Go.Proofs.Ytdoihdkiaaagaaa
open Go.ChangeShapes Go.WideShapes Go.ChangeAt Go.RowKit

theorem next_any (s : Int) (w : World) :
    Calls Try.prog 8 #[.int .u64 s] w fun e w' => e = .returned (.tuple #[.int .u64 (mixv s), .int .u64 (sd s)]) ∧ w = w' := by
  go_enter Try.func8, Try.ntmps8
  go_wp2
  go_ret2
  exact ⟨rfl, rfl⟩

theorem rnext_any (s : Int) (w : World) :
    Calls Try.prog 9 #[.int .u64 s] w fun e w' => e = .returned (.tuple #[.int .u64 (mixv s), .int .u64 (sd s)]) ∧ w = w' := by
  go_enter Try.func9, Try.ntmps9
  go_wp2
  go_ret2
  exact ⟨rfl, rfl⟩

theorem ret2 {a b c d : Value} (h1 : a = c) (h2 : b = d) : Ending.returned (.tuple #[a, b]) = Ending.returned (.tuple #[c, d]) := by rw [h1, h2]

theorem below_any (s n : Int) (w : World) (hn : n ≤ 9223372036854775807) :
    Calls Try.prog 11 #[.int .u64 s, .int .i64 n] w fun e w' => e = .returned (.tuple #[.int .i64 (belowN s n), .int .u64 (belowS s n)]) ∧ w = w' := by
  by_cases h : n < 1
  · go_enter Try.func11, Try.ntmps11
    go_wp2
    go_ret2
    exact ⟨by simp [belowN, belowS, h], rfl⟩
  · have h1 : 1 ≤ n := by omega
    have hm := mixv_nonneg s
    have hlt : mixv s % n < n := Int.emod_lt_of_pos _ (by omega)
    have hge : 0 ≤ mixv s % n := Int.emod_nonneg _ (by omega)
    have E1 := Lib.hid (show belowN s n = mixv s % n from if_neg h)
    have E2 := Lib.hid (show belowS s n = sd s from if_neg h)
    go_enter Try.func11, Try.ntmps11
    go_wp2_with (go_at_call 8; refine (next_any _ _).mono ?_; rintro e w' ⟨rfl, rfl⟩)
    go_ret2
    exact ⟨by rw [E1.out, E2.out]; rfl, rfl⟩

theorem rbelow_any (s n : Int) (w : World) (hn : n ≤ 9223372036854775807) :
    Calls Try.prog 12 #[.int .u64 s, .int .i64 n] w fun e w' => e = .returned (.tuple #[.int .i64 (belowN s n), .int .u64 (belowS s n)]) ∧ w = w' := by
  by_cases h : n < 1
  · go_enter Try.func12, Try.ntmps12
    go_wp2
    go_ret2
    exact ⟨by simp [belowN, belowS, h], rfl⟩
  · have h1 : 1 ≤ n := by omega
    have hm := mixv_nonneg s
    have hlt : mixv s % n < n := Int.emod_lt_of_pos _ (by omega)
    have hge : 0 ≤ mixv s % n := Int.emod_nonneg _ (by omega)
    have E1 := Lib.hid (show belowN s n = mixv s % n from if_neg h)
    have E2 := Lib.hid (show belowS s n = sd s from if_neg h)
    go_enter Try.func12, Try.ntmps12
    go_wp2_with (go_at_call 9; refine (rnext_any _ _).mono ?_; rintro e w' ⟨rfl, rfl⟩)
    go_ret2
    exact ⟨by rw [E1.out, E2.out]; rfl, rfl⟩

/-! ### Same -/
theorem getD_int {xs : List Int} {k : Nat} (h : k < xs.length) (f : Int → Value) : (xs.map f)[k]? = some (f (xs.getD k 0)) := by
  simp [List.getElem?_map, List.getElem?_eq_getElem h]

set_option maxHeartbeats 400000 in
theorem same_eq (v1 v2 : Value) (n : Nat) (xs : List Int) (w : World) (h1 : Rd w v1 n (xs.map (Value.int .i64))) (h2 : Rd w v2 n (xs.map (Value.int .i64))) (hl : xs.length = n) (hb : n ≤ 4611686018427387904) :
    Calls Try.prog 15 #[v1, v2] w fun e w' => e = .returned (.bool true) ∧ Below w.heap.size w w' := by
  obtain ⟨a1, c1, rfl, h1⟩ := h1
  obtain ⟨a2, c2, rfl, h2⟩ := h2
  have HL := Lib.hid hl
  clear hl
  have H1 := Lib.hid h1
  have H2 := Lib.hid h2
  clear h1 h2
  have hne : ((n : Int) != (n : Int)) = false := by simp
  go_enter Try.func15, Try.ntmps15
  go_wp2_with fail
  go_loopw [5] (fun i wr => ∃ k : Nat, k ≤ n ∧ i = .int .i64 k ∧ Below w.heap.size w wr) (fun i _ => n - (intOf i).toNat)
  case atStart => exact ⟨0, Nat.zero_le _, rfl, Below.refl _ _⟩
  case round =>
    obtain ⟨k, hk, rfl, hbel⟩ := hrel
    by_cases hlt : k < n
    · obtain ⟨b1, o1, rfl, g1⟩ := CellsAt.pos H1.out (by rw [List.length_map, HL.out]; omega)
      obtain ⟨b2, o2, rfl, g2⟩ := CellsAt.pos H2.out (by rw [List.length_map, HL.out]; omega)
      have e1 : wr.cell? ⟨b1, o1 + k, none⟩ = some (.int .i64 (xs.getD k 0)) := by
        have := g1 k _ (getD_int (by rw [HL.out]; omega) _)
        rw [hbel.cell (World.block_lt_of_cell? w _ this)]; exact this
      have e2 : wr.cell? ⟨b2, o2 + k, none⟩ = some (.int .i64 (xs.getD k 0)) := by
        have := g2 k _ (getD_int (by rw [HL.out]; omega) _)
        rw [hbel.cell (World.block_lt_of_cell? w _ this)]; exact this
      generalize xs.getD k 0 = x at e1 e2
      have hx : (x != x) = false := by simp
      clear g1 g2
      go_wp2_with fail
      refine wp_region_plan [(0, none), (1, none), (2, none), (3, some none), (4, none), (5, none), (6, none), (7, some none), (8, none)] (by kernel_rfl) (by kernel_rfl) ?_
      repeat (first | (refine plan_free (v := ?_) rfl rfl (fun _ => ?_) (fun K hK => ?_); rotate_left 1; (focus (go_simp <;> exact rfl)); go_simp; refine hK _ _ ?_; clear hK K) | (refine plan_held (v := ?_) rfl rfl ?_ (fun K hK => ?_); rotate_left 1; (focus (go_simp <;> exact rfl)); go_simp; refine hK _ _ ?_; clear hK K))
      refine plan_nil ?_
      go_wp2_with fail
      go_roundw
      case rel => exact ⟨k + 1, by omega, by go_num, hbel.drew⟩
      case measure => simp [intOf]; omega
    · go_wp2_with fail
      go_ret
      exact ⟨rfl, hbel⟩

/-! ### Clone -/
theorem info3 : (Try.prog.info? 3).map (fun i => (i.zero, i.size, i.bytes)) = some (some (.int .i64 0), 1, 8) := by kernel_rfl

theorem one_int {xs : List Int} : ∀ u ∈ xs.map (Value.int .i64), u.oneCell' = true := by
  intro u hu
  obtain ⟨x, _, rfl⟩ := List.mem_map.1 hu
  rfl

set_option maxHeartbeats 400000 in
theorem clone_any (a : Option Addr) (n c : Nat) (xs : List Int) (w : World) (h : CellsAt w a (xs.map (Value.int .i64))) (hnil : a = none → n = 0 ∧ c = 0) (hl : xs.length = n) (hb : n * 8 ≤ 140737488355328) :
    Calls Try.prog 16 #[.slice a n c] w fun e w' => ∃ v, e = .returned v ∧ w'.ownsRow w.heap.size 3 1 v n (xs.map (Value.int .i64)) ∧ Below w.heap.size w w' := by
  have he := fun w => Lib.run_eql_slice_nil (P := Try.prog) w 30 3 a n c 0 0 Try.underlying30
  cases a with
  | none =>
    obtain ⟨rfl, rfl⟩ := hnil rfl
    have hx : xs = [] := List.eq_nil_of_length_eq_zero hl
    subst hx
    clear h hnil hl hb
    go_enter Try.func16, Try.ntmps16
    go_wp2_with fail
    go_ret
    exact ⟨_, rfl, World.ownsRow_nil _ _ _ _, Below.refl _ _⟩
  | some ad =>
    obtain ⟨i0, hi, hz0, hz1, hz2⟩ := info_parts info3
    have H := Lib.hid h
    have HL := Lib.hid hl
    clear h hnil hl
    go_enter Try.func16, Try.ntmps16
    go_wp2_with (refine wpList_wp rfl (fun K hK => ?_); refine wp_append (.tmp 5) (.tmp 6) 30 rfl w.heap.size 3 i0 (.int .i64 0) 1 8 Try.underlying30 hi hz0 hz1 hz2 rfl (by decide) _ 0 [] rfl ?g1 _ n (xs.map (Value.int .i64)) rfl ?g2 ?g3 ?g4 one_int ?g5 ?g6 ?g7 ?g8)
    case g1 => exact World.ownsRow_lit _ #[] 0 (Nat.le_refl _) (by decide) rfl
    case g2 => exact ⟨_, _, rfl, H.out.ext (fun p u hp => by rw [(Below.alloc (Below.refl _ w) (Nat.le_refl _) _).cell (World.block_lt_of_cell? w p hp)]; exact hp)⟩
    case g3 => intro cap hc; cases hc
    case g4 => rw [List.length_map, HL.out]; omega
    case g5 => unfold maxLen; omega
    case g6 => omega
    case g7 => simp
    case g8 =>
      intro v' w' hown hgr
      refine hK _ _ ?_
      clear hK K
      go_wp2_with fail
      go_ret
      refine ⟨_, rfl, by simpa using hown, ?_⟩
      exact ((Below.refl _ _).alloc (Nat.le_refl _) _).grown hgr (by simp) (fun k hk => by simp [Value.ownBlock] at hk; omega)
end Go.Proofs.Ytdoihdkiaaagaaa
