/-
  Decided of the reference answers what 'DecR' says.
-/
import Derived.Test.YtclhahmnllegpaaFns
namespace Go.Proofs.Ytclhahmnllegpaa
open Go.ChangeShapes Go.WideShapes Go.ChangeAt Go.RowKit

/-- It returns what 'DecR' says, and the world is as it was. -/
def DecSame (g : List Int) (B : Int) (w : World) (e : Ending) (w' : World) : Prop := ∃ p ok, e = .returned (.tuple #[.int .i64 p, .bool ok]) ∧ DecR g B p ok ∧ w = w'

theorem stop_iff (g : List Int) (B : Int) (k : Nat) : stopAt g B k ↔ (B / 2 < (cw (g.take k) 0 : Nat) ∨ B / 2 < (cw (g.take k) 1 : Nat) ∨ (k : Int) = B) := by
  unfold stopAt
  rw [cw0, cw1]

set_option maxHeartbeats 4000000 in
theorem rdecided_hi (B : Int) (h0 : 1 ≤ B) (a : Option Addr) (n c : Nat) (g : List Int) (w : World) (h : CellsAt w a (g.map (Value.int .i64))) (hl : g.length = n) (hnc : n ≤ c) (hb : n ≤ 4611686018427387904) (hbb : B ≤ 9223372036854775807) :
    Calls Try.prog 16 #[.slice a n c, .int .i64 B] w (DecSame g B w) := by
  have HL := Lib.hid hl
  have H := Lib.hid h
  have hB2 : B / 2 * 2 ≤ B := by omega
  have hB3 : 0 ≤ B / 2 := by omega
  clear hl h
  go_enter Try.func16, Try.ntmps16
  go_wp2_with fail
  go_loop [7] (fun i => ∃ k : Nat, k ≤ n + 1 ∧ i = .int .i64 k ∧ Hid (∀ m, 0 < m → m < k → ¬ stopAt g B m)) (fun i => n + 1 - (intOf i).toNat)
  case atStart => exact ⟨0, Nat.zero_le _, rfl, fun m m0 m1 => by omega⟩
  case round =>
    obtain ⟨k, hk, rfl, HN⟩ := hrel
    by_cases hlt : k ≤ n
    · have HT := Lib.hid (show CellsAt w a ((g.take k).map (Value.int .i64)) by rw [List.map_take]; exact H.out.take k)
      have HTL := Lib.hid (show (g.take k).length = k by rw [List.length_take, HL.out]; omega)
      have hkb : k ≤ 4611686018427387904 := by omega
      have hkc : (k : Int) ≤ (c : Int) := by omega
      have HSI := Lib.hid (stop_iff g B k)
      have HLD := Lib.hid (fun (hs : stopAt g B k) (k0 : 0 < k) => show DecR g B (leadOf (g.take k)) true from .inl ⟨rfl, k, k0, by rw [HL.out]; exact hlt, hs, HN.out, rfl⟩)
      have h00 : k = 0 → cw (g.take k) 0 = 0 ∧ cw (g.take k) 1 = 0 := fun h => by subst h; simp [cw]
      have HZ := Lib.hid h00
      clear h00
      generalize hg : g.take k = l at HT HTL HSI HLD HZ
      clear hg
      by_cases h2 : B / 2 < (cw l 0 : Nat)
      · have HS := Lib.hid (HLD.out (HSI.out.2 (.inl h2)) (by rcases Nat.eq_zero_or_pos k with h | h; exfalso; have := (HZ.out h).1; omega; exact h))
        clear HLD HSI
        go_wp2_with (first
          | (go_at_call 10; refine (rwins_any _ _ _ l _ _ HT.out HTL.out hkb).mono ?_; rintro e w' ⟨rfl, rfl⟩)
          | (go_at_call 18; refine (leader_any _ _ _ l _ HT.out HTL.out hkb).mono ?_; rintro e w' ⟨rfl, rfl⟩))
        go_ret2
        exact ⟨_, _, rfl, HS.out, rfl⟩
      · by_cases h3 : B / 2 < (cw l 1 : Nat)
        · have HS := Lib.hid (HLD.out (HSI.out.2 (.inr (.inl h3))) (by rcases Nat.eq_zero_or_pos k with h | h; exfalso; have := (HZ.out h).2; omega; exact h))
          clear HLD HSI
          go_wp2_with (first
            | (go_at_call 10; refine (rwins_any _ _ _ l _ _ HT.out HTL.out hkb).mono ?_; rintro e w' ⟨rfl, rfl⟩)
            | (go_at_call 18; refine (leader_any _ _ _ l _ HT.out HTL.out hkb).mono ?_; rintro e w' ⟨rfl, rfl⟩))
          go_ret2
          exact ⟨_, _, rfl, HS.out, rfl⟩
        · by_cases h4 : (k : Int) = B
          · have HS := Lib.hid (HLD.out (HSI.out.2 (.inr (.inr h4))) (by omega))
            have q4 : ((k : Int) == B) = true := by simp [h4]
            clear HLD HSI h4
            go_wp2_with (first
              | (go_at_call 10; refine (rwins_any _ _ _ l _ _ HT.out HTL.out hkb).mono ?_; rintro e w' ⟨rfl, rfl⟩)
              | (go_at_call 18; refine (leader_any _ _ _ l _ HT.out HTL.out hkb).mono ?_; rintro e w' ⟨rfl, rfl⟩))
            go_ret2
            exact ⟨_, _, rfl, HS.out, rfl⟩
          · have HNS := Lib.hid (show ¬ stopAt g B k from fun h => by rcases HSI.out.1 h with h | h | h; exact h2 h; exact h3 h; exact h4 h)
            have q4 : ((k : Int) == B) = false := by simp [h4]
            clear HLD HSI h4
            go_wp2_with (first
              | (go_at_call 10; refine (rwins_any _ _ _ l _ _ HT.out HTL.out hkb).mono ?_; rintro e w' ⟨rfl, rfl⟩))
            go_round
            case rel =>
              refine ⟨k + 1, by omega, by go_num, fun m m0 m1 => ?_⟩
              rcases Nat.lt_or_ge m k with h | h
              · exact HN.out m m0 h
              · rw [show m = k by omega]; exact HNS.out
            case measure => simp [intOf]; omega
    · have HE := Lib.hid (show DecR g B (-1) false from .inr ⟨rfl, rfl, fun m m0 m1 => HN.out m m0 (by have := HL.out; omega)⟩)
      go_wp2_with fail
      go_ret2
      exact ⟨_, _, rfl, HE.out, rfl⟩

set_option maxHeartbeats 4000000 in
theorem rdecided_lo (best : Int) (h0 : best < 1) (a : Option Addr) (n c : Nat) (g : List Int) (w : World) (h : CellsAt w a (g.map (Value.int .i64))) (hl : g.length = n) (hnc : n ≤ c) (hb : n ≤ 4611686018427387904) :
    Calls Try.prog 16 #[.slice a n c, .int .i64 best] w (DecSame g 1 w) := by
  have HL := Lib.hid hl
  have H := Lib.hid h
  clear hl h
  go_enter Try.func16, Try.ntmps16
  go_wp2_with fail
  go_loop [7] (fun i => ∃ k : Nat, k ≤ n + 1 ∧ i = .int .i64 k ∧ Hid (∀ m, 0 < m → m < k → ¬ stopAt g 1 m)) (fun i => n + 1 - (intOf i).toNat)
  case atStart => exact ⟨0, Nat.zero_le _, rfl, fun m m0 m1 => by omega⟩
  case round =>
    obtain ⟨k, hk, rfl, HN⟩ := hrel
    by_cases hlt : k ≤ n
    · have HT := Lib.hid (show CellsAt w a ((g.take k).map (Value.int .i64)) by rw [List.map_take]; exact H.out.take k)
      have HTL := Lib.hid (show (g.take k).length = k by rw [List.length_take, HL.out]; omega)
      have hkb : k ≤ 4611686018427387904 := by omega
      have hkc : (k : Int) ≤ (c : Int) := by omega
      have HSI := Lib.hid (stop_iff g 1 k)
      have HLD := Lib.hid (fun (hs : stopAt g 1 k) (k0 : 0 < k) => show DecR g 1 (leadOf (g.take k)) true from .inl ⟨rfl, k, k0, by rw [HL.out]; exact hlt, hs, HN.out, rfl⟩)
      have h00 : k = 0 → cw (g.take k) 0 = 0 ∧ cw (g.take k) 1 = 0 := fun h => by subst h; simp [cw]
      have HZ := Lib.hid h00
      clear h00
      generalize hg : g.take k = l at HT HTL HSI HLD HZ
      clear hg
      by_cases h2 : (0 : Int) < (cw l 0 : Nat)
      · have HS := Lib.hid (HLD.out (HSI.out.2 (.inl h2)) (by rcases Nat.eq_zero_or_pos k with h | h; exfalso; have := (HZ.out h).1; omega; exact h))
        clear HLD HSI
        go_wp2_with (first
          | (go_at_call 10; refine (rwins_any _ _ _ l _ _ HT.out HTL.out hkb).mono ?_; rintro e w' ⟨rfl, rfl⟩)
          | (go_at_call 18; refine (leader_any _ _ _ l _ HT.out HTL.out hkb).mono ?_; rintro e w' ⟨rfl, rfl⟩))
        go_ret2
        exact ⟨_, _, rfl, HS.out, rfl⟩
      · by_cases h3 : (0 : Int) < (cw l 1 : Nat)
        · have HS := Lib.hid (HLD.out (HSI.out.2 (.inr (.inl h3))) (by rcases Nat.eq_zero_or_pos k with h | h; exfalso; have := (HZ.out h).2; omega; exact h))
          clear HLD HSI
          go_wp2_with (first
            | (go_at_call 10; refine (rwins_any _ _ _ l _ _ HT.out HTL.out hkb).mono ?_; rintro e w' ⟨rfl, rfl⟩)
            | (go_at_call 18; refine (leader_any _ _ _ l _ HT.out HTL.out hkb).mono ?_; rintro e w' ⟨rfl, rfl⟩))
          go_ret2
          exact ⟨_, _, rfl, HS.out, rfl⟩
        · by_cases h4 : (k : Int) = 1
          · have HS := Lib.hid (HLD.out (HSI.out.2 (.inr (.inr h4))) (by omega))
            have q4 : ((k : Int) == 1) = true := by simp [h4]
            clear HLD HSI h4
            go_wp2_with (first
              | (go_at_call 10; refine (rwins_any _ _ _ l _ _ HT.out HTL.out hkb).mono ?_; rintro e w' ⟨rfl, rfl⟩)
              | (go_at_call 18; refine (leader_any _ _ _ l _ HT.out HTL.out hkb).mono ?_; rintro e w' ⟨rfl, rfl⟩))
            go_ret2
            exact ⟨_, _, rfl, HS.out, rfl⟩
          · have HNS := Lib.hid (show ¬ stopAt g 1 k from fun h => by rcases HSI.out.1 h with h | h | h; exact h2 h; exact h3 h; exact h4 h)
            have q4 : ((k : Int) == 1) = false := by simp [h4]
            clear HLD HSI h4
            go_wp2_with (first
              | (go_at_call 10; refine (rwins_any _ _ _ l _ _ HT.out HTL.out hkb).mono ?_; rintro e w' ⟨rfl, rfl⟩))
            go_round
            case rel =>
              refine ⟨k + 1, by omega, by go_num, fun m m0 m1 => ?_⟩
              rcases Nat.lt_or_ge m k with h | h
              · exact HN.out m m0 h
              · rw [show m = k by omega]; exact HNS.out
            case measure => simp [intOf]; omega
    · have HE := Lib.hid (show DecR g 1 (-1) false from .inr ⟨rfl, rfl, fun m m0 m1 => HN.out m m0 (by have := HL.out; omega)⟩)
      go_wp2_with fail
      go_ret2
      exact ⟨_, _, rfl, HE.out, rfl⟩

theorem rdecided_any (best : Int) (a : Option Addr) (n c : Nat) (g : List Int) (w : World) (h : CellsAt w a (g.map (Value.int .i64))) (hl : g.length = n) (hnc : n ≤ c) (hb : n ≤ 4611686018427387904) (hbb : best ≤ 9223372036854775807) :
    Calls Try.prog 16 #[.slice a n c, .int .i64 best] w fun e w' => ∃ p ok, e = .returned (.tuple #[.int .i64 p, .bool ok]) ∧ DecR g (max best 1) p ok ∧ w = w' := by
  by_cases h1 : best < 1
  · rw [show max best 1 = 1 by omega]
    exact rdecided_lo best h1 a n c g w h hl hnc hb
  · rw [show max best 1 = best by omega]
    exact rdecided_hi best (by omega) a n c g w h hl hnc hb hbb
end Go.Proofs.Ytclhahmnllegpaa
