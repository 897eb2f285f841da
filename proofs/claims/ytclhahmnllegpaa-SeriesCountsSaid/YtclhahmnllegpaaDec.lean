/-
  Decided, the program's and the reference's: both answer what 'DecR' says.
-/
import Derived.Test.YtclhahmnllegpaaFns
namespace Go.Proofs.Ytclhahmnllegpaa
open Go.ChangeShapes Go.WideShapes Go.ChangeAt Go.RowKit

/-- The closure: the player with more wins. -/
theorem lead_any (B x y : Nat) (t : TypeId) (w : World) (h : w.heap[B]? = some (.cells #[.int .i64 x, .int .i64 y] t (0, 0))) :
    Calls Try.prog 17 #[.pointer (some ⟨B, 0, none⟩)] w fun e w' => e = .returned (.int .i64 (leadN x y)) ∧ w = w' := by
  have c0 : w.cell? ⟨B, 0, none⟩ = some (.int .i64 x) := blk_cell h 0
  have c1 : w.cell? ⟨B, 1, none⟩ = some (.int .i64 y) := blk_cell h 1
  clear h
  by_cases h1 : y < x
  · have HL := Lib.hid (show leadN x y = 0 by simp [leadN, h1])
    have q1 : decide ((y : Int) < (x : Int)) = true := by simp; omega
    go_enter Try.func17, Try.ntmps17
    go_wp2_with fail
    go_ret
    exact ⟨ret1 (by rw [HL.out]; rfl), rfl⟩
  · have q1 : decide (y < x) = false := by simp; omega
    by_cases h2 : x < y
    · have HL := Lib.hid (show leadN x y = 1 by simp [leadN, h1, h2])
      go_enter Try.func17, Try.ntmps17
      go_wp2_with fail
      go_ret
      exact ⟨ret1 (by rw [HL.out]; rfl), rfl⟩
    · have HL := Lib.hid (show leadN x y = -1 by simp [leadN, h1, h2])
      go_enter Try.func17, Try.ntmps17
      go_wp2_with fail
      go_ret
      exact ⟨ret1 (by rw [HL.out]; rfl), rfl⟩

/-- What a round finds: the counts in the block of two cells, and that no shorter prefix decides. -/
structure DRel (g : List Int) (B : Int) (n : Nat) (w : World) (k x y : Nat) (wr : World) : Prop where
  le : k ≤ n
  blk : wr.heap[w.heap.size]? = some (.cells #[.int .i64 x, .int .i64 y] 36 (0, 0))
  bel : Below w.heap.size w wr
  ex : x = (g.take k).count 0
  ey : y = (g.take k).count 1
  no : ∀ m, 0 < m → m ≤ k → ¬ stopAt g B m

theorem cnt_succ (g : List Int) (k : Nat) (h : k < g.length) (p : Int) : (g.take (k + 1)).count p = (g.take k).count p + if g.getD k 0 = p then 1 else 0 := by
  rw [List.take_succ_eq_append_getElem h, List.count_append, List.count_singleton]
  simp only [List.getD_eq_getElem?_getD, List.getElem?_eq_getElem h, Option.getD_some, beq_iff_eq]

theorem DRel.le_n {g : List Int} {B : Int} {n : Nat} {w : World} {k x y : Nat} {wr : World} (h : DRel g B n w k x y wr) : x ≤ n ∧ y ≤ n := by
  have h1 := List.count_le_length (a := (0 : Int)) (l := g.take k)
  have h2 := List.count_le_length (a := (1 : Int)) (l := g.take k)
  rw [List.length_take] at h1 h2
  have := h.le
  rw [h.ex, h.ey]
  omega

/-- One game more: the counts. -/
def up (v p : Int) (x : Nat) : Nat := x + if v = p then 1 else 0

theorem DRel.go {g : List Int} {B : Int} {n : Nat} {w : World} {k x y : Nat} {wr wr' : World} {v : Int} (h : DRel g B n w k x y wr) (hl : g.length = n) (hk : k < n) (hv : g.getD k 0 = v) {x' y' : Nat} (hx : x' = up v 0 x) (hy : y' = up v 1 y)
    (hblk : wr'.heap[w.heap.size]? = some (.cells #[.int .i64 x', .int .i64 y'] 36 (0, 0))) (hbel : Below w.heap.size w wr') (hs : ¬ (B / 2 < (x' : Int) ∨ B / 2 < (y' : Int) ∨ (k : Int) + 1 = B)) : DRel g B n w (k + 1) x' y' wr' := by
  have e0 := cnt_succ g k (by omega) 0
  have e1 := cnt_succ g k (by omega) 1
  rw [hv] at e0 e1
  have f0 : x' = (g.take (k + 1)).count 0 := by rw [e0, hx, up, h.ex]
  have f1 : y' = (g.take (k + 1)).count 1 := by rw [e1, hy, up, h.ey]
  refine ⟨hk, hblk, hbel, f0, f1, fun m m0 m1 hm => ?_⟩
  rcases Nat.lt_or_ge m (k + 1) with hlt | hge
  · exact h.no m m0 (by omega) hm
  · obtain rfl : m = k + 1 := by omega
    unfold stopAt at hm
    rw [← f0, ← f1] at hm
    exact hs (hm.imp id (Or.imp id (fun h => by omega)))

theorem DRel.stop {g : List Int} {B : Int} {n : Nat} {w : World} {k x y : Nat} {wr : World} {v : Int} (h : DRel g B n w k x y wr) (hl : g.length = n) (hk : k < n) (hv : g.getD k 0 = v) {x' y' : Nat} (hx : x' = up v 0 x) (hy : y' = up v 1 y)
    (hs : B / 2 < (x' : Int) ∨ B / 2 < (y' : Int) ∨ (k : Int) + 1 = B) : DecR g B (leadN x' y') true := by
  have e0 := cnt_succ g k (by omega) 0
  have e1 := cnt_succ g k (by omega) 1
  rw [hv] at e0 e1
  have f0 : x' = (g.take (k + 1)).count 0 := by rw [e0, hx, up, h.ex]
  have f1 : y' = (g.take (k + 1)).count 1 := by rw [e1, hy, up, h.ey]
  refine .inl ⟨rfl, k + 1, by omega, by omega, ?_, fun m m0 m1 => h.no m m0 (by omega), by rw [leadOf, ← f0, ← f1]⟩
  unfold stopAt
  rw [← f0, ← f1]
  exact hs.imp id (Or.imp id (fun h => by omega))


set_option maxHeartbeats 4000000 in
theorem decided_lo (best : Int) (h0 : best < 1) (a : Option Addr) (n c : Nat) (g : List Int) (w : World) (h : CellsAt w a (g.map (Value.int .i64))) (hl : g.length = n) (hb : n ≤ 4611686018427387904) :
    Calls Try.prog 15 #[.slice a n c, .int .i64 best] w fun e w' => ∃ p ok, e = .returned (.tuple #[.int .i64 p, .bool ok]) ∧ DecR g 1 p ok ∧ Below w.heap.size w w' := by
  have HL := Lib.hid hl
  have H := Lib.hid h
  clear hl h
  have hmf : ∀ (fn : Fn) (first cap : Array Value) (w : World), (Instr.makeFunc fn first cap).run Try.prog w = .ok (.func fn first cap) w := fun _ _ _ _ => rfl
  go_enter Try.func15, Try.ntmps15
  go_wp2_with fail
  go_loopw [16] (fun i wr => ∃ k x y : Nat, i = .int .i64 k ∧ DRel g 1 n w k x y wr) (fun i _ => n - (intOf i).toNat)
  case atStart => exact ⟨0, 0, 0, rfl, Nat.zero_le _, heap_alloc_new w _, (Below.refl _ _).alloc (Nat.le_refl _) _, rfl, rfl, fun m m0 m1 => by omega⟩
  case round =>
    obtain ⟨k, x, y, rfl, hd⟩ := hrel
    have hk0 : k = 0 := by
      rcases Nat.eq_zero_or_pos k with h | h
      · exact h
      · exact absurd (.inr (.inr rfl)) (hd.no 1 (by omega) h)
    subst hk0
    have hx0 : x = 0 := hd.ex
    have hy0 : y = 0 := hd.ey
    subst hx0 hy0
    have HD := Lib.hid hd
    clear hd
    by_cases hlt : 0 < n
    · obtain ⟨b1, o1, rfl, g1⟩ := CellsAt.pos H.out (by rw [List.length_map, HL.out]; omega)
      have e1 : wr.cell? ⟨b1, o1, none⟩ = some (.int .i64 (g.getD 0 0)) := by
        have := g1 0 _ (getD_int (by rw [HL.out]; omega) _)
        rw [Nat.add_zero] at this
        rw [HD.out.bel.cell (World.block_lt_of_cell? w _ this)]; exact this
      generalize hv : g.getD 0 0 = v at e1
      have HV := Lib.hid hv
      clear hv g1
      have c0 : wr.cell? ⟨w.heap.size, 0, none⟩ = some (.int .i64 ((0 : Nat) : Int)) := blk_cell HD.out.blk 0
      have c1 : wr.cell? ⟨w.heap.size, 1, none⟩ = some (.int .i64 ((0 : Nat) : Int)) := blk_cell HD.out.blk 1
      have f0 := blk_free HD.out.blk
      by_cases h0 : v = 0
      · subst h0
        have HB2 := Lib.hid (blk_setCell HD.out.blk 0 (.int .i64 1))
        have HS := Lib.hid (HD.out.stop HL.out hlt HV.out (x' := 1) (y' := 0) (by simp [up]) (by simp [up]) (.inr (.inr rfl)))
        go_wp2_with (go_at_call 17; refine (lead_any _ 1 0 36 _ HB2.out).mono ?_; rintro e w2 ⟨rfl, rfl⟩)
        go_ret2
        exact ⟨_, _, rfl, HS.out, HD.out.bel.setCell (Nat.le_refl _) _⟩
      · by_cases h1 : v = 1
        · subst h1
          have HB2 := Lib.hid (blk_setCell HD.out.blk 1 (.int .i64 1))
          have HS := Lib.hid (HD.out.stop HL.out hlt HV.out (x' := 0) (y' := 1) (by simp [up]) (by simp [up]) (.inr (.inr rfl)))
          go_wp2_with (go_at_call 17; refine (lead_any _ 0 1 36 _ HB2.out).mono ?_; rintro e w2 ⟨rfl, rfl⟩)
          go_ret2
          exact ⟨_, _, rfl, HS.out, HD.out.bel.setCell (Nat.le_refl _) _⟩
        · have HS := Lib.hid (HD.out.stop HL.out hlt HV.out (x' := 0) (y' := 0) (by simp [up, h0]) (by simp [up, h1]) (.inr (.inr rfl)))
          have q0 : (v == 0) = false := by simp [h0]
          have q1 : (v == 1) = false := by simp [h1]
          clear h0 h1
          go_wp2_with (go_at_call 17; refine (lead_any _ 0 0 36 _ HD.out.blk).mono ?_; rintro e w2 ⟨rfl, rfl⟩)
          go_ret2
          exact ⟨_, _, rfl, HS.out, HD.out.bel⟩
    · have HE := Lib.hid (show DecR g 1 (-1) false from .inr ⟨rfl, rfl, fun m m0 m1 => by have := HL.out; omega⟩)
      go_wp2_with fail
      go_ret2
      exact ⟨_, _, rfl, HE.out, HD.out.bel⟩

set_option maxHeartbeats 4000000 in
theorem decided_hi (B : Int) (h0 : 1 ≤ B) (a : Option Addr) (n c : Nat) (g : List Int) (w : World) (h : CellsAt w a (g.map (Value.int .i64))) (hl : g.length = n) (hb : n ≤ 4611686018427387904) (hbb : B ≤ 9223372036854775807) :
    Calls Try.prog 15 #[.slice a n c, .int .i64 B] w fun e w' => ∃ p ok, e = .returned (.tuple #[.int .i64 p, .bool ok]) ∧ DecR g B p ok ∧ Below w.heap.size w w' := by
  have HL := Lib.hid hl
  have H := Lib.hid h
  clear hl h
  have hmf : ∀ (fn : Fn) (first cap : Array Value) (w : World), (Instr.makeFunc fn first cap).run Try.prog w = .ok (.func fn first cap) w := fun _ _ _ _ => rfl
  go_enter Try.func15, Try.ntmps15
  go_wp2_with fail
  go_loopw [16] (fun i wr => ∃ k x y : Nat, i = .int .i64 k ∧ DRel g B n w k x y wr) (fun i _ => n - (intOf i).toNat)
  case atStart => exact ⟨0, 0, 0, rfl, Nat.zero_le _, heap_alloc_new w _, (Below.refl _ _).alloc (Nat.le_refl _) _, rfl, rfl, fun m m0 m1 => by omega⟩
  case round =>
    obtain ⟨k, x, y, rfl, hd⟩ := hrel
    have hxn := hd.le_n.1
    have hyn := hd.le_n.2
    have hk := hd.le
    have HD := Lib.hid hd
    clear hd
    have hB2 : B / 2 * 2 ≤ B := by omega
    by_cases hlt : k < n
    · obtain ⟨b1, o1, rfl, g1⟩ := CellsAt.pos H.out (by rw [List.length_map, HL.out]; omega)
      have e1 : wr.cell? ⟨b1, o1 + k, none⟩ = some (.int .i64 (g.getD k 0)) := by
        have := g1 k _ (getD_int (by rw [HL.out]; omega) _)
        rw [HD.out.bel.cell (World.block_lt_of_cell? w _ this)]; exact this
      generalize hv : g.getD k 0 = v at e1
      have HV := Lib.hid hv
      clear hv g1
      have c0 : wr.cell? ⟨w.heap.size, 0, none⟩ = some (.int .i64 x) := blk_cell HD.out.blk 0
      have c1 : wr.cell? ⟨w.heap.size, 1, none⟩ = some (.int .i64 y) := blk_cell HD.out.blk 1
      have f0 := blk_free HD.out.blk
      by_cases h0 : v = 0
      · subst h0
        have HB2 := Lib.hid (blk_setCell HD.out.blk 0 (.int .i64 ((x : Int) + 1)))
        have HX := Lib.hid (show x + 1 = up 0 0 x by simp [up])
        have HY := Lib.hid (show y = up 0 1 y by simp [up])
        by_cases hs : (B / 2 < ((x + 1 : Nat) : Int) ∨ B / 2 < ((y : Nat) : Int) ∨ (k : Int) + 1 = B)
        · have HS := Lib.hid (HD.out.stop HL.out hlt HV.out HX.out HY.out hs)
          by_cases hm : (x + 1) < (y)
          · by_cases h2 : B / 2 < ((y : Nat) : Int)
            · clear hs
              go_wp2_with (go_at_call 17; refine (lead_any _ (x + 1) (y) 36 _ HB2.out).mono ?_; rintro e w2 ⟨rfl, rfl⟩)
              go_ret2
              exact ⟨_, _, rfl, HS.out, (HD.out.bel.setCell (Nat.le_refl _) _)⟩
            · have q4 : (((k : Int) + 1) == B) = true := by rw [show (k : Int) + 1 = B by omega]; simp
              clear hs
              go_wp2_with (go_at_call 17; refine (lead_any _ (x + 1) (y) 36 _ HB2.out).mono ?_; rintro e w2 ⟨rfl, rfl⟩)
              go_ret2
              exact ⟨_, _, rfl, HS.out, (HD.out.bel.setCell (Nat.le_refl _) _)⟩
          · by_cases h2 : B / 2 < ((x + 1 : Nat) : Int)
            · clear hs
              go_wp2_with (go_at_call 17; refine (lead_any _ (x + 1) (y) 36 _ HB2.out).mono ?_; rintro e w2 ⟨rfl, rfl⟩)
              go_ret2
              exact ⟨_, _, rfl, HS.out, (HD.out.bel.setCell (Nat.le_refl _) _)⟩
            · have q4 : (((k : Int) + 1) == B) = true := by rw [show (k : Int) + 1 = B by omega]; simp
              clear hs
              go_wp2_with (go_at_call 17; refine (lead_any _ (x + 1) (y) 36 _ HB2.out).mono ?_; rintro e w2 ⟨rfl, rfl⟩)
              go_ret2
              exact ⟨_, _, rfl, HS.out, (HD.out.bel.setCell (Nat.le_refl _) _)⟩
        · have HG := Lib.hid (fun wr' hb1 hb2 => HD.out.go (wr' := wr') HL.out hlt HV.out HX.out HY.out hb1 hb2 hs)
          have h2 : ¬ B / 2 < ((x + 1 : Nat) : Int) := fun h => hs (.inl h)
          have h3 : ¬ B / 2 < ((y : Nat) : Int) := fun h => hs (.inr (.inl h))
          have q4 : (((k : Int) + 1) == B) = false := by simp; exact fun h => hs (.inr (.inr h))
          clear hs
          by_cases hm : (x + 1) < (y)
          all_goals
            go_wp2_with fail
            go_roundw
            case rel => exact ⟨k + 1, x + 1, y, by go_num, HG.out _ HB2.out (HD.out.bel.setCell (Nat.le_refl _) _)⟩
            case measure => simp [intOf]; omega
      · by_cases h1 : v = 1
        · subst h1
          have HB2 := Lib.hid (blk_setCell HD.out.blk 1 (.int .i64 ((y : Int) + 1)))
          have HX := Lib.hid (show x = up 1 0 x by simp [up])
          have HY := Lib.hid (show y + 1 = up 1 1 y by simp [up])
          by_cases hs : (B / 2 < ((x : Nat) : Int) ∨ B / 2 < ((y + 1 : Nat) : Int) ∨ (k : Int) + 1 = B)
          · have HS := Lib.hid (HD.out.stop HL.out hlt HV.out HX.out HY.out hs)
            by_cases hm : (x) < (y + 1)
            · by_cases h2 : B / 2 < ((y + 1 : Nat) : Int)
              · clear hs
                go_wp2_with (go_at_call 17; refine (lead_any _ (x) (y + 1) 36 _ HB2.out).mono ?_; rintro e w2 ⟨rfl, rfl⟩)
                go_ret2
                exact ⟨_, _, rfl, HS.out, (HD.out.bel.setCell (Nat.le_refl _) _)⟩
              · have q4 : (((k : Int) + 1) == B) = true := by rw [show (k : Int) + 1 = B by omega]; simp
                clear hs
                go_wp2_with (go_at_call 17; refine (lead_any _ (x) (y + 1) 36 _ HB2.out).mono ?_; rintro e w2 ⟨rfl, rfl⟩)
                go_ret2
                exact ⟨_, _, rfl, HS.out, (HD.out.bel.setCell (Nat.le_refl _) _)⟩
            · by_cases h2 : B / 2 < ((x : Nat) : Int)
              · clear hs
                go_wp2_with (go_at_call 17; refine (lead_any _ (x) (y + 1) 36 _ HB2.out).mono ?_; rintro e w2 ⟨rfl, rfl⟩)
                go_ret2
                exact ⟨_, _, rfl, HS.out, (HD.out.bel.setCell (Nat.le_refl _) _)⟩
              · have q4 : (((k : Int) + 1) == B) = true := by rw [show (k : Int) + 1 = B by omega]; simp
                clear hs
                go_wp2_with (go_at_call 17; refine (lead_any _ (x) (y + 1) 36 _ HB2.out).mono ?_; rintro e w2 ⟨rfl, rfl⟩)
                go_ret2
                exact ⟨_, _, rfl, HS.out, (HD.out.bel.setCell (Nat.le_refl _) _)⟩
          · have HG := Lib.hid (fun wr' hb1 hb2 => HD.out.go (wr' := wr') HL.out hlt HV.out HX.out HY.out hb1 hb2 hs)
            have h2 : ¬ B / 2 < ((x : Nat) : Int) := fun h => hs (.inl h)
            have h3 : ¬ B / 2 < ((y + 1 : Nat) : Int) := fun h => hs (.inr (.inl h))
            have q4 : (((k : Int) + 1) == B) = false := by simp; exact fun h => hs (.inr (.inr h))
            clear hs
            by_cases hm : (x) < (y + 1)
            all_goals
              go_wp2_with fail
              go_roundw
              case rel => exact ⟨k + 1, x, y + 1, by go_num, HG.out _ HB2.out (HD.out.bel.setCell (Nat.le_refl _) _)⟩
              case measure => simp [intOf]; omega
        · have HX := Lib.hid (show x = up v 0 x by simp [up, h0])
          have HY := Lib.hid (show y = up v 1 y by simp [up, h1])
          have q0 : (v == 0) = false := by simp [h0]
          have q1 : (v == 1) = false := by simp [h1]
          clear h0 h1
          by_cases hs : (B / 2 < ((x : Nat) : Int) ∨ B / 2 < ((y : Nat) : Int) ∨ (k : Int) + 1 = B)
          · have HS := Lib.hid (HD.out.stop HL.out hlt HV.out HX.out HY.out hs)
            by_cases hm : (x) < (y)
            · by_cases h2 : B / 2 < ((y : Nat) : Int)
              · clear hs
                go_wp2_with (go_at_call 17; refine (lead_any _ (x) (y) 36 _ HD.out.blk).mono ?_; rintro e w2 ⟨rfl, rfl⟩)
                go_ret2
                exact ⟨_, _, rfl, HS.out, HD.out.bel⟩
              · have q4 : (((k : Int) + 1) == B) = true := by rw [show (k : Int) + 1 = B by omega]; simp
                clear hs
                go_wp2_with (go_at_call 17; refine (lead_any _ (x) (y) 36 _ HD.out.blk).mono ?_; rintro e w2 ⟨rfl, rfl⟩)
                go_ret2
                exact ⟨_, _, rfl, HS.out, HD.out.bel⟩
            · by_cases h2 : B / 2 < ((x : Nat) : Int)
              · clear hs
                go_wp2_with (go_at_call 17; refine (lead_any _ (x) (y) 36 _ HD.out.blk).mono ?_; rintro e w2 ⟨rfl, rfl⟩)
                go_ret2
                exact ⟨_, _, rfl, HS.out, HD.out.bel⟩
              · have q4 : (((k : Int) + 1) == B) = true := by rw [show (k : Int) + 1 = B by omega]; simp
                clear hs
                go_wp2_with (go_at_call 17; refine (lead_any _ (x) (y) 36 _ HD.out.blk).mono ?_; rintro e w2 ⟨rfl, rfl⟩)
                go_ret2
                exact ⟨_, _, rfl, HS.out, HD.out.bel⟩
          · have HG := Lib.hid (fun wr' hb1 hb2 => HD.out.go (wr' := wr') HL.out hlt HV.out HX.out HY.out hb1 hb2 hs)
            have h2 : ¬ B / 2 < ((x : Nat) : Int) := fun h => hs (.inl h)
            have h3 : ¬ B / 2 < ((y : Nat) : Int) := fun h => hs (.inr (.inl h))
            have q4 : (((k : Int) + 1) == B) = false := by simp; exact fun h => hs (.inr (.inr h))
            clear hs
            by_cases hm : (x) < (y)
            all_goals
              go_wp2_with fail
              go_roundw
              case rel => exact ⟨k + 1, x, y, by go_num, HG.out _ HD.out.blk HD.out.bel⟩
              case measure => simp [intOf]; omega
    · have HE := Lib.hid (show DecR g B (-1) false from .inr ⟨rfl, rfl, fun m m0 m1 => HD.out.no m m0 (by have := HL.out; omega)⟩)
      go_wp2_with fail
      go_ret2
      exact ⟨_, _, rfl, HE.out, HD.out.bel⟩

theorem decided_any (best : Int) (a : Option Addr) (n c : Nat) (g : List Int) (w : World) (h : CellsAt w a (g.map (Value.int .i64))) (hl : g.length = n) (hb : n ≤ 4611686018427387904) (hbb : best ≤ 9223372036854775807) :
    Calls Try.prog 15 #[.slice a n c, .int .i64 best] w fun e w' => ∃ p ok, e = .returned (.tuple #[.int .i64 p, .bool ok]) ∧ DecR g (max best 1) p ok ∧ Below w.heap.size w w' := by
  by_cases h1 : best < 1
  · rw [show max best 1 = 1 by omega]
    exact decided_lo best h1 a n c g w h hl hb
  · rw [show max best 1 = best by omega]
    exact decided_hi best (by omega) a n c g w h hl hb hbb
end Go.Proofs.Ytclhahmnllegpaa
