/-
  The structs of layer 27's coder: pool, counters, filter, modification ..: each from its parts.
-/
import Derived.Test.YtbcpdjhpceimlaaLeaf
namespace Go.Proofs.Ytbcpdjhpceimlaa
open Go.ChangeShapes Go.WideShapes Go.ChangeAt Go.RowKit
set_option linter.unusedVariables false

theorem Mid.leaf {F T : Nat} {q : Fld} (hF : CoderL F T q) {C b : Nat} {M : Mach} {d r : List Fld} {o m : Nat} {w0 w : World} (h : Mid C b M d (List.replicate m q ++ r) o w0 w) (hm : m ≤ 1000000) (w1 : World) (hg : w.grownBy w1 none) (p : Nat) (hp : w.heap.size ≤ p)
    (cells : Array Value) (hh : w1.heap[p]? = some (.cells cells T (0, 0))) (hc : cells.toList = ptrs b (o + d.length) m) :
    Calls Try.prog F #[.pointer (some ⟨C, 0, none⟩), .slice (some ⟨p, 0, none⟩) m m] w1 fun e w' => e = .returned (.tuple #[]) ∧ Hid (Mid C b M (d ++ List.replicate m q) r o w0 w') := by
  refine (hF C b (o + d.length) m p (M.next d o) w w1 (h.pre (World.grownBy.refl _ _)) hg hp (by rw [hh, ← hc]) hm).mono ?_
  rintro e w' ⟨rfl, hp⟩
  exact ⟨rfl, Lib.hid (h.step (World.grownBy.refl _ _) hp)⟩

theorem Mid.sub {F : Nat} {s : List Fld} (hF : Coder F s) {C b : Nat} {M : Mach} {d r : List Fld} {o : Nat} {w0 w : World} (h : Mid C b M d (s ++ r) o w0 w) (o' : Nat) (ho : o + d.length = o') :
    Calls Try.prog F #[.pointer (some ⟨C, 0, none⟩), .pointer (some ⟨b, o', none⟩)] w fun e w' => e = .returned (.tuple #[]) ∧ Hid (Mid C b M (d ++ s) r o w0 w') := by
  subst ho
  refine (hF C b (o + d.length) (M.next d o) w (h.pre (World.grownBy.refl _ _))).mono ?_
  rintro e w' ⟨rfl, hp⟩
  exact ⟨rfl, Lib.hid (h.step (World.grownBy.refl _ _) hp)⟩

set_option maxRecDepth 100000 in
set_option maxHeartbeats 2000000 in
theorem pool_coder : Coder 101 (List.replicate 6 .i) := by
  intro C b o M w hpre
  have HM := Lib.hid (Mid.start hpre)
  clear hpre
  go_enter Try.func101, Try.ntmps101
  go_wp2_with fail
  go_loopw [5] (fun i wr => ∃ k : Nat, i = .int .i64 k ∧ k ≤ 6 ∧ Hid (Mid C b M (List.replicate k .i) (List.replicate (6 - k) .i) o w wr)) (fun i _ => 6 - (intOf i).toNat)
  case atStart => exact ⟨0, rfl, Nat.zero_le _, HM⟩
  case round =>
    obtain ⟨k, rfl, hk, HM⟩ := hrel
    by_cases hlt : k < 6
    · have HM2 := Lib.hid (show Mid C b M (List.replicate k .i) (List.replicate 1 .i ++ List.replicate (6 - (k + 1)) .i) o w wr by rw [List.replicate_append_replicate, show 1 + (6 - (k + 1)) = 6 - k by omega]; exact HM.out)
      go_wp2_with (go_at_call 84; refine halt_here ?_)
      refine go_on ((HM2.out.leaf ints_coder (m := 1) (by decide) _ (World.grownBy_alloc _ _ _) _ (Nat.le_refl _) _ (heap_alloc_new _ _) (by simp [ptrs])).mono ?_)
      rintro e w2 ⟨rfl, HM3⟩
      have HM4 := Lib.hid (show Mid C b M (List.replicate (k + 1) .i) (List.replicate (6 - (k + 1)) .i) o w w2 by have := HM3.out; rwa [List.replicate_append_replicate] at this)
      clear HM HM2 HM3
      go_wp2_with fail
      go_roundw
      case rel => exact ⟨k + 1, by go_num, by omega, HM4⟩
      case measure => simp [intOf]; omega
    · obtain rfl : k = 6 := by omega
      go_wp2_with fail
      refine bodyPost_end (results_none rfl _ _ _) rfl ?_
      exact ⟨rfl, HM.out.last rfl rfl⟩

set_option maxRecDepth 100000 in
set_option maxHeartbeats 2000000 in
theorem counters_coder : Coder 102 (List.replicate 3 .i) := by
  intro C b o M w hpre
  have HM := Lib.hid (Mid.start hpre)
  clear hpre
  go_enter Try.func102, Try.ntmps102
  go_wp2_with fail
  go_loopw [5] (fun i wr => ∃ k : Nat, i = .int .i64 k ∧ k ≤ 3 ∧ Hid (Mid C b M (List.replicate k .i) (List.replicate (3 - k) .i) o w wr)) (fun i _ => 3 - (intOf i).toNat)
  case atStart => exact ⟨0, rfl, Nat.zero_le _, HM⟩
  case round =>
    obtain ⟨k, rfl, hk, HM⟩ := hrel
    by_cases hlt : k < 3
    · have HM2 := Lib.hid (show Mid C b M (List.replicate k .i) (List.replicate 1 .i ++ List.replicate (3 - (k + 1)) .i) o w wr by rw [List.replicate_append_replicate, show 1 + (3 - (k + 1)) = 3 - k by omega]; exact HM.out)
      go_wp2_with (go_at_call 84; refine halt_here ?_)
      refine go_on ((HM2.out.leaf ints_coder (m := 1) (by decide) _ (World.grownBy_alloc _ _ _) _ (Nat.le_refl _) _ (heap_alloc_new _ _) (by simp [ptrs])).mono ?_)
      rintro e w2 ⟨rfl, HM3⟩
      have HM4 := Lib.hid (show Mid C b M (List.replicate (k + 1) .i) (List.replicate (3 - (k + 1)) .i) o w w2 by have := HM3.out; rwa [List.replicate_append_replicate] at this)
      clear HM HM2 HM3
      go_wp2_with fail
      go_roundw
      case rel => exact ⟨k + 1, by go_num, by omega, HM4⟩
      case measure => simp [intOf]; omega
    · obtain rfl : k = 3 := by omega
      go_wp2_with fail
      refine bodyPost_end (results_none rfl _ _ _) rfl ?_
      exact ⟨rfl, HM.out.last rfl rfl⟩

/-- A filter. -/
abbrev filterS : List Fld := List.replicate 7 .i ++ ([.t] ++ (List.replicate 8 .i ++ []))

set_option maxRecDepth 100000 in
set_option maxHeartbeats 4000000 in
theorem filter_coder : Coder 114 filterS := by
  intro C b o M w hpre
  have HM0 := Lib.hid (Mid.start hpre)
  clear hpre
  go_enter Try.func114, Try.ntmps114
  go_wp2_with fail
  refine wp_region_plan [(0, none), (1, none), (2, none), (3, none), (4, none), (5, none), (6, none), (7, none), (8, none), (9, none), (10, none), (11, none), (12, none), (13, none), (14, none), (15, none), (16, none), (17, none), (18, none), (19, none), (20, none), (21, none), (22, some (some false)), (23, some (some false))] (by kernel_rfl) (by kernel_rfl) ?_
  repeat (first | (refine plan_free (v := ?_) rfl rfl (fun _ => ?_) (fun K hK => ?_); rotate_left 1; (focus (go_simp <;> exact rfl)); go_simp; refine hK _ _ ?_; clear hK K) | (refine plan_held (v := ?_) rfl rfl ?_ (fun K hK => ?_); rotate_left 1; (focus (go_simp <;> exact rfl)); go_simp; refine hK _ _ ?_; clear hK K) | (refine plan_skip rfl rfl (fun K hK => ?_); go_simp; refine hK _ _ ?_; clear hK K))
  refine plan_eff rfl rfl (fun K hK => ?_)
  go_wp2_with fail
  repeat (first | (refine plan_free (v := ?_) rfl rfl (fun _ => ?_) (fun K hK => ?_); rotate_left 1; (focus (go_simp <;> exact rfl)); go_simp; refine hK _ _ ?_; clear hK K) | (refine plan_held (v := ?_) rfl rfl ?_ (fun K hK => ?_); rotate_left 1; (focus (go_simp <;> exact rfl)); go_simp; refine hK _ _ ?_; clear hK K) | (refine plan_skip rfl rfl (fun K hK => ?_); go_simp; refine hK _ _ ?_; clear hK K))
  refine plan_eff rfl rfl (fun K hK => ?_)
  go_wp2_with (go_at_call 84; refine halt_here ?_)
  refine go_on ((HM0.out.leaf ints_coder (m := 7) (by decide) _ (g_drew (World.grownBy_alloc _ _ _)) _ (Nat.le_refl _) _ (heap_alloc_new _ _) rfl).mono ?_)
  rintro e w1 ⟨rfl, HM1⟩
  clear HM0
  go_wp2_with fail
  repeat (first | (refine plan_free (v := ?_) rfl rfl (fun _ => ?_) (fun K hK => ?_); rotate_left 1; (focus (go_simp <;> exact rfl)); go_simp; refine hK _ _ ?_; clear hK K) | (refine plan_held (v := ?_) rfl rfl ?_ (fun K hK => ?_); rotate_left 1; (focus (go_simp <;> exact rfl)); go_simp; refine hK _ _ ?_; clear hK K) | (refine plan_skip rfl rfl (fun K hK => ?_); go_simp; refine hK _ _ ?_; clear hK K))
  refine plan_nil ?_
  go_wp2_with (go_at_call 119; refine halt_here ?_)
  refine go_on ((HM1.out.sub text_coder _ rfl).mono ?_)
  rintro e w2 ⟨rfl, HM2⟩
  clear HM1
  go_wp2_with fail
  refine wp_region_plan [(0, none), (1, none), (2, none), (3, none), (4, none), (5, none), (6, none), (7, none), (8, none), (9, none), (10, none), (11, none), (12, none), (13, none), (14, none), (15, none), (16, none), (17, none), (18, none), (19, none), (20, none), (21, none), (22, none), (23, none), (24, none), (25, none), (26, none), (27, none), (28, none), (29, none), (30, none), (31, some (some false)), (32, some (some false))] (by kernel_rfl) (by kernel_rfl) ?_
  repeat (first | (refine plan_free (v := ?_) rfl rfl (fun _ => ?_) (fun K hK => ?_); rotate_left 1; (focus (go_simp <;> exact rfl)); go_simp; refine hK _ _ ?_; clear hK K) | (refine plan_held (v := ?_) rfl rfl ?_ (fun K hK => ?_); rotate_left 1; (focus (go_simp <;> exact rfl)); go_simp; refine hK _ _ ?_; clear hK K) | (refine plan_skip rfl rfl (fun K hK => ?_); go_simp; refine hK _ _ ?_; clear hK K))
  refine plan_eff rfl rfl (fun K hK => ?_)
  go_wp2_with fail
  repeat (first | (refine plan_free (v := ?_) rfl rfl (fun _ => ?_) (fun K hK => ?_); rotate_left 1; (focus (go_simp <;> exact rfl)); go_simp; refine hK _ _ ?_; clear hK K) | (refine plan_held (v := ?_) rfl rfl ?_ (fun K hK => ?_); rotate_left 1; (focus (go_simp <;> exact rfl)); go_simp; refine hK _ _ ?_; clear hK K) | (refine plan_skip rfl rfl (fun K hK => ?_); go_simp; refine hK _ _ ?_; clear hK K))
  refine plan_eff rfl rfl (fun K hK => ?_)
  go_wp2_with (go_at_call 84; refine halt_here ?_)
  refine go_on ((HM2.out.leaf ints_coder (m := 8) (by decide) _ (g_drew (World.grownBy_alloc _ _ _)) _ (Nat.le_refl _) _ (heap_alloc_new _ _) rfl).mono ?_)
  rintro e w3 ⟨rfl, HM3⟩
  clear HM2
  go_wp2_with fail
  repeat (first | (refine plan_free (v := ?_) rfl rfl (fun _ => ?_) (fun K hK => ?_); rotate_left 1; (focus (go_simp <;> exact rfl)); go_simp; refine hK _ _ ?_; clear hK K) | (refine plan_held (v := ?_) rfl rfl ?_ (fun K hK => ?_); rotate_left 1; (focus (go_simp <;> exact rfl)); go_simp; refine hK _ _ ?_; clear hK K) | (refine plan_skip rfl rfl (fun K hK => ?_); go_simp; refine hK _ _ ?_; clear hK K))
  refine plan_nil ?_
  go_wp2_with fail
  refine bodyPost_end (results_none rfl _ _ _) rfl ?_
  exact ⟨rfl, HM3.out.last rfl rfl⟩

/-- A modification. -/
abbrev modS : List Fld := List.replicate 3 .i ++ ([.t] ++ (filterS ++ []))

set_option maxRecDepth 100000 in
set_option maxHeartbeats 4000000 in
theorem mod_coder : Coder 108 modS := by
  intro C b o M w hpre
  have HM0 := Lib.hid (Mid.start hpre)
  clear hpre
  go_enter Try.func108, Try.ntmps108
  go_wp2_with fail
  refine wp_region_plan [(0, none), (1, none), (2, none), (3, none), (4, none), (5, none), (6, none), (7, none), (8, none), (9, none), (10, some (some false)), (11, some (some false))] (by kernel_rfl) (by kernel_rfl) ?_
  repeat (first | (refine plan_free (v := ?_) rfl rfl (fun _ => ?_) (fun K hK => ?_); rotate_left 1; (focus (go_simp <;> exact rfl)); go_simp; refine hK _ _ ?_; clear hK K) | (refine plan_held (v := ?_) rfl rfl ?_ (fun K hK => ?_); rotate_left 1; (focus (go_simp <;> exact rfl)); go_simp; refine hK _ _ ?_; clear hK K) | (refine plan_skip rfl rfl (fun K hK => ?_); go_simp; refine hK _ _ ?_; clear hK K))
  refine plan_eff rfl rfl (fun K hK => ?_)
  go_wp2_with fail
  repeat (first | (refine plan_free (v := ?_) rfl rfl (fun _ => ?_) (fun K hK => ?_); rotate_left 1; (focus (go_simp <;> exact rfl)); go_simp; refine hK _ _ ?_; clear hK K) | (refine plan_held (v := ?_) rfl rfl ?_ (fun K hK => ?_); rotate_left 1; (focus (go_simp <;> exact rfl)); go_simp; refine hK _ _ ?_; clear hK K) | (refine plan_skip rfl rfl (fun K hK => ?_); go_simp; refine hK _ _ ?_; clear hK K))
  refine plan_eff rfl rfl (fun K hK => ?_)
  go_wp2_with (go_at_call 84; refine halt_here ?_)
  refine go_on ((HM0.out.leaf ints_coder (m := 3) (by decide) _ (g_drew (World.grownBy_alloc _ _ _)) _ (Nat.le_refl _) _ (heap_alloc_new _ _) rfl).mono ?_)
  rintro e w1 ⟨rfl, HM1⟩
  clear HM0
  go_wp2_with fail
  repeat (first | (refine plan_free (v := ?_) rfl rfl (fun _ => ?_) (fun K hK => ?_); rotate_left 1; (focus (go_simp <;> exact rfl)); go_simp; refine hK _ _ ?_; clear hK K) | (refine plan_held (v := ?_) rfl rfl ?_ (fun K hK => ?_); rotate_left 1; (focus (go_simp <;> exact rfl)); go_simp; refine hK _ _ ?_; clear hK K) | (refine plan_skip rfl rfl (fun K hK => ?_); go_simp; refine hK _ _ ?_; clear hK K))
  refine plan_nil ?_
  go_wp2_with (go_at_call 119; refine halt_here ?_)
  refine go_on ((HM1.out.sub text_coder _ rfl).mono ?_)
  rintro e w2 ⟨rfl, HM2⟩
  clear HM1
  go_wp2_with (go_at_call 114; refine halt_here ?_)
  refine go_on ((HM2.out.sub filter_coder _ rfl).mono ?_)
  rintro e w3 ⟨rfl, HM3⟩
  clear HM2
  go_wp2_with fail
  refine bodyPost_end (results_none rfl _ _ _) rfl ?_
  exact ⟨rfl, HM3.out.last rfl rfl⟩

/-- A specification of targets. -/
abbrev specS : List Fld := List.replicate 2 .b ++ (filterS ++ [])

set_option maxRecDepth 100000 in
set_option maxHeartbeats 4000000 in
theorem spec_coder : Coder 116 specS := by
  intro C b o M w hpre
  have HM0 := Lib.hid (Mid.start hpre)
  clear hpre
  go_enter Try.func116, Try.ntmps116
  go_wp2_with fail
  refine wp_region_plan [(0, none), (1, none), (2, none), (3, none), (4, none), (5, none), (6, none), (7, some (some false)), (8, some (some false))] (by kernel_rfl) (by kernel_rfl) ?_
  repeat (first | (refine plan_free (v := ?_) rfl rfl (fun _ => ?_) (fun K hK => ?_); rotate_left 1; (focus (go_simp <;> exact rfl)); go_simp; refine hK _ _ ?_; clear hK K) | (refine plan_held (v := ?_) rfl rfl ?_ (fun K hK => ?_); rotate_left 1; (focus (go_simp <;> exact rfl)); go_simp; refine hK _ _ ?_; clear hK K) | (refine plan_skip rfl rfl (fun K hK => ?_); go_simp; refine hK _ _ ?_; clear hK K))
  refine plan_eff rfl rfl (fun K hK => ?_)
  go_wp2_with fail
  repeat (first | (refine plan_free (v := ?_) rfl rfl (fun _ => ?_) (fun K hK => ?_); rotate_left 1; (focus (go_simp <;> exact rfl)); go_simp; refine hK _ _ ?_; clear hK K) | (refine plan_held (v := ?_) rfl rfl ?_ (fun K hK => ?_); rotate_left 1; (focus (go_simp <;> exact rfl)); go_simp; refine hK _ _ ?_; clear hK K) | (refine plan_skip rfl rfl (fun K hK => ?_); go_simp; refine hK _ _ ?_; clear hK K))
  refine plan_eff rfl rfl (fun K hK => ?_)
  go_wp2_with (go_at_call 85; refine halt_here ?_)
  refine go_on ((HM0.out.leaf bools_coder (m := 2) (by decide) _ (g_drew (World.grownBy_alloc _ _ _)) _ (Nat.le_refl _) _ (heap_alloc_new _ _) rfl).mono ?_)
  rintro e w1 ⟨rfl, HM1⟩
  clear HM0
  go_wp2_with fail
  repeat (first | (refine plan_free (v := ?_) rfl rfl (fun _ => ?_) (fun K hK => ?_); rotate_left 1; (focus (go_simp <;> exact rfl)); go_simp; refine hK _ _ ?_; clear hK K) | (refine plan_held (v := ?_) rfl rfl ?_ (fun K hK => ?_); rotate_left 1; (focus (go_simp <;> exact rfl)); go_simp; refine hK _ _ ?_; clear hK K) | (refine plan_skip rfl rfl (fun K hK => ?_); go_simp; refine hK _ _ ?_; clear hK K))
  refine plan_nil ?_
  go_wp2_with (go_at_call 114; refine halt_here ?_)
  refine go_on ((HM1.out.sub filter_coder _ rfl).mono ?_)
  rintro e w2 ⟨rfl, HM2⟩
  clear HM1
  go_wp2_with fail
  refine bodyPost_end (results_none rfl _ _ _) rfl ?_
  exact ⟨rfl, HM2.out.last rfl rfl⟩

/-- A target. -/
abbrev targetS : List Fld := List.replicate 2 .i ++ []

set_option maxRecDepth 100000 in
set_option maxHeartbeats 4000000 in
theorem target_coder : Coder 105 targetS := by
  intro C b o M w hpre
  have HM0 := Lib.hid (Mid.start hpre)
  clear hpre
  go_enter Try.func105, Try.ntmps105
  go_wp2_with fail
  refine wp_region_plan [(0, none), (1, none), (2, none), (3, none), (4, none), (5, none), (6, none), (7, some (some false)), (8, some (some false))] (by kernel_rfl) (by kernel_rfl) ?_
  repeat (first | (refine plan_free (v := ?_) rfl rfl (fun _ => ?_) (fun K hK => ?_); rotate_left 1; (focus (go_simp <;> exact rfl)); go_simp; refine hK _ _ ?_; clear hK K) | (refine plan_held (v := ?_) rfl rfl ?_ (fun K hK => ?_); rotate_left 1; (focus (go_simp <;> exact rfl)); go_simp; refine hK _ _ ?_; clear hK K) | (refine plan_skip rfl rfl (fun K hK => ?_); go_simp; refine hK _ _ ?_; clear hK K))
  refine plan_eff rfl rfl (fun K hK => ?_)
  go_wp2_with fail
  repeat (first | (refine plan_free (v := ?_) rfl rfl (fun _ => ?_) (fun K hK => ?_); rotate_left 1; (focus (go_simp <;> exact rfl)); go_simp; refine hK _ _ ?_; clear hK K) | (refine plan_held (v := ?_) rfl rfl ?_ (fun K hK => ?_); rotate_left 1; (focus (go_simp <;> exact rfl)); go_simp; refine hK _ _ ?_; clear hK K) | (refine plan_skip rfl rfl (fun K hK => ?_); go_simp; refine hK _ _ ?_; clear hK K))
  refine plan_eff rfl rfl (fun K hK => ?_)
  go_wp2_with (go_at_call 84; refine halt_here ?_)
  refine go_on ((HM0.out.leaf ints_coder (m := 2) (by decide) _ (g_drew (World.grownBy_alloc _ _ _)) _ (Nat.le_refl _) _ (heap_alloc_new _ _) rfl).mono ?_)
  rintro e w1 ⟨rfl, HM1⟩
  clear HM0
  go_wp2_with fail
  repeat (first | (refine plan_free (v := ?_) rfl rfl (fun _ => ?_) (fun K hK => ?_); rotate_left 1; (focus (go_simp <;> exact rfl)); go_simp; refine hK _ _ ?_; clear hK K) | (refine plan_held (v := ?_) rfl rfl ?_ (fun K hK => ?_); rotate_left 1; (focus (go_simp <;> exact rfl)); go_simp; refine hK _ _ ?_; clear hK K) | (refine plan_skip rfl rfl (fun K hK => ?_); go_simp; refine hK _ _ ?_; clear hK K))
  refine plan_nil ?_
  go_wp2_with fail
  refine bodyPost_end (results_none rfl _ _ _) rfl ?_
  exact ⟨rfl, HM1.out.last rfl rfl⟩

/-- An event. -/
abbrev eventS : List Fld := List.replicate 10 .i ++ (List.replicate 2 .b ++ (List.replicate 3 .i ++ []))

set_option maxRecDepth 100000 in
set_option maxHeartbeats 4000000 in
theorem event_coder : Coder 106 eventS := by
  intro C b o M w hpre
  have HM0 := Lib.hid (Mid.start hpre)
  clear hpre
  go_enter Try.func106, Try.ntmps106
  go_wp2_with fail
  refine wp_region_plan [(0, none), (1, none), (2, none), (3, none), (4, none), (5, none), (6, none), (7, none), (8, none), (9, none), (10, none), (11, none), (12, none), (13, none), (14, none), (15, none), (16, none), (17, none), (18, none), (19, none), (20, none), (21, none), (22, none), (23, none), (24, none), (25, none), (26, none), (27, none), (28, none), (29, none), (30, none), (31, some (some false)), (32, some (some false))] (by kernel_rfl) (by kernel_rfl) ?_
  repeat (first | (refine plan_free (v := ?_) rfl rfl (fun _ => ?_) (fun K hK => ?_); rotate_left 1; (focus (go_simp <;> exact rfl)); go_simp; refine hK _ _ ?_; clear hK K) | (refine plan_held (v := ?_) rfl rfl ?_ (fun K hK => ?_); rotate_left 1; (focus (go_simp <;> exact rfl)); go_simp; refine hK _ _ ?_; clear hK K) | (refine plan_skip rfl rfl (fun K hK => ?_); go_simp; refine hK _ _ ?_; clear hK K))
  refine plan_eff rfl rfl (fun K hK => ?_)
  go_wp2_with fail
  repeat (first | (refine plan_free (v := ?_) rfl rfl (fun _ => ?_) (fun K hK => ?_); rotate_left 1; (focus (go_simp <;> exact rfl)); go_simp; refine hK _ _ ?_; clear hK K) | (refine plan_held (v := ?_) rfl rfl ?_ (fun K hK => ?_); rotate_left 1; (focus (go_simp <;> exact rfl)); go_simp; refine hK _ _ ?_; clear hK K) | (refine plan_skip rfl rfl (fun K hK => ?_); go_simp; refine hK _ _ ?_; clear hK K))
  refine plan_eff rfl rfl (fun K hK => ?_)
  go_wp2_with (go_at_call 84; refine halt_here ?_)
  refine go_on ((HM0.out.leaf ints_coder (m := 10) (by decide) _ (g_drew (World.grownBy_alloc _ _ _)) _ (Nat.le_refl _) _ (heap_alloc_new _ _) rfl).mono ?_)
  rintro e w1 ⟨rfl, HM1⟩
  clear HM0
  go_wp2_with fail
  repeat (first | (refine plan_free (v := ?_) rfl rfl (fun _ => ?_) (fun K hK => ?_); rotate_left 1; (focus (go_simp <;> exact rfl)); go_simp; refine hK _ _ ?_; clear hK K) | (refine plan_held (v := ?_) rfl rfl ?_ (fun K hK => ?_); rotate_left 1; (focus (go_simp <;> exact rfl)); go_simp; refine hK _ _ ?_; clear hK K) | (refine plan_skip rfl rfl (fun K hK => ?_); go_simp; refine hK _ _ ?_; clear hK K))
  refine plan_nil ?_
  go_wp2_with fail
  refine wp_region_plan [(0, none), (1, none), (2, none), (3, none), (4, none), (5, none), (6, none), (7, some (some false)), (8, some (some false))] (by kernel_rfl) (by kernel_rfl) ?_
  repeat (first | (refine plan_free (v := ?_) rfl rfl (fun _ => ?_) (fun K hK => ?_); rotate_left 1; (focus (go_simp <;> exact rfl)); go_simp; refine hK _ _ ?_; clear hK K) | (refine plan_held (v := ?_) rfl rfl ?_ (fun K hK => ?_); rotate_left 1; (focus (go_simp <;> exact rfl)); go_simp; refine hK _ _ ?_; clear hK K) | (refine plan_skip rfl rfl (fun K hK => ?_); go_simp; refine hK _ _ ?_; clear hK K))
  refine plan_eff rfl rfl (fun K hK => ?_)
  go_wp2_with fail
  repeat (first | (refine plan_free (v := ?_) rfl rfl (fun _ => ?_) (fun K hK => ?_); rotate_left 1; (focus (go_simp <;> exact rfl)); go_simp; refine hK _ _ ?_; clear hK K) | (refine plan_held (v := ?_) rfl rfl ?_ (fun K hK => ?_); rotate_left 1; (focus (go_simp <;> exact rfl)); go_simp; refine hK _ _ ?_; clear hK K) | (refine plan_skip rfl rfl (fun K hK => ?_); go_simp; refine hK _ _ ?_; clear hK K))
  refine plan_eff rfl rfl (fun K hK => ?_)
  go_wp2_with (go_at_call 85; refine halt_here ?_)
  refine go_on ((HM1.out.leaf bools_coder (m := 2) (by decide) _ (g_drew (World.grownBy_alloc _ _ _)) _ (Nat.le_refl _) _ (heap_alloc_new _ _) rfl).mono ?_)
  rintro e w2 ⟨rfl, HM2⟩
  clear HM1
  go_wp2_with fail
  repeat (first | (refine plan_free (v := ?_) rfl rfl (fun _ => ?_) (fun K hK => ?_); rotate_left 1; (focus (go_simp <;> exact rfl)); go_simp; refine hK _ _ ?_; clear hK K) | (refine plan_held (v := ?_) rfl rfl ?_ (fun K hK => ?_); rotate_left 1; (focus (go_simp <;> exact rfl)); go_simp; refine hK _ _ ?_; clear hK K) | (refine plan_skip rfl rfl (fun K hK => ?_); go_simp; refine hK _ _ ?_; clear hK K))
  refine plan_nil ?_
  go_wp2_with (go_at_call 102; refine halt_here ?_)
  refine go_on ((HM2.out.sub counters_coder _ rfl).mono ?_)
  rintro e w3 ⟨rfl, HM3⟩
  clear HM2
  go_wp2_with fail
  refine bodyPost_end (results_none rfl _ _ _) rfl ?_
  exact ⟨rfl, HM3.out.last rfl rfl⟩

/-- A player. -/
abbrev playerS : List Fld := List.replicate 3 .i ++ (List.replicate 6 .i ++ (List.replicate 2 .b ++ (List.replicate 3 .l ++ [])))

set_option maxRecDepth 100000 in
set_option maxHeartbeats 4000000 in
theorem player_coder : Coder 74 playerS := by
  intro C b o M w hpre
  have HM0 := Lib.hid (Mid.start hpre)
  clear hpre
  go_enter Try.func74, Try.ntmps74
  go_wp2_with fail
  refine wp_region_plan [(0, none), (1, none), (2, none), (3, none), (4, none), (5, none), (6, none), (7, none), (8, none), (9, none), (10, some (some false)), (11, some (some false))] (by kernel_rfl) (by kernel_rfl) ?_
  repeat (first | (refine plan_free (v := ?_) rfl rfl (fun _ => ?_) (fun K hK => ?_); rotate_left 1; (focus (go_simp <;> exact rfl)); go_simp; refine hK _ _ ?_; clear hK K) | (refine plan_held (v := ?_) rfl rfl ?_ (fun K hK => ?_); rotate_left 1; (focus (go_simp <;> exact rfl)); go_simp; refine hK _ _ ?_; clear hK K) | (refine plan_skip rfl rfl (fun K hK => ?_); go_simp; refine hK _ _ ?_; clear hK K))
  refine plan_eff rfl rfl (fun K hK => ?_)
  go_wp2_with fail
  repeat (first | (refine plan_free (v := ?_) rfl rfl (fun _ => ?_) (fun K hK => ?_); rotate_left 1; (focus (go_simp <;> exact rfl)); go_simp; refine hK _ _ ?_; clear hK K) | (refine plan_held (v := ?_) rfl rfl ?_ (fun K hK => ?_); rotate_left 1; (focus (go_simp <;> exact rfl)); go_simp; refine hK _ _ ?_; clear hK K) | (refine plan_skip rfl rfl (fun K hK => ?_); go_simp; refine hK _ _ ?_; clear hK K))
  refine plan_eff rfl rfl (fun K hK => ?_)
  go_wp2_with (go_at_call 84; refine halt_here ?_)
  refine go_on ((HM0.out.leaf ints_coder (m := 3) (by decide) _ (g_drew (World.grownBy_alloc _ _ _)) _ (Nat.le_refl _) _ (heap_alloc_new _ _) rfl).mono ?_)
  rintro e w1 ⟨rfl, HM1⟩
  clear HM0
  go_wp2_with fail
  repeat (first | (refine plan_free (v := ?_) rfl rfl (fun _ => ?_) (fun K hK => ?_); rotate_left 1; (focus (go_simp <;> exact rfl)); go_simp; refine hK _ _ ?_; clear hK K) | (refine plan_held (v := ?_) rfl rfl ?_ (fun K hK => ?_); rotate_left 1; (focus (go_simp <;> exact rfl)); go_simp; refine hK _ _ ?_; clear hK K) | (refine plan_skip rfl rfl (fun K hK => ?_); go_simp; refine hK _ _ ?_; clear hK K))
  refine plan_nil ?_
  go_wp2_with (go_at_call 101; refine halt_here ?_)
  refine go_on ((HM1.out.sub pool_coder _ rfl).mono ?_)
  rintro e w2 ⟨rfl, HM2⟩
  clear HM1
  go_wp2_with fail
  refine wp_region_plan [(0, none), (1, none), (2, none), (3, none), (4, none), (5, none), (6, none), (7, some (some false)), (8, some (some false))] (by kernel_rfl) (by kernel_rfl) ?_
  repeat (first | (refine plan_free (v := ?_) rfl rfl (fun _ => ?_) (fun K hK => ?_); rotate_left 1; (focus (go_simp <;> exact rfl)); go_simp; refine hK _ _ ?_; clear hK K) | (refine plan_held (v := ?_) rfl rfl ?_ (fun K hK => ?_); rotate_left 1; (focus (go_simp <;> exact rfl)); go_simp; refine hK _ _ ?_; clear hK K) | (refine plan_skip rfl rfl (fun K hK => ?_); go_simp; refine hK _ _ ?_; clear hK K))
  refine plan_eff rfl rfl (fun K hK => ?_)
  go_wp2_with fail
  repeat (first | (refine plan_free (v := ?_) rfl rfl (fun _ => ?_) (fun K hK => ?_); rotate_left 1; (focus (go_simp <;> exact rfl)); go_simp; refine hK _ _ ?_; clear hK K) | (refine plan_held (v := ?_) rfl rfl ?_ (fun K hK => ?_); rotate_left 1; (focus (go_simp <;> exact rfl)); go_simp; refine hK _ _ ?_; clear hK K) | (refine plan_skip rfl rfl (fun K hK => ?_); go_simp; refine hK _ _ ?_; clear hK K))
  refine plan_eff rfl rfl (fun K hK => ?_)
  go_wp2_with (go_at_call 85; refine halt_here ?_)
  refine go_on ((HM2.out.leaf bools_coder (m := 2) (by decide) _ (g_drew (World.grownBy_alloc _ _ _)) _ (Nat.le_refl _) _ (heap_alloc_new _ _) rfl).mono ?_)
  rintro e w3 ⟨rfl, HM3⟩
  clear HM2
  go_wp2_with fail
  repeat (first | (refine plan_free (v := ?_) rfl rfl (fun _ => ?_) (fun K hK => ?_); rotate_left 1; (focus (go_simp <;> exact rfl)); go_simp; refine hK _ _ ?_; clear hK K) | (refine plan_held (v := ?_) rfl rfl ?_ (fun K hK => ?_); rotate_left 1; (focus (go_simp <;> exact rfl)); go_simp; refine hK _ _ ?_; clear hK K) | (refine plan_skip rfl rfl (fun K hK => ?_); go_simp; refine hK _ _ ?_; clear hK K))
  refine plan_nil ?_
  go_wp2_with fail
  refine wp_region_plan [(0, none), (1, none), (2, none), (3, none), (4, none), (5, none), (6, none), (7, none), (8, none), (9, none), (10, some (some false)), (11, some (some false))] (by kernel_rfl) (by kernel_rfl) ?_
  repeat (first | (refine plan_free (v := ?_) rfl rfl (fun _ => ?_) (fun K hK => ?_); rotate_left 1; (focus (go_simp <;> exact rfl)); go_simp; refine hK _ _ ?_; clear hK K) | (refine plan_held (v := ?_) rfl rfl ?_ (fun K hK => ?_); rotate_left 1; (focus (go_simp <;> exact rfl)); go_simp; refine hK _ _ ?_; clear hK K) | (refine plan_skip rfl rfl (fun K hK => ?_); go_simp; refine hK _ _ ?_; clear hK K))
  refine plan_eff rfl rfl (fun K hK => ?_)
  go_wp2_with fail
  repeat (first | (refine plan_free (v := ?_) rfl rfl (fun _ => ?_) (fun K hK => ?_); rotate_left 1; (focus (go_simp <;> exact rfl)); go_simp; refine hK _ _ ?_; clear hK K) | (refine plan_held (v := ?_) rfl rfl ?_ (fun K hK => ?_); rotate_left 1; (focus (go_simp <;> exact rfl)); go_simp; refine hK _ _ ?_; clear hK K) | (refine plan_skip rfl rfl (fun K hK => ?_); go_simp; refine hK _ _ ?_; clear hK K))
  refine plan_eff rfl rfl (fun K hK => ?_)
  go_wp2_with (go_at_call 77; refine halt_here ?_)
  refine go_on ((HM3.out.leaf lists_coder (m := 3) (by decide) _ (g_drew (World.grownBy_alloc _ _ _)) _ (Nat.le_refl _) _ (heap_alloc_new _ _) rfl).mono ?_)
  rintro e w4 ⟨rfl, HM4⟩
  clear HM3
  go_wp2_with fail
  repeat (first | (refine plan_free (v := ?_) rfl rfl (fun _ => ?_) (fun K hK => ?_); rotate_left 1; (focus (go_simp <;> exact rfl)); go_simp; refine hK _ _ ?_; clear hK K) | (refine plan_held (v := ?_) rfl rfl ?_ (fun K hK => ?_); rotate_left 1; (focus (go_simp <;> exact rfl)); go_simp; refine hK _ _ ?_; clear hK K) | (refine plan_skip rfl rfl (fun K hK => ?_); go_simp; refine hK _ _ ?_; clear hK K))
  refine plan_nil ?_
  go_wp2_with fail
  refine bodyPost_end (results_none rfl _ _ _) rfl ?_
  exact ⟨rfl, HM4.out.last rfl rfl⟩

/-- An object. -/
abbrev objectS : List Fld := List.replicate 5 .i ++ (List.replicate 4 .b ++ (List.replicate 1 .i ++ (List.replicate 3 .i ++ (List.replicate 3 .i ++ (List.replicate 1 .b ++ (List.replicate 2 .i ++ []))))))

set_option maxRecDepth 100000 in
set_option maxHeartbeats 4000000 in
theorem object_coder : Coder 76 objectS := by
  intro C b o M w hpre
  have HM0 := Lib.hid (Mid.start hpre)
  clear hpre
  go_enter Try.func76, Try.ntmps76
  go_wp2_with fail
  refine wp_region_plan [(0, none), (1, none), (2, none), (3, none), (4, none), (5, none), (6, none), (7, none), (8, none), (9, none), (10, none), (11, none), (12, none), (13, none), (14, none), (15, none), (16, some (some false)), (17, some (some false))] (by kernel_rfl) (by kernel_rfl) ?_
  repeat (first | (refine plan_free (v := ?_) rfl rfl (fun _ => ?_) (fun K hK => ?_); rotate_left 1; (focus (go_simp <;> exact rfl)); go_simp; refine hK _ _ ?_; clear hK K) | (refine plan_held (v := ?_) rfl rfl ?_ (fun K hK => ?_); rotate_left 1; (focus (go_simp <;> exact rfl)); go_simp; refine hK _ _ ?_; clear hK K) | (refine plan_skip rfl rfl (fun K hK => ?_); go_simp; refine hK _ _ ?_; clear hK K))
  refine plan_eff rfl rfl (fun K hK => ?_)
  go_wp2_with fail
  repeat (first | (refine plan_free (v := ?_) rfl rfl (fun _ => ?_) (fun K hK => ?_); rotate_left 1; (focus (go_simp <;> exact rfl)); go_simp; refine hK _ _ ?_; clear hK K) | (refine plan_held (v := ?_) rfl rfl ?_ (fun K hK => ?_); rotate_left 1; (focus (go_simp <;> exact rfl)); go_simp; refine hK _ _ ?_; clear hK K) | (refine plan_skip rfl rfl (fun K hK => ?_); go_simp; refine hK _ _ ?_; clear hK K))
  refine plan_eff rfl rfl (fun K hK => ?_)
  go_wp2_with (go_at_call 84; refine halt_here ?_)
  refine go_on ((HM0.out.leaf ints_coder (m := 5) (by decide) _ (g_drew (World.grownBy_alloc _ _ _)) _ (Nat.le_refl _) _ (heap_alloc_new _ _) rfl).mono ?_)
  rintro e w1 ⟨rfl, HM1⟩
  clear HM0
  go_wp2_with fail
  repeat (first | (refine plan_free (v := ?_) rfl rfl (fun _ => ?_) (fun K hK => ?_); rotate_left 1; (focus (go_simp <;> exact rfl)); go_simp; refine hK _ _ ?_; clear hK K) | (refine plan_held (v := ?_) rfl rfl ?_ (fun K hK => ?_); rotate_left 1; (focus (go_simp <;> exact rfl)); go_simp; refine hK _ _ ?_; clear hK K) | (refine plan_skip rfl rfl (fun K hK => ?_); go_simp; refine hK _ _ ?_; clear hK K))
  refine plan_nil ?_
  go_wp2_with fail
  refine wp_region_plan [(0, none), (1, none), (2, none), (3, none), (4, none), (5, none), (6, none), (7, none), (8, none), (9, none), (10, none), (11, none), (12, none), (13, some (some false)), (14, some (some false))] (by kernel_rfl) (by kernel_rfl) ?_
  repeat (first | (refine plan_free (v := ?_) rfl rfl (fun _ => ?_) (fun K hK => ?_); rotate_left 1; (focus (go_simp <;> exact rfl)); go_simp; refine hK _ _ ?_; clear hK K) | (refine plan_held (v := ?_) rfl rfl ?_ (fun K hK => ?_); rotate_left 1; (focus (go_simp <;> exact rfl)); go_simp; refine hK _ _ ?_; clear hK K) | (refine plan_skip rfl rfl (fun K hK => ?_); go_simp; refine hK _ _ ?_; clear hK K))
  refine plan_eff rfl rfl (fun K hK => ?_)
  go_wp2_with fail
  repeat (first | (refine plan_free (v := ?_) rfl rfl (fun _ => ?_) (fun K hK => ?_); rotate_left 1; (focus (go_simp <;> exact rfl)); go_simp; refine hK _ _ ?_; clear hK K) | (refine plan_held (v := ?_) rfl rfl ?_ (fun K hK => ?_); rotate_left 1; (focus (go_simp <;> exact rfl)); go_simp; refine hK _ _ ?_; clear hK K) | (refine plan_skip rfl rfl (fun K hK => ?_); go_simp; refine hK _ _ ?_; clear hK K))
  refine plan_eff rfl rfl (fun K hK => ?_)
  go_wp2_with (go_at_call 85; refine halt_here ?_)
  refine go_on ((HM1.out.leaf bools_coder (m := 4) (by decide) _ (g_drew (World.grownBy_alloc _ _ _)) _ (Nat.le_refl _) _ (heap_alloc_new _ _) rfl).mono ?_)
  rintro e w2 ⟨rfl, HM2⟩
  clear HM1
  go_wp2_with fail
  repeat (first | (refine plan_free (v := ?_) rfl rfl (fun _ => ?_) (fun K hK => ?_); rotate_left 1; (focus (go_simp <;> exact rfl)); go_simp; refine hK _ _ ?_; clear hK K) | (refine plan_held (v := ?_) rfl rfl ?_ (fun K hK => ?_); rotate_left 1; (focus (go_simp <;> exact rfl)); go_simp; refine hK _ _ ?_; clear hK K) | (refine plan_skip rfl rfl (fun K hK => ?_); go_simp; refine hK _ _ ?_; clear hK K))
  refine plan_nil ?_
  go_wp2_with (go_at_call 84; refine halt_here ?_)
  refine go_on ((HM2.out.leaf ints_coder (m := 1) (by decide) _ (World.grownBy_alloc _ _ _) _ (Nat.le_refl _) _ (heap_alloc_new _ _) rfl).mono ?_)
  rintro e w3 ⟨rfl, HM3⟩
  clear HM2
  go_wp2_with (go_at_call 102; refine halt_here ?_)
  refine go_on ((HM3.out.sub counters_coder _ rfl).mono ?_)
  rintro e w4 ⟨rfl, HM4⟩
  clear HM3
  go_wp2_with fail
  refine wp_region_plan [(0, none), (1, none), (2, none), (3, none), (4, none), (5, none), (6, none), (7, none), (8, none), (9, none), (10, some (some false)), (11, some (some false))] (by kernel_rfl) (by kernel_rfl) ?_
  repeat (first | (refine plan_free (v := ?_) rfl rfl (fun _ => ?_) (fun K hK => ?_); rotate_left 1; (focus (go_simp <;> exact rfl)); go_simp; refine hK _ _ ?_; clear hK K) | (refine plan_held (v := ?_) rfl rfl ?_ (fun K hK => ?_); rotate_left 1; (focus (go_simp <;> exact rfl)); go_simp; refine hK _ _ ?_; clear hK K) | (refine plan_skip rfl rfl (fun K hK => ?_); go_simp; refine hK _ _ ?_; clear hK K))
  refine plan_eff rfl rfl (fun K hK => ?_)
  go_wp2_with fail
  repeat (first | (refine plan_free (v := ?_) rfl rfl (fun _ => ?_) (fun K hK => ?_); rotate_left 1; (focus (go_simp <;> exact rfl)); go_simp; refine hK _ _ ?_; clear hK K) | (refine plan_held (v := ?_) rfl rfl ?_ (fun K hK => ?_); rotate_left 1; (focus (go_simp <;> exact rfl)); go_simp; refine hK _ _ ?_; clear hK K) | (refine plan_skip rfl rfl (fun K hK => ?_); go_simp; refine hK _ _ ?_; clear hK K))
  refine plan_eff rfl rfl (fun K hK => ?_)
  go_wp2_with (go_at_call 84; refine halt_here ?_)
  refine go_on ((HM4.out.leaf ints_coder (m := 3) (by decide) _ (g_drew (World.grownBy_alloc _ _ _)) _ (Nat.le_refl _) _ (heap_alloc_new _ _) rfl).mono ?_)
  rintro e w5 ⟨rfl, HM5⟩
  clear HM4
  go_wp2_with fail
  repeat (first | (refine plan_free (v := ?_) rfl rfl (fun _ => ?_) (fun K hK => ?_); rotate_left 1; (focus (go_simp <;> exact rfl)); go_simp; refine hK _ _ ?_; clear hK K) | (refine plan_held (v := ?_) rfl rfl ?_ (fun K hK => ?_); rotate_left 1; (focus (go_simp <;> exact rfl)); go_simp; refine hK _ _ ?_; clear hK K) | (refine plan_skip rfl rfl (fun K hK => ?_); go_simp; refine hK _ _ ?_; clear hK K))
  refine plan_nil ?_
  go_wp2_with (go_at_call 85; refine halt_here ?_)
  refine go_on ((HM5.out.leaf bools_coder (m := 1) (by decide) _ (World.grownBy_alloc _ _ _) _ (Nat.le_refl _) _ (heap_alloc_new _ _) rfl).mono ?_)
  rintro e w6 ⟨rfl, HM6⟩
  clear HM5
  go_wp2_with fail
  refine wp_region_plan [(0, none), (1, none), (2, none), (3, none), (4, none), (5, none), (6, none), (7, some (some false)), (8, some (some false))] (by kernel_rfl) (by kernel_rfl) ?_
  repeat (first | (refine plan_free (v := ?_) rfl rfl (fun _ => ?_) (fun K hK => ?_); rotate_left 1; (focus (go_simp <;> exact rfl)); go_simp; refine hK _ _ ?_; clear hK K) | (refine plan_held (v := ?_) rfl rfl ?_ (fun K hK => ?_); rotate_left 1; (focus (go_simp <;> exact rfl)); go_simp; refine hK _ _ ?_; clear hK K) | (refine plan_skip rfl rfl (fun K hK => ?_); go_simp; refine hK _ _ ?_; clear hK K))
  refine plan_eff rfl rfl (fun K hK => ?_)
  go_wp2_with fail
  repeat (first | (refine plan_free (v := ?_) rfl rfl (fun _ => ?_) (fun K hK => ?_); rotate_left 1; (focus (go_simp <;> exact rfl)); go_simp; refine hK _ _ ?_; clear hK K) | (refine plan_held (v := ?_) rfl rfl ?_ (fun K hK => ?_); rotate_left 1; (focus (go_simp <;> exact rfl)); go_simp; refine hK _ _ ?_; clear hK K) | (refine plan_skip rfl rfl (fun K hK => ?_); go_simp; refine hK _ _ ?_; clear hK K))
  refine plan_eff rfl rfl (fun K hK => ?_)
  go_wp2_with (go_at_call 84; refine halt_here ?_)
  refine go_on ((HM6.out.leaf ints_coder (m := 2) (by decide) _ (g_drew (World.grownBy_alloc _ _ _)) _ (Nat.le_refl _) _ (heap_alloc_new _ _) rfl).mono ?_)
  rintro e w7 ⟨rfl, HM7⟩
  clear HM6
  go_wp2_with fail
  repeat (first | (refine plan_free (v := ?_) rfl rfl (fun _ => ?_) (fun K hK => ?_); rotate_left 1; (focus (go_simp <;> exact rfl)); go_simp; refine hK _ _ ?_; clear hK K) | (refine plan_held (v := ?_) rfl rfl ?_ (fun K hK => ?_); rotate_left 1; (focus (go_simp <;> exact rfl)); go_simp; refine hK _ _ ?_; clear hK K) | (refine plan_skip rfl rfl (fun K hK => ?_); go_simp; refine hK _ _ ?_; clear hK K))
  refine plan_nil ?_
  go_wp2_with fail
  refine bodyPost_end (results_none rfl _ _ _) rfl ?_
  exact ⟨rfl, HM7.out.last rfl rfl⟩
end Go.Proofs.Ytbcpdjhpceimlaa
