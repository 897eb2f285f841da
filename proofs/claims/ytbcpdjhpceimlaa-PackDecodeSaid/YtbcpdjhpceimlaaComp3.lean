/-
  Abilities, items of the stack and waiting abilities of layer 27's coder.
-/
import Derived.Test.YtbcpdjhpceimlaaAllEffect
import Derived.Test.YtbcpdjhpceimlaaAllSpec
import Derived.Test.YtbcpdjhpceimlaaAllTarget
namespace Go.Proofs.Ytbcpdjhpceimlaa
open Go.ChangeShapes Go.WideShapes Go.ChangeAt Go.RowKit
set_option linter.unusedVariables false

/-- An ability. -/
abbrev abilityS : List Fld := List.replicate 1 .i ++ (filterS ++ ([.e modS] ++ (List.replicate 2 .i ++ (List.replicate 5 .i ++ (List.replicate 2 .b ++ (List.replicate 1 .i ++ (List.replicate 1 .b ++ (List.replicate 2 .i ++ (filterS ++ (List.replicate 1 .b ++ ([.e specS] ++ ([.e effectS] ++ (List.replicate 2 .i ++ (filterS ++ (List.replicate 4 .i ++ [])))))))))))))))

set_option maxRecDepth 100000 in
set_option maxHeartbeats 4000000 in
theorem ability_coder : Coder 103 abilityS := by
  intro C b o M w hpre
  have HM0 := Lib.hid (Mid.start hpre)
  clear hpre
  go_enter Try.func103, Try.ntmps103
  go_wp2_with (go_at_call 84; refine halt_here ?_)
  refine go_on ((HM0.out.leaf ints_coder (m := 1) (by decide) _ (World.grownBy_alloc _ _ _) _ (Nat.le_refl _) _ (heap_alloc_new _ _) rfl).mono ?_)
  rintro e w1 ⟨rfl, HM1⟩
  clear HM0
  go_wp2_with (go_at_call 114; refine halt_here ?_)
  refine go_on ((HM1.out.sub filter_coder _ rfl).mono ?_)
  rintro e w2 ⟨rfl, HM2⟩
  clear HM1
  go_wp2_with (go_at_call 107; refine halt_here ?_)
  refine go_on ((HM2.out.all allMod_coder _ rfl).mono ?_)
  rintro e w3 ⟨rfl, HM3⟩
  clear HM2
  go_wp2_with fail
  refine wp_region_plan [(0, none), (1, none), (2, none), (3, none), (4, none), (5, none), (6, none), (7, none), (8, none), (9, some (some false)), (10, some (some false))] (by kernel_rfl) (by kernel_rfl) ?_
  repeat (first | (refine plan_free (v := ?_) rfl rfl (fun _ => ?_) (fun K hK => ?_); rotate_left 1; (focus (go_simp <;> exact rfl)); go_simp; refine hK _ _ ?_; clear hK K) | (refine plan_held (v := ?_) rfl rfl ?_ (fun K hK => ?_); rotate_left 1; (focus (go_simp <;> exact rfl)); go_simp; refine hK _ _ ?_; clear hK K) | (refine plan_skip rfl rfl (fun K hK => ?_); go_simp; refine hK _ _ ?_; clear hK K))
  refine plan_eff rfl rfl (fun K hK => ?_)
  go_wp2_with fail
  repeat (first | (refine plan_free (v := ?_) rfl rfl (fun _ => ?_) (fun K hK => ?_); rotate_left 1; (focus (go_simp <;> exact rfl)); go_simp; refine hK _ _ ?_; clear hK K) | (refine plan_held (v := ?_) rfl rfl ?_ (fun K hK => ?_); rotate_left 1; (focus (go_simp <;> exact rfl)); go_simp; refine hK _ _ ?_; clear hK K) | (refine plan_skip rfl rfl (fun K hK => ?_); go_simp; refine hK _ _ ?_; clear hK K))
  refine plan_eff rfl rfl (fun K hK => ?_)
  go_wp2_with (go_at_call 84; refine halt_here ?_)
  refine go_on ((HM3.out.leaf ints_coder (m := 2) (by decide) _ (g_drew (World.grownBy_alloc _ _ _)) _ (Nat.le_refl _) _ (heap_alloc_new _ _) rfl).mono ?_)
  rintro e w4 ⟨rfl, HM4⟩
  clear HM3
  go_wp2_with fail
  repeat (first | (refine plan_free (v := ?_) rfl rfl (fun _ => ?_) (fun K hK => ?_); rotate_left 1; (focus (go_simp <;> exact rfl)); go_simp; refine hK _ _ ?_; clear hK K) | (refine plan_held (v := ?_) rfl rfl ?_ (fun K hK => ?_); rotate_left 1; (focus (go_simp <;> exact rfl)); go_simp; refine hK _ _ ?_; clear hK K) | (refine plan_skip rfl rfl (fun K hK => ?_); go_simp; refine hK _ _ ?_; clear hK K))
  refine plan_nil ?_
  go_wp2_with fail
  go_loopw [36] (fun i wr => ∃ k : Nat, i = .int .i64 k ∧ k ≤ 5 ∧ Hid (Mid C b M ((((([] ++ List.replicate 1 .i) ++ filterS) ++ [.e modS]) ++ List.replicate 2 .i) ++ List.replicate k .i) (List.replicate (5 - k) .i ++ (List.replicate 2 .b ++ (List.replicate 1 .i ++ (List.replicate 1 .b ++ (List.replicate 2 .i ++ (filterS ++ (List.replicate 1 .b ++ ([.e specS] ++ ([.e effectS] ++ (List.replicate 2 .i ++ (filterS ++ (List.replicate 4 .i ++ ([]))))))))))))) o w wr)) (fun i _ => 5 - (intOf i).toNat)
  case atStart => exact ⟨0, rfl, Nat.zero_le _, Lib.hid (by have := HM4.out; simpa using this)⟩
  case round =>
    clear HM4
    obtain ⟨k, rfl, hk, HMK⟩ := hrel
    by_cases hlt : k < 5
    · have HML := Lib.hid (show Mid C b M ((((([] ++ List.replicate 1 .i) ++ filterS) ++ [.e modS]) ++ List.replicate 2 .i) ++ List.replicate k .i) (List.replicate 1 .i ++ (List.replicate (5 - (k + 1)) .i ++ (List.replicate 2 .b ++ (List.replicate 1 .i ++ (List.replicate 1 .b ++ (List.replicate 2 .i ++ (filterS ++ (List.replicate 1 .b ++ ([.e specS] ++ ([.e effectS] ++ (List.replicate 2 .i ++ (filterS ++ (List.replicate 4 .i ++ ([])))))))))))))) o w wr by
        have h := HMK.out
        rw [show 5 - k = 1 + (5 - (k + 1)) by omega, ← List.replicate_append_replicate, List.append_assoc] at h
        exact h)
      go_wp2_with (go_at_call 84; refine halt_here ?_)
      refine go_on ((HML.out.leaf ints_coder (m := 1) (by decide) _ (World.grownBy_alloc _ _ _) _ (Nat.le_refl _) _ (heap_alloc_new _ _) (by simp [ptrs])).mono ?_)
      rintro e w2 ⟨rfl, HM3⟩
      have HM4 := Lib.hid (show Mid C b M ((((([] ++ List.replicate 1 .i) ++ filterS) ++ [.e modS]) ++ List.replicate 2 .i) ++ List.replicate (k + 1) .i) (List.replicate (5 - (k + 1)) .i ++ (List.replicate 2 .b ++ (List.replicate 1 .i ++ (List.replicate 1 .b ++ (List.replicate 2 .i ++ (filterS ++ (List.replicate 1 .b ++ ([.e specS] ++ ([.e effectS] ++ (List.replicate 2 .i ++ (filterS ++ (List.replicate 4 .i ++ ([]))))))))))))) o w w2 by have h := HM3.out; rw [List.append_assoc, List.replicate_append_replicate] at h; exact h)
      clear HMK HML HM3
      go_wp2_with fail
      go_roundw
      case rel => exact ⟨k + 1, by go_num, by omega, HM4⟩
      case measure => simp [intOf]; omega
    · obtain rfl : k = 5 := by omega
      have HM5 := Lib.hid (show Mid C b M ((((([] ++ List.replicate 1 .i) ++ filterS) ++ [.e modS]) ++ List.replicate 2 .i) ++ List.replicate 5 .i) (List.replicate 2 .b ++ (List.replicate 1 .i ++ (List.replicate 1 .b ++ (List.replicate 2 .i ++ (filterS ++ (List.replicate 1 .b ++ ([.e specS] ++ ([.e effectS] ++ (List.replicate 2 .i ++ (filterS ++ (List.replicate 4 .i ++ ([])))))))))))) o w wr from HMK.out)
      clear HMK hlt
      go_wp2_with fail
      refine wp_region_plan [(0, none), (1, none), (2, none), (3, none), (4, none), (5, none), (6, none), (7, some (some false)), (8, some (some false))] (by kernel_rfl) (by kernel_rfl) ?_
      repeat (first | (refine plan_free (v := ?_) rfl rfl (fun _ => ?_) (fun K hK => ?_); rotate_left 1; (focus (go_simp <;> exact rfl)); go_simp; refine hK _ _ ?_; clear hK K) | (refine plan_held (v := ?_) rfl rfl ?_ (fun K hK => ?_); rotate_left 1; (focus (go_simp <;> exact rfl)); go_simp; refine hK _ _ ?_; clear hK K) | (refine plan_skip rfl rfl (fun K hK => ?_); go_simp; refine hK _ _ ?_; clear hK K))
      refine plan_eff rfl rfl (fun K hK => ?_)
      go_wp2_with fail
      repeat (first | (refine plan_free (v := ?_) rfl rfl (fun _ => ?_) (fun K hK => ?_); rotate_left 1; (focus (go_simp <;> exact rfl)); go_simp; refine hK _ _ ?_; clear hK K) | (refine plan_held (v := ?_) rfl rfl ?_ (fun K hK => ?_); rotate_left 1; (focus (go_simp <;> exact rfl)); go_simp; refine hK _ _ ?_; clear hK K) | (refine plan_skip rfl rfl (fun K hK => ?_); go_simp; refine hK _ _ ?_; clear hK K))
      refine plan_eff rfl rfl (fun K hK => ?_)
      go_wp2_with (go_at_call 85; refine halt_here ?_)
      refine go_on ((HM5.out.leaf bools_coder (m := 2) (by decide) _ (g_drew (World.grownBy_alloc _ _ _)) _ (Nat.le_refl _) _ (heap_alloc_new _ _) rfl).mono ?_)
      rintro e w6 ⟨rfl, HM6⟩
      clear HM5
      go_wp2_with fail
      repeat (first | (refine plan_free (v := ?_) rfl rfl (fun _ => ?_) (fun K hK => ?_); rotate_left 1; (focus (go_simp <;> exact rfl)); go_simp; refine hK _ _ ?_; clear hK K) | (refine plan_held (v := ?_) rfl rfl ?_ (fun K hK => ?_); rotate_left 1; (focus (go_simp <;> exact rfl)); go_simp; refine hK _ _ ?_; clear hK K) | (refine plan_skip rfl rfl (fun K hK => ?_); go_simp; refine hK _ _ ?_; clear hK K))
      refine plan_nil ?_
      go_wp2_with (go_at_call 84; refine halt_here ?_)
      refine go_on ((HM6.out.leaf ints_coder (m := 1) (by decide) _ (World.grownBy_alloc _ _ _) _ (Nat.le_refl _) _ (heap_alloc_new _ _) rfl).mono ?_)
      rintro e w7 ⟨rfl, HM7⟩
      clear HM6
      go_wp2_with (go_at_call 85; refine halt_here ?_)
      refine go_on ((HM7.out.leaf bools_coder (m := 1) (by decide) _ (World.grownBy_alloc _ _ _) _ (Nat.le_refl _) _ (heap_alloc_new _ _) rfl).mono ?_)
      rintro e w8 ⟨rfl, HM8⟩
      clear HM7
      go_wp2_with fail
      refine wp_region_plan [(0, none), (1, none), (2, none), (3, none), (4, none), (5, none), (6, none), (7, none), (8, none), (9, some (some false)), (10, some (some false))] (by kernel_rfl) (by kernel_rfl) ?_
      repeat (first | (refine plan_free (v := ?_) rfl rfl (fun _ => ?_) (fun K hK => ?_); rotate_left 1; (focus (go_simp <;> exact rfl)); go_simp; refine hK _ _ ?_; clear hK K) | (refine plan_held (v := ?_) rfl rfl ?_ (fun K hK => ?_); rotate_left 1; (focus (go_simp <;> exact rfl)); go_simp; refine hK _ _ ?_; clear hK K) | (refine plan_skip rfl rfl (fun K hK => ?_); go_simp; refine hK _ _ ?_; clear hK K))
      refine plan_eff rfl rfl (fun K hK => ?_)
      go_wp2_with fail
      repeat (first | (refine plan_free (v := ?_) rfl rfl (fun _ => ?_) (fun K hK => ?_); rotate_left 1; (focus (go_simp <;> exact rfl)); go_simp; refine hK _ _ ?_; clear hK K) | (refine plan_held (v := ?_) rfl rfl ?_ (fun K hK => ?_); rotate_left 1; (focus (go_simp <;> exact rfl)); go_simp; refine hK _ _ ?_; clear hK K) | (refine plan_skip rfl rfl (fun K hK => ?_); go_simp; refine hK _ _ ?_; clear hK K))
      refine plan_eff rfl rfl (fun K hK => ?_)
      go_wp2_with (go_at_call 84; refine halt_here ?_)
      refine go_on ((HM8.out.leaf ints_coder (m := 2) (by decide) _ (g_drew (World.grownBy_alloc _ _ _)) _ (Nat.le_refl _) _ (heap_alloc_new _ _) rfl).mono ?_)
      rintro e w9 ⟨rfl, HM9⟩
      clear HM8
      go_wp2_with fail
      repeat (first | (refine plan_free (v := ?_) rfl rfl (fun _ => ?_) (fun K hK => ?_); rotate_left 1; (focus (go_simp <;> exact rfl)); go_simp; refine hK _ _ ?_; clear hK K) | (refine plan_held (v := ?_) rfl rfl ?_ (fun K hK => ?_); rotate_left 1; (focus (go_simp <;> exact rfl)); go_simp; refine hK _ _ ?_; clear hK K) | (refine plan_skip rfl rfl (fun K hK => ?_); go_simp; refine hK _ _ ?_; clear hK K))
      refine plan_nil ?_
      go_wp2_with (go_at_call 114; refine halt_here ?_)
      refine go_on ((HM9.out.sub filter_coder _ rfl).mono ?_)
      rintro e w10 ⟨rfl, HM10⟩
      clear HM9
      go_wp2_with (go_at_call 85; refine halt_here ?_)
      refine go_on ((HM10.out.leaf bools_coder (m := 1) (by decide) _ (World.grownBy_alloc _ _ _) _ (Nat.le_refl _) _ (heap_alloc_new _ _) rfl).mono ?_)
      rintro e w11 ⟨rfl, HM11⟩
      clear HM10
      go_wp2_with (go_at_call 115; refine halt_here ?_)
      refine go_on ((HM11.out.all allSpec_coder _ rfl).mono ?_)
      rintro e w12 ⟨rfl, HM12⟩
      clear HM11
      go_wp2_with (go_at_call 117; refine halt_here ?_)
      refine go_on ((HM12.out.all allEffect_coder _ rfl).mono ?_)
      rintro e w13 ⟨rfl, HM13⟩
      clear HM12
      go_wp2_with fail
      refine wp_region_plan [(0, none), (1, none), (2, none), (3, none), (4, none), (5, none), (6, none), (7, none), (8, none), (9, some (some false)), (10, some (some false))] (by kernel_rfl) (by kernel_rfl) ?_
      repeat (first | (refine plan_free (v := ?_) rfl rfl (fun _ => ?_) (fun K hK => ?_); rotate_left 1; (focus (go_simp <;> exact rfl)); go_simp; refine hK _ _ ?_; clear hK K) | (refine plan_held (v := ?_) rfl rfl ?_ (fun K hK => ?_); rotate_left 1; (focus (go_simp <;> exact rfl)); go_simp; refine hK _ _ ?_; clear hK K) | (refine plan_skip rfl rfl (fun K hK => ?_); go_simp; refine hK _ _ ?_; clear hK K))
      refine plan_eff rfl rfl (fun K hK => ?_)
      go_wp2_with fail
      repeat (first | (refine plan_free (v := ?_) rfl rfl (fun _ => ?_) (fun K hK => ?_); rotate_left 1; (focus (go_simp <;> exact rfl)); go_simp; refine hK _ _ ?_; clear hK K) | (refine plan_held (v := ?_) rfl rfl ?_ (fun K hK => ?_); rotate_left 1; (focus (go_simp <;> exact rfl)); go_simp; refine hK _ _ ?_; clear hK K) | (refine plan_skip rfl rfl (fun K hK => ?_); go_simp; refine hK _ _ ?_; clear hK K))
      refine plan_eff rfl rfl (fun K hK => ?_)
      go_wp2_with (go_at_call 84; refine halt_here ?_)
      refine go_on ((HM13.out.leaf ints_coder (m := 2) (by decide) _ (g_drew (World.grownBy_alloc _ _ _)) _ (Nat.le_refl _) _ (heap_alloc_new _ _) rfl).mono ?_)
      rintro e w14 ⟨rfl, HM14⟩
      clear HM13
      go_wp2_with fail
      repeat (first | (refine plan_free (v := ?_) rfl rfl (fun _ => ?_) (fun K hK => ?_); rotate_left 1; (focus (go_simp <;> exact rfl)); go_simp; refine hK _ _ ?_; clear hK K) | (refine plan_held (v := ?_) rfl rfl ?_ (fun K hK => ?_); rotate_left 1; (focus (go_simp <;> exact rfl)); go_simp; refine hK _ _ ?_; clear hK K) | (refine plan_skip rfl rfl (fun K hK => ?_); go_simp; refine hK _ _ ?_; clear hK K))
      refine plan_nil ?_
      go_wp2_with (go_at_call 114; refine halt_here ?_)
      refine go_on ((HM14.out.sub filter_coder _ rfl).mono ?_)
      rintro e w15 ⟨rfl, HM15⟩
      clear HM14
      go_wp2_with fail
      refine wp_region_plan [(0, none), (1, none), (2, none), (3, none), (4, none), (5, none), (6, none), (7, none), (8, none), (9, none), (10, none), (11, none), (12, none), (13, none), (14, none), (15, none), (16, none), (17, some (some false)), (18, some (some false))] (by kernel_rfl) (by kernel_rfl) ?_
      repeat (first | (refine plan_free (v := ?_) rfl rfl (fun _ => ?_) (fun K hK => ?_); rotate_left 1; (focus (go_simp <;> exact rfl)); go_simp; refine hK _ _ ?_; clear hK K) | (refine plan_held (v := ?_) rfl rfl ?_ (fun K hK => ?_); rotate_left 1; (focus (go_simp <;> exact rfl)); go_simp; refine hK _ _ ?_; clear hK K) | (refine plan_skip rfl rfl (fun K hK => ?_); go_simp; refine hK _ _ ?_; clear hK K))
      refine plan_eff rfl rfl (fun K hK => ?_)
      go_wp2_with fail
      repeat (first | (refine plan_free (v := ?_) rfl rfl (fun _ => ?_) (fun K hK => ?_); rotate_left 1; (focus (go_simp <;> exact rfl)); go_simp; refine hK _ _ ?_; clear hK K) | (refine plan_held (v := ?_) rfl rfl ?_ (fun K hK => ?_); rotate_left 1; (focus (go_simp <;> exact rfl)); go_simp; refine hK _ _ ?_; clear hK K) | (refine plan_skip rfl rfl (fun K hK => ?_); go_simp; refine hK _ _ ?_; clear hK K))
      refine plan_eff rfl rfl (fun K hK => ?_)
      go_wp2_with (go_at_call 84; refine halt_here ?_)
      refine go_on ((HM15.out.leaf ints_coder (m := 4) (by decide) _ (g_drew (World.grownBy_alloc _ _ _)) _ (Nat.le_refl _) _ (heap_alloc_new _ _) rfl).mono ?_)
      rintro e w16 ⟨rfl, HM16⟩
      clear HM15
      go_wp2_with fail
      repeat (first | (refine plan_free (v := ?_) rfl rfl (fun _ => ?_) (fun K hK => ?_); rotate_left 1; (focus (go_simp <;> exact rfl)); go_simp; refine hK _ _ ?_; clear hK K) | (refine plan_held (v := ?_) rfl rfl ?_ (fun K hK => ?_); rotate_left 1; (focus (go_simp <;> exact rfl)); go_simp; refine hK _ _ ?_; clear hK K) | (refine plan_skip rfl rfl (fun K hK => ?_); go_simp; refine hK _ _ ?_; clear hK K))
      refine plan_nil ?_
      go_wp2_with fail
      refine bodyPost_end (results_none rfl _ _ _) rfl ?_
      exact ⟨rfl, HM16.out.last rfl rfl⟩

/-- An item of the stack. -/
abbrev itemS : List Fld := List.replicate 5 .i ++ (List.replicate 1 .b ++ (abilityS ++ ([.e targetS] ++ (eventS ++ []))))

set_option maxRecDepth 100000 in
set_option maxHeartbeats 4000000 in
theorem item_coder : Coder 79 itemS := by
  intro C b o M w hpre
  have HM0 := Lib.hid (Mid.start hpre)
  clear hpre
  go_enter Try.func79, Try.ntmps79
  go_wp2_with fail
  refine wp_region_plan [(0, none), (1, none), (2, none), (3, none), (4, none), (5, none), (6, none), (7, none), (8, none), (9, none), (10, none), (11, none), (12, none), (13, none), (14, none), (15, none), (16, some (some false)), (17, some (some false))] (by kernel_rfl) (by kernel_rfl) ?_
  repeat (first | (refine plan_free (v := ?_) rfl rfl (fun _ => ?_) (fun K hK => ?_); rotate_left 1; (focus (go_simp <;> exact rfl)); go_simp; refine hK _ _ ?_; clear hK K) | (refine plan_held (v := ?_) rfl rfl ?_ (fun K hK => ?_); rotate_left 1; (focus (go_simp <;> exact rfl)); go_simp; refine hK _ _ ?_; clear hK K) | (refine plan_skip rfl rfl (fun K hK => ?_); go_simp; refine hK _ _ ?_; clear hK K))
  refine plan_eff rfl rfl (fun K hK => ?_)
  go_wp2_with fail
  repeat (first | (refine plan_free (v := ?_) rfl rfl (fun _ => ?_) (fun K hK => ?_); rotate_left 1; (focus (go_simp <;> exact rfl)); go_simp; refine hK _ _ ?_; clear hK K) | (refine plan_held (v := ?_) rfl rfl ?_ (fun K hK => ?_); rotate_left 1; (focus (go_simp <;> exact rfl)); go_simp; refine hK _ _ ?_; clear hK K) | (refine plan_skip rfl rfl (fun K hK => ?_); go_simp; refine hK _ _ ?_; clear hK K))
  refine plan_eff rfl rfl (fun K hK => ?_)
  go_wp2_with (go_at_call 84; refine halt_here ?_)
  refine go_on ((HM0.out.leaf ints_coder (m := 5) (by decide) _ (g_drew (World.grownBy_alloc _ _ _)) _ (Nat.le_refl _) _ (heap_alloc_new _ _) rfl).mono ?_)
  rintro e w1 ⟨rfl, HM1⟩
  clear HM0
  go_wp2_with fail
  repeat (first | (refine plan_free (v := ?_) rfl rfl (fun _ => ?_) (fun K hK => ?_); rotate_left 1; (focus (go_simp <;> exact rfl)); go_simp; refine hK _ _ ?_; clear hK K) | (refine plan_held (v := ?_) rfl rfl ?_ (fun K hK => ?_); rotate_left 1; (focus (go_simp <;> exact rfl)); go_simp; refine hK _ _ ?_; clear hK K) | (refine plan_skip rfl rfl (fun K hK => ?_); go_simp; refine hK _ _ ?_; clear hK K))
  refine plan_nil ?_
  go_wp2_with (go_at_call 85; refine halt_here ?_)
  refine go_on ((HM1.out.leaf bools_coder (m := 1) (by decide) _ (World.grownBy_alloc _ _ _) _ (Nat.le_refl _) _ (heap_alloc_new _ _) rfl).mono ?_)
  rintro e w2 ⟨rfl, HM2⟩
  clear HM1
  go_wp2_with (go_at_call 103; refine halt_here ?_)
  refine go_on ((HM2.out.sub ability_coder _ rfl).mono ?_)
  rintro e w3 ⟨rfl, HM3⟩
  clear HM2
  go_wp2_with (go_at_call 104; refine halt_here ?_)
  refine go_on ((HM3.out.all allTarget_coder _ rfl).mono ?_)
  rintro e w4 ⟨rfl, HM4⟩
  clear HM3
  go_wp2_with (go_at_call 106; refine halt_here ?_)
  refine go_on ((HM4.out.sub event_coder _ rfl).mono ?_)
  rintro e w5 ⟨rfl, HM5⟩
  clear HM4
  go_wp2_with fail
  refine bodyPost_end (results_none rfl _ _ _) rfl ?_
  exact ⟨rfl, HM5.out.last rfl rfl⟩

/-- A waiting ability. -/
abbrev waitingS : List Fld := List.replicate 2 .i ++ (abilityS ++ (eventS ++ []))

set_option maxRecDepth 100000 in
set_option maxHeartbeats 4000000 in
theorem waiting_coder : Coder 81 waitingS := by
  intro C b o M w hpre
  have HM0 := Lib.hid (Mid.start hpre)
  clear hpre
  go_enter Try.func81, Try.ntmps81
  go_wp2_with fail
  refine wp_region_plan [(0, none), (1, none), (2, none), (3, none), (4, none), (5, none), (6, none), (7, some (some false)), (8, some (some false))] (by kernel_rfl) (by kernel_rfl) ?_
  repeat (first | (refine plan_free (v := ?_) rfl rfl (fun _ => ?_) (fun K hK => ?_); rotate_left 1; (focus (go_simp <;> exact rfl)); go_simp; refine hK _ _ ?_; clear hK K) | (refine plan_held (v := ?_) rfl rfl ?_ (fun K hK => ?_); rotate_left 1; (focus (go_simp <;> exact rfl)); go_simp; refine hK _ _ ?_; clear hK K) | (refine plan_skip rfl rfl (fun K hK => ?_); go_simp; refine hK _ _ ?_; clear hK K))
  refine plan_eff rfl rfl (fun K hK => ?_)
  go_wp2_with fail
  repeat (first | (refine plan_free (v := ?_) rfl rfl (fun _ => ?_) (fun K hK => ?_); rotate_left 1; (focus (go_simp <;> exact rfl)); go_simp; refine hK _ _ ?_; clear hK K) | (refine plan_held (v := ?_) rfl rfl ?_ (fun K hK => ?_); rotate_left 1; (focus (go_simp <;> exact rfl)); go_simp; refine hK _ _ ?_; clear hK K) | (refine plan_skip rfl rfl (fun K hK => ?_); go_simp; refine hK _ _ ?_; clear hK K))
  refine plan_eff rfl rfl (fun K hK => ?_)
  go_wp2_with (go_at_call 84; refine halt_here ?_)
  refine go_on ((HM0.out.leaf ints_coder (m := 2) (by decide) _ (g_drew (World.grownBy_alloc _ _ _)) _ (Nat.le_refl _) _ (heap_alloc_new _ _) rfl).mono ?_)
  rintro e w1 ⟨rfl, HM1⟩
  clear HM0
  go_wp2_with fail
  repeat (first | (refine plan_free (v := ?_) rfl rfl (fun _ => ?_) (fun K hK => ?_); rotate_left 1; (focus (go_simp <;> exact rfl)); go_simp; refine hK _ _ ?_; clear hK K) | (refine plan_held (v := ?_) rfl rfl ?_ (fun K hK => ?_); rotate_left 1; (focus (go_simp <;> exact rfl)); go_simp; refine hK _ _ ?_; clear hK K) | (refine plan_skip rfl rfl (fun K hK => ?_); go_simp; refine hK _ _ ?_; clear hK K))
  refine plan_nil ?_
  go_wp2_with (go_at_call 103; refine halt_here ?_)
  refine go_on ((HM1.out.sub ability_coder _ rfl).mono ?_)
  rintro e w2 ⟨rfl, HM2⟩
  clear HM1
  go_wp2_with (go_at_call 106; refine halt_here ?_)
  refine go_on ((HM2.out.sub event_coder _ rfl).mono ?_)
  rintro e w3 ⟨rfl, HM3⟩
  clear HM2
  go_wp2_with fail
  refine bodyPost_end (results_none rfl _ _ _) rfl ?_
  exact ⟨rfl, HM3.out.last rfl rfl⟩
end Go.Proofs.Ytbcpdjhpceimlaa
