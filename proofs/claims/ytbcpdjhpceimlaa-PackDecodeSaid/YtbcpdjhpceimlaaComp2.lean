/-
  Effects and continuous effects of layer 27's coder.
-/
import Derived.Test.YtbcpdjhpceimlaaAllMod
namespace Go.Proofs.Ytbcpdjhpceimlaa
open Go.ChangeShapes Go.WideShapes Go.ChangeAt Go.RowKit
set_option linter.unusedVariables false

/-- An effect. -/
abbrev effectS : List Fld := List.replicate 3 .i ++ (filterS ++ (List.replicate 3 .i ++ (filterS ++ (List.replicate 2 .i ++ ([.t] ++ (filterS ++ (List.replicate 6 .i ++ ([.e modS] ++ []))))))))

set_option maxRecDepth 100000 in
set_option maxHeartbeats 4000000 in
theorem effect_coder : Coder 118 effectS := by
  intro C b o M w hpre
  have HM0 := Lib.hid (Mid.start hpre)
  clear hpre
  go_enter Try.func118, Try.ntmps118
  go_wp2_with fail
  refine wp_region_plan [(0, none), (1, none), (2, none), (3, none), (4, none), (5, none), (6, none), (7, none), (8, none), (9, none), (10, none), (11, none), (12, some (some false)), (13, some (some false))] (by kernel_rfl) (by kernel_rfl) ?_
  repeat (first | (refine plan_free (v := ?_) rfl rfl (fun _ => ?_) (fun K hK => ?_); rotate_left 1; (focus (go_simp <;> exact rfl)); go_simp; refine hK _ _ ?_; clear hK K) | (refine plan_held (v := ?_) rfl rfl ?_ (fun K hK => ?_); rotate_left 1; (focus (go_simp <;> exact rfl)); go_simp; refine hK _ _ ?_; clear hK K) | (refine plan_skip rfl rfl (fun K hK => ?_); go_simp; refine hK _ _ ?_; clear hK K))
  refine plan_eff rfl rfl (fun K hK => ?_)
  go_wp2_with fail
  repeat (first | (refine plan_free (v := ?_) rfl rfl (fun _ => ?_) (fun K hK => ?_); rotate_left 1; (focus (go_simp <;> exact rfl)); go_simp; refine hK _ _ ?_; clear hK K) | (refine plan_held (v := ?_) rfl rfl ?_ (fun K hK => ?_); rotate_left 1; (focus (go_simp <;> exact rfl)); go_simp; refine hK _ _ ?_; clear hK K) | (refine plan_skip rfl rfl (fun K hK => ?_); go_simp; refine hK _ _ ?_; clear hK K))
  refine plan_eff rfl rfl (fun K hK => ?_)
  go_wp2_with (go_at_call 84; refine halt_here ?_)
  refine go_on ((HM0.out.leaf ints_coder (m := 3) (by decide) _ (g_drew (World.grownBy_alloc _ _ _)) _ (Nat.le_refl _) _ (heap_alloc_new _ _) rfl).mono ?_)
  rintro e w1 ⟨rfl, HM1⟩
  clear HM0
  go_wp2_with fail
  repeat (first | (refine plan_free (v := ?_) rfl rfl (fun _ => ?_) (fun K hK => ?_); rotate_left 1; (focus (go_simp <;> exact rfl)); go_simp; refine hK _ _ ?_; clear hK K) | (refine plan_held (v := ?_) rfl rfl ?_ (fun K hK => ?_); rotate_left 1; (focus (go_simp <;> exact rfl)); go_simp; refine hK _ _ ?_; clear hK K) | (refine plan_skip rfl rfl (fun K hK => ?_); go_simp; refine hK _ _ ?_; clear hK K))
  refine plan_nil ?_
  go_wp2_with (go_at_call 114; refine halt_here ?_)
  refine go_on ((HM1.out.sub filter_coder _ rfl).mono ?_)
  rintro e w2 ⟨rfl, HM2⟩
  clear HM1
  go_wp2_with fail
  refine wp_region_plan [(0, none), (1, none), (2, none), (3, none), (4, none), (5, none), (6, none), (7, none), (8, none), (9, none), (10, none), (11, none), (12, none), (13, some (some false)), (14, some (some false))] (by kernel_rfl) (by kernel_rfl) ?_
  repeat (first | (refine plan_free (v := ?_) rfl rfl (fun _ => ?_) (fun K hK => ?_); rotate_left 1; (focus (go_simp <;> exact rfl)); go_simp; refine hK _ _ ?_; clear hK K) | (refine plan_held (v := ?_) rfl rfl ?_ (fun K hK => ?_); rotate_left 1; (focus (go_simp <;> exact rfl)); go_simp; refine hK _ _ ?_; clear hK K) | (refine plan_skip rfl rfl (fun K hK => ?_); go_simp; refine hK _ _ ?_; clear hK K))
  refine plan_eff rfl rfl (fun K hK => ?_)
  go_wp2_with fail
  repeat (first | (refine plan_free (v := ?_) rfl rfl (fun _ => ?_) (fun K hK => ?_); rotate_left 1; (focus (go_simp <;> exact rfl)); go_simp; refine hK _ _ ?_; clear hK K) | (refine plan_held (v := ?_) rfl rfl ?_ (fun K hK => ?_); rotate_left 1; (focus (go_simp <;> exact rfl)); go_simp; refine hK _ _ ?_; clear hK K) | (refine plan_skip rfl rfl (fun K hK => ?_); go_simp; refine hK _ _ ?_; clear hK K))
  refine plan_eff rfl rfl (fun K hK => ?_)
  go_wp2_with (go_at_call 84; refine halt_here ?_)
  refine go_on ((HM2.out.leaf ints_coder (m := 3) (by decide) _ (g_drew (World.grownBy_alloc _ _ _)) _ (Nat.le_refl _) _ (heap_alloc_new _ _) rfl).mono ?_)
  rintro e w3 ⟨rfl, HM3⟩
  clear HM2
  go_wp2_with fail
  repeat (first | (refine plan_free (v := ?_) rfl rfl (fun _ => ?_) (fun K hK => ?_); rotate_left 1; (focus (go_simp <;> exact rfl)); go_simp; refine hK _ _ ?_; clear hK K) | (refine plan_held (v := ?_) rfl rfl ?_ (fun K hK => ?_); rotate_left 1; (focus (go_simp <;> exact rfl)); go_simp; refine hK _ _ ?_; clear hK K) | (refine plan_skip rfl rfl (fun K hK => ?_); go_simp; refine hK _ _ ?_; clear hK K))
  refine plan_nil ?_
  go_wp2_with (go_at_call 114; refine halt_here ?_)
  refine go_on ((HM3.out.sub filter_coder _ rfl).mono ?_)
  rintro e w4 ⟨rfl, HM4⟩
  clear HM3
  go_wp2_with fail
  refine wp_region_plan [(0, none), (1, none), (2, none), (3, none), (4, none), (5, none), (6, none), (7, some (some false)), (8, some (some false))] (by kernel_rfl) (by kernel_rfl) ?_
  repeat (first | (refine plan_free (v := ?_) rfl rfl (fun _ => ?_) (fun K hK => ?_); rotate_left 1; (focus (go_simp <;> exact rfl)); go_simp; refine hK _ _ ?_; clear hK K) | (refine plan_held (v := ?_) rfl rfl ?_ (fun K hK => ?_); rotate_left 1; (focus (go_simp <;> exact rfl)); go_simp; refine hK _ _ ?_; clear hK K) | (refine plan_skip rfl rfl (fun K hK => ?_); go_simp; refine hK _ _ ?_; clear hK K))
  refine plan_eff rfl rfl (fun K hK => ?_)
  go_wp2_with fail
  repeat (first | (refine plan_free (v := ?_) rfl rfl (fun _ => ?_) (fun K hK => ?_); rotate_left 1; (focus (go_simp <;> exact rfl)); go_simp; refine hK _ _ ?_; clear hK K) | (refine plan_held (v := ?_) rfl rfl ?_ (fun K hK => ?_); rotate_left 1; (focus (go_simp <;> exact rfl)); go_simp; refine hK _ _ ?_; clear hK K) | (refine plan_skip rfl rfl (fun K hK => ?_); go_simp; refine hK _ _ ?_; clear hK K))
  refine plan_eff rfl rfl (fun K hK => ?_)
  go_wp2_with (go_at_call 84; refine halt_here ?_)
  refine go_on ((HM4.out.leaf ints_coder (m := 2) (by decide) _ (g_drew (World.grownBy_alloc _ _ _)) _ (Nat.le_refl _) _ (heap_alloc_new _ _) rfl).mono ?_)
  rintro e w5 ⟨rfl, HM5⟩
  clear HM4
  go_wp2_with fail
  repeat (first | (refine plan_free (v := ?_) rfl rfl (fun _ => ?_) (fun K hK => ?_); rotate_left 1; (focus (go_simp <;> exact rfl)); go_simp; refine hK _ _ ?_; clear hK K) | (refine plan_held (v := ?_) rfl rfl ?_ (fun K hK => ?_); rotate_left 1; (focus (go_simp <;> exact rfl)); go_simp; refine hK _ _ ?_; clear hK K) | (refine plan_skip rfl rfl (fun K hK => ?_); go_simp; refine hK _ _ ?_; clear hK K))
  refine plan_nil ?_
  go_wp2_with (go_at_call 119; refine halt_here ?_)
  refine go_on ((HM5.out.sub text_coder _ rfl).mono ?_)
  rintro e w6 ⟨rfl, HM6⟩
  clear HM5
  go_wp2_with (go_at_call 114; refine halt_here ?_)
  refine go_on ((HM6.out.sub filter_coder _ rfl).mono ?_)
  rintro e w7 ⟨rfl, HM7⟩
  clear HM6
  go_wp2_with (go_at_call 101; refine halt_here ?_)
  refine go_on ((HM7.out.sub pool_coder _ rfl).mono ?_)
  rintro e w8 ⟨rfl, HM8⟩
  clear HM7
  go_wp2_with (go_at_call 107; refine halt_here ?_)
  refine go_on ((HM8.out.all allMod_coder _ rfl).mono ?_)
  rintro e w9 ⟨rfl, HM9⟩
  clear HM8
  go_wp2_with fail
  refine bodyPost_end (results_none rfl _ _ _) rfl ?_
  exact ⟨rfl, HM9.out.last rfl rfl⟩

/-- A continuous effect. -/
abbrev contS : List Fld := List.replicate 4 .i ++ (List.replicate 1 .l ++ ([.e modS] ++ []))

set_option maxRecDepth 100000 in
set_option maxHeartbeats 4000000 in
theorem cont_coder : Coder 83 contS := by
  intro C b o M w hpre
  have HM0 := Lib.hid (Mid.start hpre)
  clear hpre
  go_enter Try.func83, Try.ntmps83
  go_wp2_with fail
  refine wp_region_plan [(0, none), (1, none), (2, none), (3, none), (4, none), (5, none), (6, none), (7, none), (8, none), (9, none), (10, none), (11, none), (12, none), (13, some (some false)), (14, some (some false))] (by kernel_rfl) (by kernel_rfl) ?_
  repeat (first | (refine plan_free (v := ?_) rfl rfl (fun _ => ?_) (fun K hK => ?_); rotate_left 1; (focus (go_simp <;> exact rfl)); go_simp; refine hK _ _ ?_; clear hK K) | (refine plan_held (v := ?_) rfl rfl ?_ (fun K hK => ?_); rotate_left 1; (focus (go_simp <;> exact rfl)); go_simp; refine hK _ _ ?_; clear hK K) | (refine plan_skip rfl rfl (fun K hK => ?_); go_simp; refine hK _ _ ?_; clear hK K))
  refine plan_eff rfl rfl (fun K hK => ?_)
  go_wp2_with fail
  repeat (first | (refine plan_free (v := ?_) rfl rfl (fun _ => ?_) (fun K hK => ?_); rotate_left 1; (focus (go_simp <;> exact rfl)); go_simp; refine hK _ _ ?_; clear hK K) | (refine plan_held (v := ?_) rfl rfl ?_ (fun K hK => ?_); rotate_left 1; (focus (go_simp <;> exact rfl)); go_simp; refine hK _ _ ?_; clear hK K) | (refine plan_skip rfl rfl (fun K hK => ?_); go_simp; refine hK _ _ ?_; clear hK K))
  refine plan_eff rfl rfl (fun K hK => ?_)
  go_wp2_with (go_at_call 84; refine halt_here ?_)
  refine go_on ((HM0.out.leaf ints_coder (m := 4) (by decide) _ (g_drew (World.grownBy_alloc _ _ _)) _ (Nat.le_refl _) _ (heap_alloc_new _ _) rfl).mono ?_)
  rintro e w1 ⟨rfl, HM1⟩
  clear HM0
  go_wp2_with fail
  repeat (first | (refine plan_free (v := ?_) rfl rfl (fun _ => ?_) (fun K hK => ?_); rotate_left 1; (focus (go_simp <;> exact rfl)); go_simp; refine hK _ _ ?_; clear hK K) | (refine plan_held (v := ?_) rfl rfl ?_ (fun K hK => ?_); rotate_left 1; (focus (go_simp <;> exact rfl)); go_simp; refine hK _ _ ?_; clear hK K) | (refine plan_skip rfl rfl (fun K hK => ?_); go_simp; refine hK _ _ ?_; clear hK K))
  refine plan_nil ?_
  go_wp2_with (go_at_call 77; refine halt_here ?_)
  refine go_on ((HM1.out.leaf lists_coder (m := 1) (by decide) _ (World.grownBy_alloc _ _ _) _ (Nat.le_refl _) _ (heap_alloc_new _ _) rfl).mono ?_)
  rintro e w2 ⟨rfl, HM2⟩
  clear HM1
  go_wp2_with (go_at_call 107; refine halt_here ?_)
  refine go_on ((HM2.out.all allMod_coder _ rfl).mono ?_)
  rintro e w3 ⟨rfl, HM3⟩
  clear HM2
  go_wp2_with fail
  refine bodyPost_end (results_none rfl _ _ _) rfl ?_
  exact ⟨rfl, HM3.out.last rfl rfl⟩
end Go.Proofs.Ytbcpdjhpceimlaa
