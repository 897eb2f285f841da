/-
  Whatever the seed and the list: dice.Shuffle keeps the elements of a list of at most 200, each as often, and leaves the argument alone even where its result is written, and the fixed examples hold; no condition.
-/
import Derived.Test.YtdoihdkiaaagaaaRows
import Derived.Test.YtdoihdkiaaagaaaAlive
import Derived.WalkKit
import Derived.ProofKit
import Derived.OpenShut
import Derived.ShutString
import Derived.ChangeOld
import Derived.Below
namespace Go.Proofs.Ytdoihdkiaaagaaa.diceShuffles
open Go.ChangeShapes Go.WideShapes Go.ChangeAt Go.RowKit
open Go.ChangeMaps (open_string shut_string)
set_option linter.unusedVariables false

theorem own_knob : ownKnob Try.prog.godebug = none := by kernel_rfl
theorem laidOut : laidOutB Try.prog = true := by kernel_rfl

/-- WHAT THE WALK IS TOLD OF A SLICE OF INTEGERS THAT CAME IN: it is nil; or it leads to a row of 'cap' cells, the numbers 'zs' (the first 'len' are its elements, the rest its spare room), each fitting its kind. -/
def IsRow (k : IntKind) (w : World) (a : Option Addr) (len cap : Nat) (zs : List Int) : Prop :=
  (a = none ∧ len = 0 ∧ cap = 0 ∧ zs = []) ∨
  ∃ x, a = some x ∧ len ≤ cap ∧ cap ≤ maxLen ∧ zs.length = cap ∧ (∀ i, i < zs.length → w.cell? (x.add i) = some (.int k (zs.getD i 0))) ∧ ∀ n ∈ zs, (Lit.int k n).wf = true

/-! ### the walk -/
set_option maxRecDepth 100000 in
set_option maxHeartbeats 2000000 in
theorem walk (a0 : Int) (a1 : Option Addr) (len1 cap1 : Nat) (z1 : List Int) (w : World) (w0 : (Lit.int .u64 a0).wf = true) (w1 : IsRow .i64 w a1 len1 cap1 z1) :
    Calls Try.prog 6 #[.int .u64 a0, .slice a1 len1 cap1] w fun e w' => e = .returned (.bool true) ∧ Below w.heap.size w w' := by
  obtain ⟨hrd, hnil, hzl⟩ := isRow_cells w1
  by_cases hlen : 200 < len1
  · have hd : decide ((200 : Int) < (len1 : Int)) = true := by simp; omega
    go_enter Try.func6, Try.ntmps6
    go_wp2_with (first | (go_at_call 10; refine (alive_any _).mono ?_; rintro e w2 ⟨rfl, hb⟩))
    go_ret
    exact ⟨rfl, hb⟩
  · have hd : decide ((200 : Int) < (len1 : Int)) = false := by simp; omega
    have hl8 : len1 * 8 ≤ 140737488355328 := by omega
    have hl2 : len1 ≤ 4611686018427387904 := by omega
    have hl3 : len1 ≤ 200 := by omega
    obtain ⟨i0, hi, hz0, hz1, hz2⟩ := info_parts info3
    generalize z1.take len1 = l at hrd hzl
    have HRD := Lib.hid hrd
    have HZL := Lib.hid hzl
    have HNIL := Lib.hid hnil
    clear hrd hzl hnil w1
    have hne : ((len1 : Int) != (len1 : Int)) = false := by simp
    go_enter Try.func6, Try.ntmps6
    go_wp2_with (refine wpList_wp rfl (fun K hK => ?_); refine wp_append (.tmp 17) (.tmp 18) 30 rfl w.heap.size 3 i0 (.int .i64 0) 1 8 Try.underlying30 hi hz0 hz1 hz2 rfl (by decide) _ 0 [] rfl (World.ownsRow_nil _ _ _ _) _ len1 (l.map (Value.int .i64)) rfl ⟨_, _, rfl, HRD.out⟩ ?g3 ?g4 one_int ?g5 ?g6 ?g7 ?g8)
    case g3 => intro cap hc; cases hc; exact (HNIL.out rfl).2
    case g4 => rw [List.length_map, HZL.out]; omega
    case g5 => unfold maxLen; omega
    case g6 => omega
    case g7 => exact Nat.le_refl _
    case g8 =>
    intro vb w1 hownb hgr
    have hb1 : Below w.heap.size w w1 := grown_below (by simpa [Value.ownBlock] using hgr)
    clear hgr
    obtain ⟨ab, cb, rfl, hcb⟩ := ownsRow_rd hownb
    have HCB := Lib.hid hcb
    clear hcb hownb
    refine hK _ _ ?_
    clear hK K
    have hrd1 := Lib.hid (HRD.out.below hb1)
    have HPERM := Lib.hid (shufL_perm (len1 - 1) a0 l (by have := HZL.out; omega))
    have HLL := Lib.hid ((shufL_length (len1 - 1) a0 l).trans HZL.out)
    go_wp2_with (go_at_call 13; refine (shuffle_core _ _ a0 a1 len1 cap1 l _ hrd1.out HNIL.out HZL.out hl8 rfl rfl).mono ?_; rintro e w2 ⟨v, rfl, how, hb2⟩; obtain ⟨a2, c2, rfl, _⟩ := ownsRow_rd how; have HOW := Lib.hid how; clear how)
    generalize shufL (len1 - 1) a0 l = L at HOW HPERM HLL
    go_loopw [8] (fun i wr => ∃ k : Nat, k ≤ len1 ∧ i = .int .i64 k ∧ Hid (wr.ownsRow w1.heap.size 3 1 (.slice a2 len1 c2) len1 (L.map (Value.int .i64))) ∧ Below w1.heap.size w1 wr) (fun i _ => len1 - (intOf i).toNat)
    case atStart => exact ⟨0, Nat.zero_le _, rfl, HOW, hb2⟩
    case round =>
      obtain ⟨k, hk, rfl, HOW, hbel⟩ := hrel
      clear hb2
      by_cases hlt : k < len1
      · -- a round of the first loop
        obtain ⟨b, o, rfl, g1⟩ := CellsAt.pos HRD.out (by rw [List.length_map, HZL.out]; omega)
        obtain ⟨g, cap2, hv2, hg⟩ := own_shape HOW.out (by omega)
        simp only [Value.slice.injEq, true_and] at hv2
        obtain ⟨rfl, hcc⟩ := hv2
        have HCC := Lib.hid hcc
        clear hcc
        have gl : ∀ wx, Below w1.heap.size w1 wx → ∀ j, j < len1 → wx.cell? ⟨b, o + j, none⟩ = some (.int .i64 (l.getD j 0)) := by
          intro wx hx j hj
          have h1 := g1 j _ (getD_int (by rw [HZL.out]; omega) _)
          have h2 := ext_of_below hb1 _ _ h1
          exact ext_of_below hx _ _ h2
        have ga : ∀ wx : World, Hid (wx.ownsRow w1.heap.size 3 1 (.slice (some ⟨g, 0, none⟩) len1 c2) len1 (L.map (Value.int .i64))) → ∀ j, j < len1 → wx.cell? ⟨g, j, none⟩ = some (.int .i64 (L.getD j 0)) := by
          intro wx hx j hj
          rw [hx.out.cellAt j (by omega)]
          exact getD_int (by rw [HLL.out]; omega) _
        have GL := Lib.hid gl
        have GA := Lib.hid ga
        clear g1 gl ga
        generalize hxx : l.getD k 0 = x
        have HXX := Lib.hid hxx
        clear hxx
        obtain ⟨wo, rfl⟩ : ∃ wo : World, wo = wr := ⟨_, rfl⟩
        go_wp2_with fail
        go_loopw [9, 10, 11] (fun xc yc i wr => ∃ j : Nat, j ≤ len1 ∧ i = .int .i64 j ∧ xc = .int .i64 ((l.take j).count x : Nat) ∧ yc = .int .i64 ((L.take j).count x : Nat) ∧ Hid (wr.ownsRow w1.heap.size 3 1 (.slice (some ⟨g, 0, none⟩) len1 c2) len1 (L.map (Value.int .i64))) ∧ Below w1.heap.size w1 wr) (fun _ _ i _ => len1 - (intOf i).toNat)
        case atStart => exact ⟨0, Nat.zero_le _, rfl, by simp, by simp, HOW, hbel⟩
        case round =>
          obtain ⟨j, hj, rfl, rfl, rfl, HOW2, hbel2⟩ := hrel
          clear HOW hbel
          have lc1 := List.count_le_length (a := x) (l := l.take j)
          have lc2 := List.count_le_length (a := x) (l := L.take j)
          rw [List.length_take] at lc1 lc2
          have lb1 : (l.take j).count x ≤ 200 := by omega
          have lb2 : (L.take j).count x ≤ 200 := by omega
          clear lc1 lc2
          by_cases hjl : j < len1
          · have c1 : wr.cell? ⟨b, o + j, none⟩ = some (.int .i64 (l.getD j 0)) := GL.out _ hbel2 j hjl
            have c2' : wr.cell? ⟨b, o + k, none⟩ = some (.int .i64 x) := by rw [GL.out _ hbel2 k hlt, HXX.out]
            have c3 : wr.cell? ⟨g, j, none⟩ = some (.int .i64 (L.getD j 0)) := GA.out _ HOW2 j hjl
            have T1 := Lib.hid (count_take_succ l j x (by rw [HZL.out]; omega))
            have T2 := Lib.hid (count_take_succ L j x (by rw [HLL.out]; omega))
            generalize l.getD j 0 = y at c1 T1
            generalize L.getD j 0 = z at c3 T2
            by_cases e1 : y = x
            all_goals by_cases e2 : z = x
            · have q1 : (y == x) = true := by simp [e1]
              have q2 : (z == x) = true := by simp [e2]
              have T1' := T1.out; have T2' := T2.out
              rw [if_pos e1] at T1'; rw [if_pos e2] at T2'
              have HT1 := Lib.hid T1'; have HT2 := Lib.hid T2'
              clear T1 T2 T1' T2' e1 e2
              go_wp2_with fail
              refine wp_region_plan [(0, none), (1, none), (2, none), (3, some none), (4, none), (5, none), (6, none), (7, some none), (8, none)] (by kernel_rfl) (by kernel_rfl) ?_
              repeat (first | (refine plan_free (v := ?_) rfl rfl (fun _ => ?_) (fun K hK => ?_); rotate_left 1; (focus (go_simp <;> exact rfl)); go_simp; refine hK _ _ ?_; clear hK K) | (refine plan_held (v := ?_) rfl rfl ?_ (fun K hK => ?_); rotate_left 1; (focus (go_simp <;> exact rfl)); go_simp; refine hK _ _ ?_; clear hK K))
              refine plan_nil ?_
              go_wp2_with fail
              refine wp_region_plan [(0, none), (1, none), (2, none), (3, some none), (4, none), (5, none), (6, none), (7, some none), (8, none)] (by kernel_rfl) (by kernel_rfl) ?_
              repeat (first | (refine plan_free (v := ?_) rfl rfl (fun _ => ?_) (fun K hK => ?_); rotate_left 1; (focus (go_simp <;> exact rfl)); go_simp; refine hK _ _ ?_; clear hK K) | (refine plan_held (v := ?_) rfl rfl ?_ (fun K hK => ?_); rotate_left 1; (focus (go_simp <;> exact rfl)); go_simp; refine hK _ _ ?_; clear hK K))
              refine plan_nil ?_
              go_wp2_with fail
              go_roundw
              case rel => exact ⟨j + 1, by omega, by go_num, by rw [HT1.out]; go_num, by rw [HT2.out]; go_num, drew_own (drew_own HOW2), hbel2.drew.drew⟩
              case measure => simp [intOf]; omega
            · have q1 : (y == x) = true := by simp [e1]
              have q2 : (z == x) = false := by simp [e2]
              have T1' := T1.out; have T2' := T2.out
              rw [if_pos e1] at T1'; rw [if_neg e2] at T2'
              have HT1 := Lib.hid T1'; have HT2 := Lib.hid T2'
              clear T1 T2 T1' T2' e1 e2
              go_wp2_with fail
              refine wp_region_plan [(0, none), (1, none), (2, none), (3, some none), (4, none), (5, none), (6, none), (7, some none), (8, none)] (by kernel_rfl) (by kernel_rfl) ?_
              repeat (first | (refine plan_free (v := ?_) rfl rfl (fun _ => ?_) (fun K hK => ?_); rotate_left 1; (focus (go_simp <;> exact rfl)); go_simp; refine hK _ _ ?_; clear hK K) | (refine plan_held (v := ?_) rfl rfl ?_ (fun K hK => ?_); rotate_left 1; (focus (go_simp <;> exact rfl)); go_simp; refine hK _ _ ?_; clear hK K))
              refine plan_nil ?_
              go_wp2_with fail
              refine wp_region_plan [(0, none), (1, none), (2, none), (3, some none), (4, none), (5, none), (6, none), (7, some none), (8, none)] (by kernel_rfl) (by kernel_rfl) ?_
              repeat (first | (refine plan_free (v := ?_) rfl rfl (fun _ => ?_) (fun K hK => ?_); rotate_left 1; (focus (go_simp <;> exact rfl)); go_simp; refine hK _ _ ?_; clear hK K) | (refine plan_held (v := ?_) rfl rfl ?_ (fun K hK => ?_); rotate_left 1; (focus (go_simp <;> exact rfl)); go_simp; refine hK _ _ ?_; clear hK K))
              refine plan_nil ?_
              go_wp2_with fail
              go_roundw
              case rel => exact ⟨j + 1, by omega, by go_num, by rw [HT1.out]; go_num, by rw [HT2.out]; go_num, drew_own (drew_own HOW2), hbel2.drew.drew⟩
              case measure => simp [intOf]; omega
            · have q1 : (y == x) = false := by simp [e1]
              have q2 : (z == x) = true := by simp [e2]
              have T1' := T1.out; have T2' := T2.out
              rw [if_neg e1] at T1'; rw [if_pos e2] at T2'
              have HT1 := Lib.hid T1'; have HT2 := Lib.hid T2'
              clear T1 T2 T1' T2' e1 e2
              go_wp2_with fail
              refine wp_region_plan [(0, none), (1, none), (2, none), (3, some none), (4, none), (5, none), (6, none), (7, some none), (8, none)] (by kernel_rfl) (by kernel_rfl) ?_
              repeat (first | (refine plan_free (v := ?_) rfl rfl (fun _ => ?_) (fun K hK => ?_); rotate_left 1; (focus (go_simp <;> exact rfl)); go_simp; refine hK _ _ ?_; clear hK K) | (refine plan_held (v := ?_) rfl rfl ?_ (fun K hK => ?_); rotate_left 1; (focus (go_simp <;> exact rfl)); go_simp; refine hK _ _ ?_; clear hK K))
              refine plan_nil ?_
              go_wp2_with fail
              refine wp_region_plan [(0, none), (1, none), (2, none), (3, some none), (4, none), (5, none), (6, none), (7, some none), (8, none)] (by kernel_rfl) (by kernel_rfl) ?_
              repeat (first | (refine plan_free (v := ?_) rfl rfl (fun _ => ?_) (fun K hK => ?_); rotate_left 1; (focus (go_simp <;> exact rfl)); go_simp; refine hK _ _ ?_; clear hK K) | (refine plan_held (v := ?_) rfl rfl ?_ (fun K hK => ?_); rotate_left 1; (focus (go_simp <;> exact rfl)); go_simp; refine hK _ _ ?_; clear hK K))
              refine plan_nil ?_
              go_wp2_with fail
              go_roundw
              case rel => exact ⟨j + 1, by omega, by go_num, by rw [HT1.out]; go_num, by rw [HT2.out]; go_num, drew_own (drew_own HOW2), hbel2.drew.drew⟩
              case measure => simp [intOf]; omega
            · have q1 : (y == x) = false := by simp [e1]
              have q2 : (z == x) = false := by simp [e2]
              have T1' := T1.out; have T2' := T2.out
              rw [if_neg e1] at T1'; rw [if_neg e2] at T2'
              have HT1 := Lib.hid T1'; have HT2 := Lib.hid T2'
              clear T1 T2 T1' T2' e1 e2
              go_wp2_with fail
              refine wp_region_plan [(0, none), (1, none), (2, none), (3, some none), (4, none), (5, none), (6, none), (7, some none), (8, none)] (by kernel_rfl) (by kernel_rfl) ?_
              repeat (first | (refine plan_free (v := ?_) rfl rfl (fun _ => ?_) (fun K hK => ?_); rotate_left 1; (focus (go_simp <;> exact rfl)); go_simp; refine hK _ _ ?_; clear hK K) | (refine plan_held (v := ?_) rfl rfl ?_ (fun K hK => ?_); rotate_left 1; (focus (go_simp <;> exact rfl)); go_simp; refine hK _ _ ?_; clear hK K))
              refine plan_nil ?_
              go_wp2_with fail
              refine wp_region_plan [(0, none), (1, none), (2, none), (3, some none), (4, none), (5, none), (6, none), (7, some none), (8, none)] (by kernel_rfl) (by kernel_rfl) ?_
              repeat (first | (refine plan_free (v := ?_) rfl rfl (fun _ => ?_) (fun K hK => ?_); rotate_left 1; (focus (go_simp <;> exact rfl)); go_simp; refine hK _ _ ?_; clear hK K) | (refine plan_held (v := ?_) rfl rfl ?_ (fun K hK => ?_); rotate_left 1; (focus (go_simp <;> exact rfl)); go_simp; refine hK _ _ ?_; clear hK K))
              refine plan_nil ?_
              go_wp2_with fail
              go_roundw
              case rel => exact ⟨j + 1, by omega, by go_num, by rw [HT1.out]; go_num, by rw [HT2.out]; go_num, drew_own (drew_own HOW2), hbel2.drew.drew⟩
              case measure => simp [intOf]; omega
          · have hjn : j = len1 := by omega
            have s1 : (l.take j).count x = (L.take j).count x := by
              rw [List.take_of_length_le (by rw [HZL.out]; omega), List.take_of_length_le (by rw [HLL.out]; omega)]
              exact (HPERM.out.count_eq x).symm
            rw [s1]
            generalize (L.take j).count x = cc at lb2
            clear s1 lb1 hjn
            have hcc : ((cc : Int) != (cc : Int)) = false := by simp
            go_wp2_with fail
            go_roundw
            case rel => exact ⟨k + 1, by omega, by go_num, HOW2, hbel2⟩
            case measure => simp [intOf]; omega
      · -- behind the first loop
        obtain ⟨wo, rfl⟩ : ∃ wo : World, wo = wr := ⟨_, rfl⟩
        go_wp2_with fail
        go_loopw [12] (fun i wr => ∃ (j : Nat) (ys : List Value), j ≤ len1 ∧ i = .int .i64 j ∧ Hid (wr.ownsRow w1.heap.size 3 1 (.slice a2 len1 c2) len1 ys) ∧ Hid (∀ u ∈ ys, ∃ z, u = .int .i64 z) ∧ Below w1.heap.size w1 wr) (fun i _ => len1 - (intOf i).toNat)
        case atStart => exact ⟨0, _, Nat.zero_le _, rfl, HOW, (fun u hu => by obtain ⟨z, _, rfl⟩ := List.mem_map.1 hu; exact ⟨z, rfl⟩), hbel⟩
        case round =>
          obtain ⟨j, ys, hj, rfl, HOW2, HYS, hbel2⟩ := hrel
          clear HOW hbel
          by_cases hjl : j < len1
          · obtain ⟨g, cap2, hv2, hg⟩ := own_shape HOW2.out (by omega)
            simp only [Value.slice.injEq, true_and] at hv2
            obtain ⟨rfl, hcc⟩ := hv2
            have HCC := Lib.hid hcc
            clear hcc
            have hyl : j < ys.length := by have := HOW2.out.1; omega
            obtain ⟨z, hz⟩ := HYS.out _ (List.getElem_mem hyl)
            have c1 : wr.cell? ⟨g, j, none⟩ = some (.int .i64 z) := by rw [HOW2.out.cellAt j (by omega), List.getElem?_eq_getElem hyl, hz]
            have f1 := HOW2.out.frozenAt j
            have ST := Lib.hid (HOW2.out.stored j (.int .i64 (wrap64 (z + 1)))).1
            clear hz
            go_wp2_with fail
            go_roundw
            case rel => exact ⟨j + 1, _, by omega, by go_num, ST, (fun u hu => by rcases List.mem_or_eq_of_mem_set hu with hu | rfl; exact HYS.out u hu; exact ⟨_, rfl⟩), hbel2.setCell hg _⟩
            case measure => simp [intOf]; omega
          · go_wp2_with (first
              | (go_at_call 15; refine (same_eq _ _ len1 l _ ⟨_, _, rfl, (hrd1.out.below hbel2)⟩ ⟨_, _, rfl, HCB.out.below hbel2⟩ HZL.out hl2).mono ?_; rintro e w4 ⟨rfl, hb4⟩)
              | (go_at_call 10; refine (alive_any _).mono ?_; rintro e w5 ⟨rfl, hb5⟩))
            go_ret
            refine ⟨rfl, hb1.trans ((hbel2.mono hb1.size).trans ((hb4.mono ?_).trans (hb5.mono ?_)))⟩
            · exact Nat.le_trans hb1.size hbel2.size
            · exact Nat.le_trans hb1.size (Nat.le_trans hbel2.size hb4.size)

/-! ### the row -/
set_option maxRecDepth 100000 in
theorem lifted (os : Os) (started : os.Started) (H : Type) (enc : TypeId × Value → H) :
    ReturnsInHanded {} Try.checked os 6 .any (Rows.diceShufflesSpec.pre6 enc Try.prog Try.f6 Rows.diceShufflesRow.domain false) (Rows.diceShufflesSpec.post enc Try.prog Try.f6 false true false false) := by
  refine returnsInHanded_of_change (C := Try.checked) own_knob started (by kernel_rfl) Try.func6
    (ChangeSpec.witness6 (enc := enc) (C := Try.checked) false ⟨#[], #[.int .u64 0, .slice none 0 0], []⟩ 8 (by kernel_rfl) (by kernel_rfl) (by kernel_rfl) (by kernel_rfl)) ?_
  intro W base args ds gs before hval0 hW hcnd _
  have hval : ∀ (j : Nat) t v, Try.f6.params[j]? = some t → args[j]? = some v → Value.okWide Try.prog W .any base t v := hval0
  have hW' := hW
  obtain ⟨p, q, hA0, hV, rfl, hfz, hnd⟩ := hW
  have hA : DataW.TrodAll enc Try.prog W 0 (fun _ => true) true Try.f6.params.toList args.toList ds p := hA0
  rw [Try.params6] at hA hval
  obtain ⟨v0, vs0, d0, ds0, p0, q0, hargs, rfl, rfl, h0, r0⟩ := trodAll_cons hA
  obtain ⟨v1, vs1, d1, ds1, p1, q1, rfl, rfl, rfl, h1, r1⟩ := trodAll_cons r0
  obtain ⟨rfl, rfl, rfl⟩ := trodAll_nil r1
  obtain rfl : args = #[v0, v1] := by cases args; simp_all
  obtain ⟨rfl, rfl⟩ := trodVars_none hV
  obtain ⟨a0, rfl, rfl, rfl, w0⟩ := open_int Try.underlying22 (hval 0 22 v0 rfl rfl) h0
  obtain ⟨a1, len1, cap1, rfl⟩ := okWide_slice Try.underlying30 (hval 1 30 v1 rfl rfl)
  have k1 := h1
  have lt1 : ∀ x ∈ p1, x.block < W.heap.size := by obtain ⟨m, hm⟩ := k1; exact DataW.trod_lt m _ _ _ hm
  obtain ⟨z1, w1⟩ : ∃ zs, IsRow .i64 W a1 len1 cap1 zs := by
    obtain ⟨fuel, hf⟩ := h1
    rcases open_ints Try.underlying30 Try.underlying3 (by kernel_rfl) hf with ⟨hcs, _⟩ | ⟨x, l, c, zs, hcs, _, hl, hm, hz, _, hcell, hwz⟩
    · simp [Value.cells] at hcs
      obtain ⟨rfl, rfl, rfl⟩ := hcs
      exact ⟨[], .inl ⟨rfl, rfl, rfl, rfl⟩⟩
    · simp [Value.cells] at hcs
      obtain ⟨rfl, rfl, rfl⟩ := hcs
      exact ⟨zs, .inr ⟨_, rfl, hl, hm, by simpa using hz, hcell, hwz⟩⟩
  clear hA0 hval0
  refine (walk a0 a1 len1 cap1 z1 W w0 w1).mono fun e W' ⟨he, bel⟩ => ?_
  subst he
  exact ⟨_, rfl, _, _, _, [], _, [], hW', trodAll_mk1 (shut_bool Try.underlying4 _), (trodAll_cons_mk (shut_int Try.underlying22 w0) (trodAll_cons_mk (Below.trod laidOut (by kernel_rfl) (of_decide_eq_true (by kernel_rfl)) k1 bel lt1) trodAll_mk0)), rfl, bel.frame _, fun h => by cases h⟩

theorem over : Rows.diceShufflesRow.holds Try.pinned (OpenSpec.ofChange Rows.diceShufflesSpec) :=
  OpenClaim.holds_of_wide 6 Try.f6 rfl rfl rfl rfl rfl rfl rfl ⟨rfl, rfl, rfl, rfl, rfl⟩ rfl rfl rfl rfl rfl (by kernel_rfl) Try.func6 (by kernel_rfl)
    (of_decide_eq_true (by kernel_rfl)) (by unfold Func.isWrapper; first | (rw [if_pos (by decide +kernel)]; kernel_rfl) | (rw [if_neg (by decide +kernel)]; exact ⟨rfl, rfl⟩))
    (fun os started H enc _ => lifted os started H enc)

theorem proved : Rows.DiceShufflesSaid := over
#print axioms proved
end Go.Proofs.Ytdoihdkiaaagaaa.diceShuffles
