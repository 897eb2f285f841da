/-
  Whatever the games and best: exchanging the players exchanges the results of Decided and Result, where there are at most 500 games, and the chapter's examples hold; no condition.
-/
import Derived.Test.YtclhahmnllegpaaRows
import Derived.Test.YtclhahmnllegpaaMore
import Derived.WalkKit
import Derived.ProofKit
import Derived.OpenShut
import Derived.ShutString
import Derived.ChangeOld
import Derived.Below
namespace Go.Proofs.Ytclhahmnllegpaa.seriesSwaps
open Go.ChangeShapes Go.WideShapes Go.ChangeAt Go.RowKit
open Go.ChangeMaps (open_string shut_string)
set_option linter.unusedVariables false

theorem own_knob : ownKnob Try.prog.godebug = none := by kernel_rfl
theorem laidOut : laidOutB Try.prog = true := by kernel_rfl

/-- WHAT THE WALK IS TOLD OF A SLICE OF INTEGERS THAT CAME IN: it is nil; or it leads to a row of 'cap' cells, the numbers 'zs' (the first 'len' are its elements, the rest its spare room), each fitting its kind. -/
def IsRow (k : IntKind) (w : World) (a : Option Addr) (len cap : Nat) (zs : List Int) : Prop :=
  (a = none ∧ len = 0 ∧ cap = 0 ∧ zs = []) ∨
  ∃ x, a = some x ∧ len ≤ cap ∧ cap ≤ maxLen ∧ zs.length = cap ∧ (∀ i, i < zs.length → w.cell? (x.add i) = some (.int k (zs.getD i 0))) ∧ ∀ n ∈ zs, (Lit.int k n).wf = true

/-! ### the walk -/
set_option maxRecDepth 100000 in
set_option maxHeartbeats 2000000 in
theorem walk (a0 : Option Addr) (len0 cap0 : Nat) (z0 : List Int) (a1 : Int) (w : World) (w0 : IsRow .i64 w a0 len0 cap0 z0) (w1 : (Lit.int .i64 a1).wf = true) :
    Calls Try.prog 6 #[.slice a0 len0 cap0, .int .i64 a1] w fun e w' => e = .returned (.bool true) ∧ Below w.heap.size w w' := by
  obtain ⟨hrd, hnil, hzl⟩ := isRow_cells w0
  have hwf := isRow_wf w0
  have hbb := (bounds_i64 w1).2
  by_cases hlen : 500 < len0
  · have hd : decide ((500 : Int) < (len0 : Int)) = true := by simp; omega
    clear hrd hnil hzl w0 hwf
    go_enter Try.func6, Try.ntmps6
    go_wp2_with (first | (go_at_call 8; refine (alive_any _).mono ?_; rintro e w2 ⟨rfl, hb⟩))
    go_ret
    exact ⟨rfl, hb⟩
  · have hd : decide ((500 : Int) < (len0 : Int)) = false := by simp; omega
    have hl2 : len0 ≤ 4611686018427387904 := by omega
    have hl3 : len0 ≤ 500 := by omega
    obtain ⟨i0, hi, hz0, hz1, hz2⟩ := info_parts info3
    have HRD := Lib.hid hrd
    have HZL := Lib.hid hzl
    have HBB := Lib.hid hbb
    clear hrd hzl hnil w0 hwf hbb
    generalize z0.take len0 = g at HRD HZL
    go_enter Try.func6, Try.ntmps6
    go_wp2_with fail
    go_loopw [5, 20] (fun v i wr => ∃ k : Nat, k ≤ len0 ∧ i = .int .i64 k ∧ Hid (wr.ownsRow w.heap.size 3 1 v k ((g.take k).map (fun x => Value.int .i64 (swapG x)))) ∧ Below w.heap.size w wr) (fun _ i _ => len0 - (intOf i).toNat)
    case atStart => exact ⟨0, Nat.zero_le _, rfl, World.ownsRow_nil _ _ _ _, Below.refl _ _⟩
    case round =>
      obtain ⟨k, hk, rfl, HOW, hbel⟩ := hrel
      obtain ⟨av, cv, rfl, hcv⟩ := ownsRow_rd HOW.out
      by_cases hlt : k < len0
      · clear hcv
        obtain ⟨b1, o1, rfl, g1⟩ := CellsAt.pos HRD.out (by rw [List.length_map, HZL.out]; omega)
        have e1 : wr.cell? ⟨b1, o1 + k, none⟩ = some (.int .i64 (g.getD k 0)) := by
          have := g1 k _ (getD_int (by rw [HZL.out]; omega) _)
          rw [hbel.cell (World.block_lt_of_cell? w _ this)]; exact this
        have HS := Lib.hid (take_map_succ g k (by rw [HZL.out]; omega) (fun x => Value.int .i64 (swapG x)))
        generalize g.getD k 0 = x at e1 HS
        clear g1
        by_cases h0 : x = 0
        · subst h0
          have HX := Lib.hid (show swapG 0 = 1 from rfl)
          go_wp2_with (at_builtin; refine wpList_wp rfl (fun K hK => ?_); refine halt_here ?_)
          refine go_on (wp_append (.tmp 32) (.tmp 34) 22 rfl w.heap.size 3 i0 (.int .i64 0) 1 8 Try.underlying22 hi hz0 hz1 hz2 rfl (by decide) _ k _ rfl (HOW.out.alloc _) _ 1 [.int .i64 (1)] rfl ⟨_, _, rfl, cells_one wr _ 3⟩ (fun cap hc => by cases hc) rfl (one_of rfl) (by unfold maxLen; omega) (by omega) (size_alloc_le _ _ hbel.size) ?_)
          intro v' w' how' hgr'
          have HW := Lib.hid (show w'.ownsRow w.heap.size 3 1 v' (k + 1) ((g.take (k + 1)).map (fun x => Value.int .i64 (swapG x))) by rw [HS.out]; simpa only [HX.out] using how')
          have hbw := (hbel.alloc hbel.size (.cells #[.int .i64 (1)] 3)).grown hgr' (size_alloc_le _ _ hbel.size) (fun j hj => (HOW.out.lt j hj).1)
          clear how' hgr'
          refine hK _ _ ?_
          clear hK K
          go_wp2_with fail
          go_roundw
          case rel => exact ⟨k + 1, by omega, by go_num, HW, hbw⟩
          case measure => simp [intOf]; omega
        · by_cases h1 : x = 1
          · subst h1
            have HX := Lib.hid (show swapG 1 = 0 from rfl)
            go_wp2_with (at_builtin; refine wpList_wp rfl (fun K hK => ?_); refine halt_here ?_)
            refine go_on (wp_append (.tmp 32) (.tmp 34) 22 rfl w.heap.size 3 i0 (.int .i64 0) 1 8 Try.underlying22 hi hz0 hz1 hz2 rfl (by decide) _ k _ rfl (HOW.out.alloc _) _ 1 [.int .i64 (0)] rfl ⟨_, _, rfl, cells_one wr _ 3⟩ (fun cap hc => by cases hc) rfl (one_of rfl) (by unfold maxLen; omega) (by omega) (size_alloc_le _ _ hbel.size) ?_)
            intro v' w' how' hgr'
            have HW := Lib.hid (show w'.ownsRow w.heap.size 3 1 v' (k + 1) ((g.take (k + 1)).map (fun x => Value.int .i64 (swapG x))) by rw [HS.out]; simpa only [HX.out] using how')
            have hbw := (hbel.alloc hbel.size (.cells #[.int .i64 (0)] 3)).grown hgr' (size_alloc_le _ _ hbel.size) (fun j hj => (HOW.out.lt j hj).1)
            clear how' hgr'
            refine hK _ _ ?_
            clear hK K
            go_wp2_with fail
            go_roundw
            case rel => exact ⟨k + 1, by omega, by go_num, HW, hbw⟩
            case measure => simp [intOf]; omega
          · have HX := Lib.hid (show swapG x = x by simp [swapG, h0, h1])
            have q0 : (x == 0) = false := by simp [h0]
            have q1 : (x == 1) = false := by simp [h1]
            clear h0 h1
            go_wp2_with (at_builtin; refine wpList_wp rfl (fun K hK => ?_); refine halt_here ?_)
            refine go_on (wp_append (.tmp 32) (.tmp 34) 22 rfl w.heap.size 3 i0 (.int .i64 0) 1 8 Try.underlying22 hi hz0 hz1 hz2 rfl (by decide) _ k _ rfl (HOW.out.alloc _) _ 1 [.int .i64 (x)] rfl ⟨_, _, rfl, cells_one wr _ 3⟩ (fun cap hc => by cases hc) rfl (one_of rfl) (by unfold maxLen; omega) (by omega) (size_alloc_le _ _ hbel.size) ?_)
            intro v' w' how' hgr'
            have HW := Lib.hid (show w'.ownsRow w.heap.size 3 1 v' (k + 1) ((g.take (k + 1)).map (fun x => Value.int .i64 (swapG x))) by rw [HS.out]; simpa only [HX.out] using how')
            have hbw := (hbel.alloc hbel.size (.cells #[.int .i64 (x)] 3)).grown hgr' (size_alloc_le _ _ hbel.size) (fun j hj => (HOW.out.lt j hj).1)
            clear how' hgr'
            refine hK _ _ ?_
            clear hK K
            go_wp2_with fail
            go_roundw
            case rel => exact ⟨k + 1, by omega, by go_num, HW, hbw⟩
            case measure => simp [intOf]; omega
      · have hkn : k = len0 := by omega
        subst hkn
        have HCV := Lib.hid (show CellsAt wr av ((g.map swapG).map (Value.int .i64)) by rw [List.map_map]; rw [List.take_of_length_le (by rw [HZL.out]; exact Nat.le_refl _)] at hcv; exact hcv)
        have HSL := Lib.hid (show (g.map swapG).length = k by rw [List.length_map]; exact HZL.out)
        have HDS := Lib.hid (fun (b p : Int) (ok : Bool) (h : DecR g b p ok) => decR_swap (h := g.map swapG) (by rw [List.length_map]) (fun n => by rw [← List.map_take]; exact (count_swap _).1) (fun n => by rw [← List.map_take]; exact (count_swap _).2) h)
        have HC0 := Lib.hid (show cw (g.map swapG) 0 = cw g 1 by rw [cw0, cw1]; exact (count_swap g).1)
        have HC1 := Lib.hid (show cw (g.map swapG) 1 = cw g 0 by rw [cw0, cw1]; exact (count_swap g).2)
        have htc : cw g 0 + cw g 1 ≤ k := by have := two_counts g; rw [← cw0, ← cw1, HZL.out] at this; exact this
        generalize hu : cw g 0 = u at htc HC1
        generalize hv : cw g 1 = v at htc HC0
        have HU := Lib.hid hu
        have HV := Lib.hid hv
        clear hcv hu hv HOW
        have hub : u ≤ 500 := by omega
        have hvb : v ≤ 500 := by omega
        go_wp2_with (go_at_call 15; refine halt_here ?_)
        refine go_on ((decided_any a1 a0 k cap0 g _ (HRD.out.below hbel) HZL.out hl2 HBB.out).mono ?_)
        rintro e w2 ⟨p, ok, rfl, hdp, hb2⟩
        have hr := decR_range hdp
        have HDQ := Lib.hid (HDS.out _ _ _ hdp)
        clear hdp
        go_wp2_with (go_at_call 15; refine halt_here ?_)
        refine go_on ((decided_any a1 av k cv (g.map swapG) _ (HCV.out.below hb2) HSL.out hl2 HBB.out).mono ?_)
        rintro e w3 ⟨q, is, rfl, hdq, hb3⟩
        obtain ⟨rfl, rfl⟩ := decR_one HDQ.out hdq
        clear hdq HDQ
        go_wp2_with (go_at_call 13; refine halt_here ?_)
        refine go_on ((result_nat 0 1 a0 k cap0 g _ (HRD.out.below (hbel.trans ((hb2.mono hbel.size).trans (hb3.mono (Nat.le_trans hbel.size hb2.size))))) HZL.out hl2 u v HU.out HV.out).mono ?_)
        rintro e w4 ⟨rfl, hb4⟩
        go_wp2_with (go_at_call 13; refine halt_here ?_)
        refine go_on ((result_nat 0 1 av k cv (g.map swapG) _ (HCV.out.below (hb2.trans ((hb3.mono hb2.size).trans (hb4.mono (Nat.le_trans hb2.size hb3.size))))) HSL.out hl2 v u HC0.out HC1.out).mono ?_)
        rintro e w5 ⟨rfl, hb5⟩
        have hbw : Below w.heap.size w w5 := hbel.trans ((hb2.mono hbel.size).trans ((hb3.mono (Nat.le_trans hbel.size hb2.size)).trans ((hb4.mono (Nat.le_trans hbel.size (Nat.le_trans hb2.size hb3.size))).trans (hb5.mono (Nat.le_trans hbel.size (Nat.le_trans hb2.size (Nat.le_trans hb3.size hb4.size)))))))
        clear hb2 hb3 hb4 hb5 hbel HRD HCV HDS HC0 HC1 HU HV HSL HZL
        have q1 : (ok != ok) = false := by simp
        have q2 : ((u : Int) == (u : Int)) = true := by simp
        have q3 : ((v : Int) == (v : Int)) = true := by simp
        rcases hr with rfl | rfl | rfl
        · have hm : mirror (0) = 1 := rfl
          go_wp2_with (go_at_call 8; refine halt_here ?_)
          refine go_on ((alive_any _).mono ?_)
          rintro e w6 ⟨rfl, hb6⟩
          go_wp2_with fail
          go_ret
          exact ⟨rfl, ((hbw.alloc hbw.size _).alloc (size_alloc_le _ _ hbw.size) _).trans (hb6.mono (size_alloc_le _ _ (size_alloc_le _ _ hbw.size)))⟩
        · have hm : mirror (1) = 0 := rfl
          go_wp2_with (go_at_call 8; refine halt_here ?_)
          refine go_on ((alive_any _).mono ?_)
          rintro e w6 ⟨rfl, hb6⟩
          go_wp2_with fail
          go_ret
          exact ⟨rfl, ((hbw.alloc hbw.size _).alloc (size_alloc_le _ _ hbw.size) _).trans (hb6.mono (size_alloc_le _ _ (size_alloc_le _ _ hbw.size)))⟩
        · have hm : mirror (-1) = -1 := rfl
          go_wp2_with (go_at_call 8; refine halt_here ?_)
          refine go_on ((alive_any _).mono ?_)
          rintro e w6 ⟨rfl, hb6⟩
          go_wp2_with fail
          go_ret
          exact ⟨rfl, ((hbw.alloc hbw.size _).alloc (size_alloc_le _ _ hbw.size) _).trans (hb6.mono (size_alloc_le _ _ (size_alloc_le _ _ hbw.size)))⟩

/-! ### the row -/
set_option maxRecDepth 100000 in
theorem lifted (os : Os) (started : os.Started) (H : Type) (enc : TypeId × Value → H) :
    ReturnsInHanded {} Try.checked os 6 .any (Rows.seriesSwapsSpec.pre6 enc Try.prog Try.f6 Rows.seriesSwapsRow.domain false) (Rows.seriesSwapsSpec.post enc Try.prog Try.f6 false true false false) := by
  refine returnsInHanded_of_change (C := Try.checked) own_knob started (by kernel_rfl) Try.func6
    (ChangeSpec.witness6 (enc := enc) (C := Try.checked) false ⟨#[], #[.slice none 0 0, .int .i64 0], []⟩ 8 (by kernel_rfl) (by kernel_rfl) (by kernel_rfl) (by kernel_rfl)) ?_
  intro W base args ds gs before hval0 hW hcnd _
  have hval : ∀ (j : Nat) t v, Try.f6.params[j]? = some t → args[j]? = some v → Value.okWide Try.prog W .any base t v := hval0
  have hW' := hW
  obtain ⟨p, q, hA0, hV, rfl, hfz, hnd⟩ := hW
  have hA : DataW.TrodAll enc Try.prog W 0 (fun _ => true) true Try.f6.params.toList args.toList ds p := hA0
  rw [Try.params6] at hA hval
  obtain ⟨v0, vs0, d0, ds0, p0, q0, hargs, rfl, rfl, h0, r0⟩ := trodAll_cons hA
  obtain ⟨v1, vs1, d1, ds1, p1, q1, rfl, rfl, rfl, h1, r1⟩ := trodAll_cons r0
  obtain ⟨rfl, rfl, rfl⟩ := trodAll_nil r1
  obtain rfl : args = #[v0, v1] := by cases args; simp_all
  obtain ⟨rfl, rfl⟩ := trodVars_none hV
  obtain ⟨a0, len0, cap0, rfl⟩ := okWide_slice Try.underlying22 (hval 0 22 v0 rfl rfl)
  have k0 := h0
  have lt0 : ∀ x ∈ p0, x.block < W.heap.size := by obtain ⟨m, hm⟩ := k0; exact DataW.trod_lt m _ _ _ hm
  obtain ⟨z0, w0⟩ : ∃ zs, IsRow .i64 W a0 len0 cap0 zs := by
    obtain ⟨fuel, hf⟩ := h0
    rcases open_ints Try.underlying22 Try.underlying3 (by kernel_rfl) hf with ⟨hcs, _⟩ | ⟨x, l, c, zs, hcs, _, hl, hm, hz, _, hcell, hwz⟩
    · simp [Value.cells] at hcs
      obtain ⟨rfl, rfl, rfl⟩ := hcs
      exact ⟨[], .inl ⟨rfl, rfl, rfl, rfl⟩⟩
    · simp [Value.cells] at hcs
      obtain ⟨rfl, rfl, rfl⟩ := hcs
      exact ⟨zs, .inr ⟨_, rfl, hl, hm, by simpa using hz, hcell, hwz⟩⟩
  obtain ⟨a1, rfl, rfl, rfl, w1⟩ := open_int Try.underlying3 (hval 1 3 v1 rfl rfl) h1
  clear hA0 hval0
  refine (walk a0 len0 cap0 z0 a1 W w0 w1).mono fun e W' ⟨he, bel⟩ => ?_
  subst he
  exact ⟨_, rfl, _, _, _, [], _, [], hW', trodAll_mk1 (shut_bool Try.underlying4 _), (trodAll_cons_mk (Below.trod laidOut (by kernel_rfl) (of_decide_eq_true (by kernel_rfl)) k0 bel lt0) (trodAll_cons_mk (shut_int Try.underlying3 w1) trodAll_mk0)), rfl, bel.frame _, fun h => by cases h⟩

theorem over : Rows.seriesSwapsRow.holds Try.pinned (OpenSpec.ofChange Rows.seriesSwapsSpec) :=
  OpenClaim.holds_of_wide 6 Try.f6 rfl rfl rfl rfl rfl rfl rfl ⟨rfl, rfl, rfl, rfl, rfl⟩ rfl rfl rfl rfl rfl (by kernel_rfl) Try.func6 (by kernel_rfl)
    (of_decide_eq_true (by kernel_rfl)) (by unfold Func.isWrapper; first | (rw [if_pos (by decide +kernel)]; kernel_rfl) | (rw [if_neg (by decide +kernel)]; exact ⟨rfl, rfl⟩))
    (fun os started H enc _ => lifted os started H enc)

theorem proved : Rows.SeriesSwapsSaid := over
#print axioms proved
end Go.Proofs.Ytclhahmnllegpaa.seriesSwaps
