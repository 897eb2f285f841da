/-
  Whatever the games, best and n: the number that stands for a draw does not matter to Decided, Loser and Result, and n wins nothing where it is neither 0 nor 1, where there are at most 500 games; the chapter's examples hold; no condition.
-/
import Derived.Test.YtclhahmnllegpaaRows
import Derived.Test.YtclhahmnllegpaaMore
import Derived.WalkKit
import Derived.ProofKit
import Derived.OpenShut
import Derived.ShutString
import Derived.ChangeOld
import Derived.Below
namespace Go.Proofs.Ytclhahmnllegpaa.seriesDraws
open Go.ChangeShapes Go.WideShapes Go.ChangeAt Go.RowKit
open Go.ChangeMaps (open_string shut_string)
set_option linter.unusedVariables false

theorem own_knob : ownKnob Try.prog.godebug = none := by kernel_rfl
theorem laidOut : laidOutB Try.prog = true := by kernel_rfl

/-- WHAT THE WALK IS TOLD OF A SLICE OF INTEGERS THAT CAME IN: it is nil; or it leads to a row of 'cap' cells, the numbers 'zs' (the first 'len' are its elements, the rest its spare room), each fitting its kind. -/
def IsRow (k : IntKind) (w : World) (a : Option Addr) (len cap : Nat) (zs : List Int) : Prop :=
  (a = none ∧ len = 0 ∧ cap = 0 ∧ zs = []) ∨
  ∃ x, a = some x ∧ len ≤ cap ∧ cap ≤ maxLen ∧ zs.length = cap ∧ (∀ i, i < zs.length → w.cell? (x.add i) = some (.int k (zs.getD i 0))) ∧ ∀ n ∈ zs, (Lit.int k n).wf = true

/-! ### the walk -/
set_option maxRecDepth 100000 in
set_option maxHeartbeats 2000000 in
theorem walk (a0 : Option Addr) (len0 cap0 : Nat) (z0 : List Int) (a1 : Int) (a2 : Int) (w : World) (w0 : IsRow .i64 w a0 len0 cap0 z0) (w1 : (Lit.int .i64 a1).wf = true) (w2 : (Lit.int .i64 a2).wf = true) :
    Calls Try.prog 7 #[.slice a0 len0 cap0, .int .i64 a1, .int .i64 a2] w fun e w' => e = .returned (.bool true) ∧ Below w.heap.size w w' := by
  obtain ⟨hrd, hnil, hzl⟩ := isRow_cells w0
  have hwf := isRow_wf w0
  have hbb := (bounds_i64 w1).2
  by_cases hlen : 500 < len0 ∨ a2 = 0 ∨ a2 = 1
  · clear hrd hnil hzl w0 hwf
    by_cases h5 : 500 < len0
    · have hd : decide ((500 : Int) < (len0 : Int)) = true := by simp; omega
      clear hlen
      go_enter Try.func7, Try.ntmps7
      go_wp2_with (first | (go_at_call 8; refine (alive_any _).mono ?_; rintro e w2 ⟨rfl, hb⟩))
      go_ret
      exact ⟨rfl, hb⟩
    · have hd : decide ((500 : Int) < (len0 : Int)) = false := by simp; omega
      have h6 : a2 = 0 ∨ a2 = 1 := by omega
      clear hlen
      rcases h6 with rfl | rfl
      · go_enter Try.func7, Try.ntmps7
        go_wp2_with (first | (go_at_call 8; refine (alive_any _).mono ?_; rintro e w2 ⟨rfl, hb⟩))
        go_ret
        exact ⟨rfl, hb⟩
      · go_enter Try.func7, Try.ntmps7
        go_wp2_with (first | (go_at_call 8; refine (alive_any _).mono ?_; rintro e w2 ⟨rfl, hb⟩))
        go_ret
        exact ⟨rfl, hb⟩
  · have hd : decide ((500 : Int) < (len0 : Int)) = false := by simp; omega
    have hl2 : len0 ≤ 4611686018427387904 := by omega
    have hl3 : len0 ≤ 500 := by omega
    have hn : a2 ≠ 0 ∧ a2 ≠ 1 := by omega
    have HN := Lib.hid hn
    have n0 : (a2 == 0) = false := by simp; omega
    have n1 : (a2 == 1) = false := by simp; omega
    clear hn hlen
    obtain ⟨i0, hi, hz0, hz1, hz2⟩ := info_parts info3
    have HRD := Lib.hid hrd
    have HZL := Lib.hid hzl
    have HBB := Lib.hid hbb
    clear hrd hzl hnil w0 hwf hbb
    generalize z0.take len0 = g at HRD HZL
    go_enter Try.func7, Try.ntmps7
    go_wp2_with fail
    go_loopw [7, 28] (fun v i wr => ∃ k : Nat, k ≤ len0 ∧ i = .int .i64 k ∧ Hid (wr.ownsRow w.heap.size 3 1 v k ((g.take k).map (fun x => Value.int .i64 (drawG a2 x)))) ∧ Below w.heap.size w wr) (fun _ i _ => len0 - (intOf i).toNat)
    case atStart => exact ⟨0, Nat.zero_le _, rfl, World.ownsRow_nil _ _ _ _, Below.refl _ _⟩
    case round =>
      obtain ⟨k, hk, rfl, HOW, hbel⟩ := hrel
      obtain ⟨av, cv, rfl, hcv⟩ := ownsRow_rd HOW.out
      by_cases hlt : k < len0
      · clear hcv
        obtain ⟨b1, o1, rfl, g1⟩ := CellsAt.pos HRD.out (by rw [List.length_map, HZL.out]; omega)
        have e1 : wr.cell? ⟨b1, o1 + k, none⟩ = some (.int .i64 (g.getD k 0)) := by
          have := g1 k _ (getD_int (by rw [HZL.out]; omega) _)
          rw [hbel.cell (World.block_lt_of_cell? w _ this)]; exact this
        have HS := Lib.hid (take_map_succ g k (by rw [HZL.out]; omega) (fun x => Value.int .i64 (drawG a2 x)))
        generalize g.getD k 0 = x at e1 HS
        clear g1
        by_cases h0 : x = 0
        · subst h0
          have HX := Lib.hid (show drawG a2 0 = 0 from rfl)
          go_wp2_with (at_builtin; refine wpList_wp rfl (fun K hK => ?_); refine halt_here ?_)
          refine go_on (wp_append (.tmp 39) (.tmp 41) 22 rfl w.heap.size 3 i0 (.int .i64 0) 1 8 Try.underlying22 hi hz0 hz1 hz2 rfl (by decide) _ k _ rfl (HOW.out.alloc _) _ 1 [.int .i64 (0)] rfl ⟨_, _, rfl, cells_one wr _ 3⟩ (fun cap hc => by cases hc) rfl (one_of rfl) (by unfold maxLen; omega) (by omega) (size_alloc_le _ _ hbel.size) ?_)
          intro v' w' how' hgr'
          have HW := Lib.hid (show w'.ownsRow w.heap.size 3 1 v' (k + 1) ((g.take (k + 1)).map (fun x => Value.int .i64 (drawG a2 x))) by rw [HS.out]; simpa only [HX.out] using how')
          have hbw := (hbel.alloc hbel.size (.cells #[.int .i64 (0)] 3)).grown hgr' (size_alloc_le _ _ hbel.size) (fun j hj => (HOW.out.lt j hj).1)
          clear how' hgr'
          refine hK _ _ ?_
          clear hK K
          go_wp2_with fail
          go_roundw
          case rel => exact ⟨k + 1, by omega, by go_num, HW, hbw⟩
          case measure => simp [intOf]; omega
        · by_cases h1 : x = 1
          · subst h1
            have HX := Lib.hid (show drawG a2 1 = 1 from rfl)
            go_wp2_with (at_builtin; refine wpList_wp rfl (fun K hK => ?_); refine halt_here ?_)
            refine go_on (wp_append (.tmp 39) (.tmp 41) 22 rfl w.heap.size 3 i0 (.int .i64 0) 1 8 Try.underlying22 hi hz0 hz1 hz2 rfl (by decide) _ k _ rfl (HOW.out.alloc _) _ 1 [.int .i64 (1)] rfl ⟨_, _, rfl, cells_one wr _ 3⟩ (fun cap hc => by cases hc) rfl (one_of rfl) (by unfold maxLen; omega) (by omega) (size_alloc_le _ _ hbel.size) ?_)
            intro v' w' how' hgr'
            have HW := Lib.hid (show w'.ownsRow w.heap.size 3 1 v' (k + 1) ((g.take (k + 1)).map (fun x => Value.int .i64 (drawG a2 x))) by rw [HS.out]; simpa only [HX.out] using how')
            have hbw := (hbel.alloc hbel.size (.cells #[.int .i64 (1)] 3)).grown hgr' (size_alloc_le _ _ hbel.size) (fun j hj => (HOW.out.lt j hj).1)
            clear how' hgr'
            refine hK _ _ ?_
            clear hK K
            go_wp2_with fail
            go_roundw
            case rel => exact ⟨k + 1, by omega, by go_num, HW, hbw⟩
            case measure => simp [intOf]; omega
          · have HX := Lib.hid (show drawG a2 x = a2 by simp [drawG, h0, h1])
            have q0 : (x != 0) = true := by simp [h0]
            have q1 : (x != 1) = true := by simp [h1]
            clear h0 h1
            go_wp2_with (at_builtin; refine wpList_wp rfl (fun K hK => ?_); refine halt_here ?_)
            refine go_on (wp_append (.tmp 39) (.tmp 41) 22 rfl w.heap.size 3 i0 (.int .i64 0) 1 8 Try.underlying22 hi hz0 hz1 hz2 rfl (by decide) _ k _ rfl (HOW.out.alloc _) _ 1 [.int .i64 (a2)] rfl ⟨_, _, rfl, cells_one wr _ 3⟩ (fun cap hc => by cases hc) rfl (one_of rfl) (by unfold maxLen; omega) (by omega) (size_alloc_le _ _ hbel.size) ?_)
            intro v' w' how' hgr'
            have HW := Lib.hid (show w'.ownsRow w.heap.size 3 1 v' (k + 1) ((g.take (k + 1)).map (fun x => Value.int .i64 (drawG a2 x))) by rw [HS.out]; simpa only [HX.out] using how')
            have hbw := (hbel.alloc hbel.size (.cells #[.int .i64 (a2)] 3)).grown hgr' (size_alloc_le _ _ hbel.size) (fun j hj => (HOW.out.lt j hj).1)
            clear how' hgr'
            refine hK _ _ ?_
            clear hK K
            go_wp2_with fail
            go_roundw
            case rel => exact ⟨k + 1, by omega, by go_num, HW, hbw⟩
            case measure => simp [intOf]; omega
      · have hkn : k = len0 := by omega
        subst hkn
        have HCV := Lib.hid (show CellsAt wr av ((g.map (drawG a2)).map (Value.int .i64)) by rw [List.map_map]; rw [List.take_of_length_le (by rw [HZL.out]; exact Nat.le_refl _)] at hcv; exact hcv)
        have HSL := Lib.hid (show (g.map (drawG a2)).length = k by rw [List.length_map]; exact HZL.out)
        have HDS := Lib.hid (fun (b p : Int) (ok : Bool) (h : DecR g b p ok) => decR_same (h := g.map (drawG a2)) (by rw [List.length_map]) (fun n => by rw [← List.map_take]; exact (count_draw a2 HN.out _).1) (fun n => by rw [← List.map_take]; exact (count_draw a2 HN.out _).2) h)
        have HC0 := Lib.hid (show cw (g.map (drawG a2)) 0 = cw g 0 by rw [cw0, cw0]; exact (count_draw a2 HN.out g).1)
        have HC1 := Lib.hid (show cw (g.map (drawG a2)) 1 = cw g 1 by rw [cw1, cw1]; exact (count_draw a2 HN.out g).2)
        have HLS := Lib.hid (show loserOf (g.map (drawG a2)) = loserOf g by unfold loserOf; rw [← List.map_reverse]; exact loser_draw a2 HN.out _)
        have HWN := Lib.hid (show cw (g.map (drawG a2)) a2 = 0 by unfold cw; rw [if_neg (by have := HN.out; omega)])
        have htc : cw g 0 + cw g 1 ≤ k := by have := two_counts g; rw [← cw0, ← cw1, HZL.out] at this; exact this
        generalize hu : cw g 0 = u at htc HC0
        generalize hv : cw g 1 = v at htc HC1
        have HU := Lib.hid hu
        have HV := Lib.hid hv
        clear hcv hu hv HOW
        have hub : u ≤ 500 := by omega
        have hvb : v ≤ 500 := by omega
        go_wp2_with (go_at_call 15; refine halt_here ?_)
        refine go_on ((decided_any a1 a0 k cap0 g _ (HRD.out.below hbel) HZL.out hl2 HBB.out).mono ?_)
        rintro e w2 ⟨p, ok, rfl, hdp, hb2⟩
        have HDQ := Lib.hid (HDS.out _ _ _ hdp)
        clear hdp
        go_wp2_with (go_at_call 15; refine halt_here ?_)
        refine go_on ((decided_any a1 av k cv (g.map (drawG a2)) _ (HCV.out.below hb2) HSL.out hl2 HBB.out).mono ?_)
        rintro e w3 ⟨q, is, rfl, hdq, hb3⟩
        obtain ⟨rfl, rfl⟩ := decR_one HDQ.out hdq
        clear hdq HDQ
        have hbw : Below w.heap.size w w3 := hbel.trans ((hb2.mono hbel.size).trans (hb3.mono (Nat.le_trans hbel.size hb2.size)))
        have HG3 := Lib.hid (HRD.out.below hbw)
        have HO3 := Lib.hid (HCV.out.below (hb2.trans (hb3.mono hb2.size)))
        clear hb2 hb3 hbel HRD HCV HDS
        have q1 : (ok == ok) = true := by simp
        have q2 : (p == p) = true := by simp
        generalize hls : loserOf g = ls at HLS
        have HLG := Lib.hid hls
        clear hls
        have q3 : (ls == ls) = true := by simp
        go_wp2_with (go_at_call 11; refine halt_here ?_)
        refine go_on ((loser_nat a0 k cap0 g _ HG3.out HZL.out hl2 ls HLG.out).mono ?_)
        rintro e w4 ⟨rfl, rfl⟩
        go_wp2_with (go_at_call 11; refine halt_here ?_)
        refine go_on ((loser_nat av k cv (g.map (drawG a2)) _ HO3.out HSL.out hl2 ls HLS.out).mono ?_)
        rintro e w5 ⟨rfl, rfl⟩
        go_wp2_with (go_at_call 13; refine halt_here ?_)
        refine go_on ((result_nat 2 3 a0 k cap0 g _ HG3.out HZL.out hl2 u v HU.out HV.out).mono ?_)
        rintro e w6 ⟨rfl, hb6⟩
        go_wp2_with (go_at_call 13; refine halt_here ?_)
        refine go_on ((result_nat 2 3 av k cv (g.map (drawG a2)) _ (HO3.out.below hb6) HSL.out hl2 u v HC0.out HC1.out).mono ?_)
        rintro e w7 ⟨rfl, hb7⟩
        have HO7 := Lib.hid ((HO3.out.below hb6).below hb7)
        have hbw7 : Below w.heap.size w w7 := hbw.trans ((hb6.mono hbw.size).trans (hb7.mono (Nat.le_trans hbw.size hb6.size)))
        clear hbw hb6 hb7
        go_wp2_with (go_at_call 9; refine halt_here ?_)
        refine go_on ((wins_zero av k cv (g.map (drawG a2)) a2 _ HO7.out HSL.out hl2 HWN.out).mono ?_)
        rintro e w8 ⟨rfl, rfl⟩
        go_wp2_with (go_at_call 8; refine halt_here ?_)
        refine go_on ((alive_any _).mono ?_)
        rintro e w9 ⟨rfl, hb9⟩
        go_wp2_with fail
        go_ret
        exact ⟨rfl, hbw7.trans (hb9.mono hbw7.size)⟩

/-! ### the row -/
set_option maxRecDepth 100000 in
theorem lifted (os : Os) (started : os.Started) (H : Type) (enc : TypeId × Value → H) :
    ReturnsInHanded {} Try.checked os 7 .any (Rows.seriesDrawsSpec.pre6 enc Try.prog Try.f7 Rows.seriesDrawsRow.domain false) (Rows.seriesDrawsSpec.post enc Try.prog Try.f7 false true false false) := by
  refine returnsInHanded_of_change (C := Try.checked) own_knob started (by kernel_rfl) Try.func7
    (ChangeSpec.witness6 (enc := enc) (C := Try.checked) false ⟨#[], #[.slice none 0 0, .int .i64 0, .int .i64 0], []⟩ 8 (by kernel_rfl) (by kernel_rfl) (by kernel_rfl) (by kernel_rfl)) ?_
  intro W base args ds gs before hval0 hW hcnd _
  have hval : ∀ (j : Nat) t v, Try.f7.params[j]? = some t → args[j]? = some v → Value.okWide Try.prog W .any base t v := hval0
  have hW' := hW
  obtain ⟨p, q, hA0, hV, rfl, hfz, hnd⟩ := hW
  have hA : DataW.TrodAll enc Try.prog W 0 (fun _ => true) true Try.f7.params.toList args.toList ds p := hA0
  rw [Try.params7] at hA hval
  obtain ⟨v0, vs0, d0, ds0, p0, q0, hargs, rfl, rfl, h0, r0⟩ := trodAll_cons hA
  obtain ⟨v1, vs1, d1, ds1, p1, q1, rfl, rfl, rfl, h1, r1⟩ := trodAll_cons r0
  obtain ⟨v2, vs2, d2, ds2, p2, q2, rfl, rfl, rfl, h2, r2⟩ := trodAll_cons r1
  obtain ⟨rfl, rfl, rfl⟩ := trodAll_nil r2
  obtain rfl : args = #[v0, v1, v2] := by cases args; simp_all
  obtain ⟨rfl, rfl⟩ := trodVars_none hV
  obtain ⟨a0, len0, cap0, rfl⟩ := okWide_slice Try.underlying22 (hval 0 22 v0 rfl rfl)
  have k0 := h0
  have lt0 : ∀ x ∈ p0, x.block < W.heap.size := by obtain ⟨m, hm⟩ := k0; exact DataW.trod_lt m _ _ _ hm
  obtain ⟨z0, w0⟩ : ∃ zs, IsRow .i64 W a0 len0 cap0 zs := by
    obtain ⟨fuel, hf⟩ := h0
    rcases open_ints Try.underlying22 Try.underlying3 (by kernel_rfl) hf with ⟨hcs, _⟩ | ⟨x, l, c, zs, hcs, _, hl, hm, hz, _, hcell, hwz⟩
    · simp [Value.cells] at hcs
      obtain ⟨rfl, rfl, rfl⟩ := hcs
      exact ⟨[], .inl ⟨rfl, rfl, rfl, rfl⟩⟩
    · simp [Value.cells] at hcs
      obtain ⟨rfl, rfl, rfl⟩ := hcs
      exact ⟨zs, .inr ⟨_, rfl, hl, hm, by simpa using hz, hcell, hwz⟩⟩
  obtain ⟨a1, rfl, rfl, rfl, w1⟩ := open_int Try.underlying3 (hval 1 3 v1 rfl rfl) h1
  obtain ⟨a2, rfl, rfl, rfl, w2⟩ := open_int Try.underlying3 (hval 2 3 v2 rfl rfl) h2
  clear hA0 hval0
  refine (walk a0 len0 cap0 z0 a1 a2 W w0 w1 w2).mono fun e W' ⟨he, bel⟩ => ?_
  subst he
  exact ⟨_, rfl, _, _, _, [], _, [], hW', trodAll_mk1 (shut_bool Try.underlying4 _), (trodAll_cons_mk (Below.trod laidOut (by kernel_rfl) (of_decide_eq_true (by kernel_rfl)) k0 bel lt0) (trodAll_cons_mk (shut_int Try.underlying3 w1) (trodAll_cons_mk (shut_int Try.underlying3 w2) trodAll_mk0))), rfl, bel.frame _, fun h => by cases h⟩

theorem over : Rows.seriesDrawsRow.holds Try.pinned (OpenSpec.ofChange Rows.seriesDrawsSpec) :=
  OpenClaim.holds_of_wide 7 Try.f7 rfl rfl rfl rfl rfl rfl rfl ⟨rfl, rfl, rfl, rfl, rfl⟩ rfl rfl rfl rfl rfl (by kernel_rfl) Try.func7 (by kernel_rfl)
    (of_decide_eq_true (by kernel_rfl)) (by unfold Func.isWrapper; first | (rw [if_pos (by decide +kernel)]; kernel_rfl) | (rw [if_neg (by decide +kernel)]; exact ⟨rfl, rfl⟩))
    (fun os started H enc _ => lifted os started H enc)

theorem proved : Rows.SeriesDrawsSaid := over
#print axioms proved
end Go.Proofs.Ytclhahmnllegpaa.seriesDraws
