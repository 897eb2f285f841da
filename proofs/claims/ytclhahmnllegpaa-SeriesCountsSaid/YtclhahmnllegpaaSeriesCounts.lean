/-
  Whatever the games and the three numbers: Wins, Loser and Result return what the reference returns, where there are at most 500 games, and the chapter's examples hold; no condition.
-/
import Derived.Test.YtclhahmnllegpaaRows
import Derived.Test.YtclhahmnllegpaaMore
import Derived.WalkKit
import Derived.ProofKit
import Derived.OpenShut
import Derived.ShutString
import Derived.ChangeOld
import Derived.Below
namespace Go.Proofs.Ytclhahmnllegpaa.seriesCounts
open Go.ChangeShapes Go.WideShapes Go.ChangeAt Go.RowKit
open Go.ChangeMaps (open_string shut_string)
set_option linter.unusedVariables false

theorem own_knob : ownKnob Try.prog.godebug = none := by kernel_rfl
theorem laidOut : laidOutB Try.prog = true := by kernel_rfl

/-- WHAT THE WALK IS TOLD OF A SLICE OF INTEGERS THAT CAME IN: it is nil; or it leads to a row of 'cap' cells, the numbers 'zs' (the first 'len' are its elements, the rest its spare room), each fitting its kind. -/
def IsRow (k : IntKind) (w : World) (a : Option Addr) (len cap : Nat) (zs : List Int) : Prop :=
  (a = none ∧ len = 0 ∧ cap = 0 ∧ zs = []) ∨
  ∃ x, a = some x ∧ len ≤ cap ∧ cap ≤ maxLen ∧ zs.length = cap ∧ (∀ i, i < zs.length → w.cell? (x.add i) = some (.int k (zs.getD i 0))) ∧ ∀ n ∈ zs, (Lit.int k n).wf = true

/-- An array of three ints, opened. -/
theorem open_three {H : Type} {enc : TypeId × Value → H} {W : World} {base : Nat} {sp : Nat → Bool} {held : Bool} {fuel : Nat} {v : Value} {x : DataW H × List MemPlace}
    (h : DataW.trod enc Try.prog W base sp held fuel 23 v.cells.toList = some x) : ∃ x0 x1 x2 : Int, v = .agg #[.int .i64 x0, .int .i64 x1, .int .i64 x2] := by
  obtain ⟨xs, m, _, _, hl, hxs, hi⟩ := DataW.trod_array Try.underlying23 h
  rw [show Try.prog.cellsOf 23 = 3 by kernel_rfl] at hl
  rw [show Try.prog.cellsOf 3 = 1 by kernel_rfl] at hi
  have hv : ∃ cs : Array Value, v = .agg cs := by
    cases v <;> first | exact ⟨_, rfl⟩ | (simp [Value.cells] at hl)
  obtain ⟨cs, rfl⟩ := hv
  simp only [Value.cells] at hl hi
  obtain ⟨l⟩ := cs
  match l, hl with
  | [c0, c1, c2], _ =>
    have g : ∀ (i : Nat) (c : Value), i < 3 → (([c0, c1, c2] : List Value).drop (i * 1)).take 1 = [c] → ∃ n : Int, c = .int .i64 n := by
      intro i c h3 hc
      have := hi i h3
      rw [hc, List.getElem?_eq_getElem (by omega)] at this
      obtain ⟨n, hn, _⟩ := DataW.trod_int Try.underlying3 this
      simp at hn
      exact ⟨n, hn⟩
    obtain ⟨n0, rfl⟩ := g 0 c0 (by omega) rfl
    obtain ⟨n1, rfl⟩ := g 1 c1 (by omega) rfl
    obtain ⟨n2, rfl⟩ := g 2 c2 (by omega) rfl
    exact ⟨n0, n1, n2, rfl⟩

/-! ### the walk -/
set_option maxRecDepth 100000 in
set_option maxHeartbeats 2000000 in
theorem walk (a0 : Option Addr) (len0 cap0 : Nat) (z0 : List Int) (x0 x1 x2 : Int) (w : World) (w0 : IsRow .i64 w a0 len0 cap0 z0) :
    Calls Try.prog 3 #[.slice a0 len0 cap0, .agg #[.int .i64 x0, .int .i64 x1, .int .i64 x2]] w fun e w' => e = .returned (.bool true) ∧ Below w.heap.size w w' := by
  obtain ⟨hrd, hnil, hzl⟩ := isRow_cells w0
  have hbox : Below w.heap.size w (w.alloc (.cells #[.int .i64 x0, .int .i64 x1, .int .i64 x2] 23)) := (Below.refl _ _).alloc (Nat.le_refl _) _
  have HBX := Lib.hid hbox
  clear hbox
  by_cases hlen : 500 < len0
  · have hd : decide ((500 : Int) < (len0 : Int)) = true := by simp; omega
    clear hrd hnil hzl w0
    go_enter Try.func3, Try.ntmps3
    go_wp2_with (go_at_call 8; refine halt_here ?_)
    refine go_on ((alive_any _).mono ?_)
    rintro e w2 ⟨rfl, hb⟩
    go_wp2_with fail
    go_ret
    exact ⟨rfl, HBX.out.trans (hb.mono (by simp))⟩
  · have hd : decide ((500 : Int) < (len0 : Int)) = false := by simp; omega
    have hl2 : len0 ≤ 4611686018427387904 := by omega
    have HRD := Lib.hid (hrd.below HBX.out)
    have HZL := Lib.hid hzl
    clear hrd hzl hnil w0
    generalize z0.take len0 = g at HRD HZL
    have htc : cw g 0 + cw g 1 ≤ len0 := by have := two_counts g; rw [← cw0, ← cw1, HZL.out] at this; exact this
    have hub : cw g 0 ≤ 500 := by omega
    have hvb : cw g 1 ≤ 500 := by omega
    generalize hu : cw g 0 = u at htc hub
    generalize hv : cw g 1 = v at htc hvb
    generalize hc : cw g x0 = c
    generalize hls : loserOf g = ls
    have HU := Lib.hid hu
    have HV := Lib.hid hv
    have HC := Lib.hid hc
    have HS := Lib.hid hls
    clear hu hv hc hls
    have q1 : ((c : Int) == (c : Int)) = true := by simp
    have q2 : (ls == ls) = true := by simp
    go_enter Try.func3, Try.ntmps3
    go_wp2_with fail
    refine wp_region_plan [(0, none), (1, none), (4, none), (5, none), (2, some none), (6, some none), (3, some (some true)), (7, some (some false)), (8, none), (9, none), (10, none), (12, none), (11, some (some false)), (13, some (some false)), (14, none), (15, none), (16, none), (17, none), (19, none), (21, none), (23, none), (25, none), (27, none), (18, some none), (20, some none), (24, some none), (26, some none), (22, some (some true)), (28, some (some false)), (29, none), (30, none), (31, none), (32, some (some false)), (33, none), (34, none)] (by kernel_rfl) (by kernel_rfl) ?_
    repeat (first | (refine plan_free (v := ?_) rfl rfl (fun _ => ?_) (fun K hK => ?_); rotate_left 1; (focus (go_simp <;> exact rfl)); go_simp; refine hK _ _ ?_; clear hK K) | (refine plan_held (v := ?_) rfl rfl ?_ (fun K hK => ?_); rotate_left 1; (focus (go_simp <;> exact rfl)); go_simp; refine hK _ _ ?_; clear hK K) | (refine plan_skip rfl rfl (fun K hK => ?_); go_simp; refine hK _ _ ?_; clear hK K))
    refine plan_effH rfl rfl (fun K hK => ?_)
    go_wp2_with (go_at_call 9; refine halt_here ?_)
    refine go_on ((wins_nat a0 len0 cap0 g x0 _ (drew_cells HRD.out) HZL.out hl2 c HC.out).mono ?_)
    rintro e w2 ⟨rfl, rfl⟩
    go_wp2_with fail
    refine ⟨⟨by go_simp, by go_simp, trivial⟩, ?_⟩
    repeat (first | (refine plan_free (v := ?_) rfl rfl (fun _ => ?_) (fun K hK => ?_); rotate_left 1; (focus (go_simp <;> exact rfl)); go_simp; refine hK _ _ ?_; clear hK K) | (refine plan_held (v := ?_) rfl rfl ?_ (fun K hK => ?_); rotate_left 1; (focus (go_simp <;> exact rfl)); go_simp; refine hK _ _ ?_; clear hK K) | (refine plan_skip rfl rfl (fun K hK => ?_); go_simp; refine hK _ _ ?_; clear hK K))
    refine plan_eff rfl rfl (fun K hK => ?_)
    go_wp2_with (go_at_call 10; refine halt_here ?_)
    refine go_on ((rwins_nat a0 len0 cap0 g x0 _ (drew_cells HRD.out) HZL.out hl2 c HC.out).mono ?_)
    rintro e w2 ⟨rfl, rfl⟩
    go_wp2_with fail
    repeat (first | (refine plan_free (v := ?_) rfl rfl (fun _ => ?_) (fun K hK => ?_); rotate_left 1; (focus (go_simp <;> exact rfl)); go_simp; refine hK _ _ ?_; clear hK K) | (refine plan_held (v := ?_) rfl rfl ?_ (fun K hK => ?_); rotate_left 1; (focus (go_simp <;> exact rfl)); go_simp; refine hK _ _ ?_; clear hK K) | (refine plan_skip rfl rfl (fun K hK => ?_); go_simp; refine hK _ _ ?_; clear hK K))
    refine plan_eff rfl rfl (fun K hK => ?_)
    go_wp2_with (go_at_call 11; refine halt_here ?_)
    refine go_on ((loser_nat a0 len0 cap0 g _ (drew_cells HRD.out) HZL.out hl2 ls HS.out).mono ?_)
    rintro e w2 ⟨rfl, rfl⟩
    go_wp2_with fail
    repeat (first | (refine plan_free (v := ?_) rfl rfl (fun _ => ?_) (fun K hK => ?_); rotate_left 1; (focus (go_simp <;> exact rfl)); go_simp; refine hK _ _ ?_; clear hK K) | (refine plan_held (v := ?_) rfl rfl ?_ (fun K hK => ?_); rotate_left 1; (focus (go_simp <;> exact rfl)); go_simp; refine hK _ _ ?_; clear hK K) | (refine plan_skip rfl rfl (fun K hK => ?_); go_simp; refine hK _ _ ?_; clear hK K))
    refine plan_eff rfl rfl (fun K hK => ?_)
    go_wp2_with (go_at_call 12; refine halt_here ?_)
    refine go_on ((rloser_nat a0 len0 cap0 g _ (drew_cells HRD.out) HZL.out hl2 ls HS.out).mono ?_)
    rintro e w2 ⟨rfl, rfl⟩
    go_wp2_with fail
    repeat (first | (refine plan_free (v := ?_) rfl rfl (fun _ => ?_) (fun K hK => ?_); rotate_left 1; (focus (go_simp <;> exact rfl)); go_simp; refine hK _ _ ?_; clear hK K) | (refine plan_held (v := ?_) rfl rfl ?_ (fun K hK => ?_); rotate_left 1; (focus (go_simp <;> exact rfl)); go_simp; refine hK _ _ ?_; clear hK K) | (refine plan_skip rfl rfl (fun K hK => ?_); go_simp; refine hK _ _ ?_; clear hK K))
    refine plan_effH rfl rfl (fun K hK => ?_)
    go_wp2_with (go_at_call 13; refine halt_here ?_)
    refine go_on ((result_nat x1 x2 a0 len0 cap0 g _ (drew_cells HRD.out) HZL.out hl2 u v HU.out HV.out).mono ?_)
    rintro e w2 ⟨rfl, hb2⟩
    have c1 : w2.cell? ⟨w.heap.size, 1, none⟩ = some (.int .i64 x1) := by rw [hb2.cell (by simp)]; exact blk_cell (heap_alloc_new w _) 1
    have c2 : w2.cell? ⟨w.heap.size, 2, none⟩ = some (.int .i64 x2) := by rw [hb2.cell (by simp)]; exact blk_cell (heap_alloc_new w _) 2
    have HR2 := Lib.hid (CellsAt.below (drew_cells HRD.out) hb2)
    have hbw : Below w.heap.size w w2 := HBX.out.trans ((Below.drew (Below.refl _ _)).trans (hb2.mono (by simp)))
    clear hb2
    go_wp2_with fail
    refine ⟨⟨by go_simp, by go_simp, by go_simp, by go_simp, trivial⟩, ?_⟩
    repeat (first | (refine plan_free (v := ?_) rfl rfl (fun _ => ?_) (fun K hK => ?_); rotate_left 1; (focus (go_simp <;> exact rfl)); go_simp; refine hK _ _ ?_; clear hK K) | (refine plan_held (v := ?_) rfl rfl ?_ (fun K hK => ?_); rotate_left 1; (focus (go_simp <;> exact rfl)); go_simp; refine hK _ _ ?_; clear hK K) | (refine plan_skip rfl rfl (fun K hK => ?_); go_simp; refine hK _ _ ?_; clear hK K))
    refine plan_eff rfl rfl (fun K hK => ?_)
    go_wp2_with (go_at_call 14; refine halt_here ?_)
    refine go_on ((rresult_nat x1 x2 a0 len0 cap0 g _ HR2.out HZL.out hl2 u v HU.out HV.out).mono ?_)
    rintro e w3 ⟨rfl, hb3⟩
    go_wp2_with fail
    repeat (first | (refine plan_free (v := ?_) rfl rfl (fun _ => ?_) (fun K hK => ?_); rotate_left 1; (focus (go_simp <;> exact rfl)); go_simp; refine hK _ _ ?_; clear hK K) | (refine plan_held (v := ?_) rfl rfl ?_ (fun K hK => ?_); rotate_left 1; (focus (go_simp <;> exact rfl)); go_simp; refine hK _ _ ?_; clear hK K) | (refine plan_skip rfl rfl (fun K hK => ?_); go_simp; refine hK _ _ ?_; clear hK K))
    refine plan_eff rfl rfl (fun K hK => ?_)
    go_wp2_with (go_at_call 8; refine halt_here ?_)
    refine go_on ((alive_any _).mono ?_)
    rintro e w4 ⟨rfl, hb4⟩
    go_wp2_with fail
    repeat (first | (refine plan_free (v := ?_) rfl rfl (fun _ => ?_) (fun K hK => ?_); rotate_left 1; (focus (go_simp <;> exact rfl)); go_simp; refine hK _ _ ?_; clear hK K) | (refine plan_held (v := ?_) rfl rfl ?_ (fun K hK => ?_); rotate_left 1; (focus (go_simp <;> exact rfl)); go_simp; refine hK _ _ ?_; clear hK K) | (refine plan_skip rfl rfl (fun K hK => ?_); go_simp; refine hK _ _ ?_; clear hK K))
    refine plan_nil ?_
    go_wp2_with fail
    go_ret
    exact ⟨rfl, hbw.trans ((hb3.mono hbw.size).trans (hb4.mono (Nat.le_trans hbw.size hb3.size)))⟩
theorem lifted (os : Os) (started : os.Started) (H : Type) (enc : TypeId × Value → H) :
    ReturnsInHanded {} Try.checked os 3 .any (Rows.seriesCountsSpec.pre6 enc Try.prog Try.f3 Rows.seriesCountsRow.domain false) (Rows.seriesCountsSpec.post enc Try.prog Try.f3 false true false false) := by
  refine returnsInHanded_of_change (C := Try.checked) own_knob started (by kernel_rfl) Try.func3
    (ChangeSpec.witness6 (enc := enc) (C := Try.checked) false ⟨#[], #[.slice none 0 0, .agg #[.int .i64 0, .int .i64 0, .int .i64 0]], []⟩ 8 (by kernel_rfl) (by kernel_rfl) (by kernel_rfl) (by kernel_rfl)) ?_
  intro W base args ds gs before hval0 hW hcnd _
  have hval : ∀ (j : Nat) t v, Try.f3.params[j]? = some t → args[j]? = some v → Value.okWide Try.prog W .any base t v := hval0
  have hW' := hW
  obtain ⟨p, q, hA0, hV, rfl, hfz, hnd⟩ := hW
  have hA : DataW.TrodAll enc Try.prog W 0 (fun _ => true) true Try.f3.params.toList args.toList ds p := hA0
  rw [Try.params3] at hA hval
  obtain ⟨v0, vs0, d0, ds0, p0, q0, hargs, rfl, rfl, h0, r0⟩ := trodAll_cons hA
  obtain ⟨v1, vs1, d1, ds1, p1, q1, rfl, rfl, rfl, h1, r1⟩ := trodAll_cons r0
  obtain ⟨rfl, rfl, rfl⟩ := trodAll_nil r1
  obtain rfl : args = #[v0, v1] := by cases args; simp_all
  obtain ⟨rfl, rfl⟩ := trodVars_none hV
  obtain ⟨a0, len0, cap0, rfl⟩ := okWide_slice Try.underlying22 (hval 0 22 v0 rfl rfl)
  have k0 := h0
  have lt0 : ∀ x ∈ p0, x.block < W.heap.size := by obtain ⟨m, hm⟩ := k0; exact DataW.trod_lt m _ _ _ hm
  obtain ⟨z0, w0⟩ : ∃ zs, IsRow .i64 W a0 len0 cap0 zs := by
    obtain ⟨fuel, hf⟩ := h0
    rcases open_ints Try.underlying22 Try.underlying3 (by kernel_rfl) hf with ⟨hcs, _⟩ | ⟨x, l, c, zs, hcs, _, hl, hm, hz, _, hcell, hwz⟩
    · simp [Value.cells] at hcs
      obtain ⟨rfl, rfl, rfl⟩ := hcs
      exact ⟨[], .inl ⟨rfl, rfl, rfl, rfl⟩⟩
    · simp [Value.cells] at hcs
      obtain ⟨rfl, rfl, rfl⟩ := hcs
      exact ⟨zs, .inr ⟨_, rfl, hl, hm, by simpa using hz, hcell, hwz⟩⟩
  have k1 := h1
  have lt1 : ∀ x ∈ p1, x.block < W.heap.size := by obtain ⟨m, hm⟩ := k1; exact DataW.trod_lt m _ _ _ hm
  obtain ⟨x0, x1, x2, rfl⟩ : ∃ x0 x1 x2 : Int, v1 = .agg #[.int .i64 x0, .int .i64 x1, .int .i64 x2] := by
    obtain ⟨fuel, hf⟩ := h1
    exact open_three hf
  clear hA0 hval0
  refine (walk a0 len0 cap0 z0 x0 x1 x2 W w0).mono fun e W' ⟨he, bel⟩ => ?_
  subst he
  exact ⟨_, rfl, _, _, _, [], _, [], hW', trodAll_mk1 (shut_bool Try.underlying4 _), (trodAll_cons_mk (Below.trod laidOut (by kernel_rfl) (of_decide_eq_true (by kernel_rfl)) k0 bel lt0) (trodAll_cons_mk (Below.trod laidOut (by kernel_rfl) (of_decide_eq_true (by kernel_rfl)) k1 bel lt1) trodAll_mk0)), rfl, bel.frame _, fun h => by cases h⟩

theorem over : Rows.seriesCountsRow.holds Try.pinned (OpenSpec.ofChange Rows.seriesCountsSpec) :=
  OpenClaim.holds_of_wide 3 Try.f3 rfl rfl rfl rfl rfl rfl rfl ⟨rfl, rfl, rfl, rfl, rfl⟩ rfl rfl rfl rfl rfl (by kernel_rfl) Try.func3 (by kernel_rfl)
    (of_decide_eq_true (by kernel_rfl)) (by unfold Func.isWrapper; first | (rw [if_pos (by decide +kernel)]; kernel_rfl) | (rw [if_neg (by decide +kernel)]; exact ⟨rfl, rfl⟩))
    (fun os started H enc _ => lifted os started H enc)

theorem proved : Rows.SeriesCountsSaid := over
#print axioms proved
end Go.Proofs.Ytclhahmnllegpaa.seriesCounts
