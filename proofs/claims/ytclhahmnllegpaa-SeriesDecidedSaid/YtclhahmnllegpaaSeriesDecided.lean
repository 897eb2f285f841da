/-
  Whatever the games, the games that follow, and best: what series.Decided decides stays decided in the same way, where there are at most 500 games, and the chapter's examples hold; no condition.
-/
import Derived.Test.YtclhahmnllegpaaRows
import Derived.SizedLaws
import Derived.Test.YtclhahmnllegpaaAlive
import Derived.Test.YtclhahmnllegpaaRef
import Derived.WalkKit
import Derived.ProofKit
import Derived.OpenShut
import Derived.ShutString
import Derived.ChangeOld
import Derived.Below
namespace Go.Proofs.Ytclhahmnllegpaa.seriesDecided
open Go.ChangeShapes Go.WideShapes Go.ChangeAt Go.RowKit
open Go.ChangeMaps (open_string shut_string)
set_option linter.unusedVariables false

theorem own_knob : ownKnob Try.prog.godebug = none := by kernel_rfl
theorem bytes_3 : Try.prog.bytesOf 3 = 8 := by kernel_rfl
theorem laidOut : laidOutB Try.prog = true := by kernel_rfl

/-- WHAT THE WALK IS TOLD OF A SLICE OF INTEGERS THAT CAME IN: it is nil; or it leads to a row of 'cap' cells, the numbers 'zs' (the first 'len' are its elements, the rest its spare room), each fitting its kind. -/
def IsRow (k : IntKind) (w : World) (a : Option Addr) (len cap : Nat) (zs : List Int) : Prop :=
  (a = none ∧ len = 0 ∧ cap = 0 ∧ zs = []) ∨
  ∃ x, a = some x ∧ len ≤ cap ∧ cap ≤ maxLen ∧ zs.length = cap ∧ (∀ i, i < zs.length → w.cell? (x.add i) = some (.int k (zs.getD i 0))) ∧ ∀ n ∈ zs, (Lit.int k n).wf = true

/-! ### the walk -/
set_option maxRecDepth 100000 in
set_option maxHeartbeats 2000000 in
theorem walk (a0 : Option Addr) (len0 cap0 : Nat) (z0 : List Int) (a1 : Option Addr) (len1 cap1 : Nat) (z1 : List Int) (a2 : Int) (w : World) (w0 : IsRow .i64 w a0 len0 cap0 z0) (w1 : IsRow .i64 w a1 len1 cap1 z1) (w2 : (Lit.int .i64 a2).wf = true) (s0 : len0 * 8 ≤ 140737488351232) (s1 : len1 * 8 ≤ 140737488351232) :
    Calls Try.prog 5 #[.slice a0 len0 cap0, .slice a1 len1 cap1, .int .i64 a2] w fun e w' => e = .returned (.bool true) ∧ Below w.heap.size w w' := by
  obtain ⟨hrd0, hnil0, hzl0⟩ := isRow_cells w0
  obtain ⟨hrd1, hnil1, hzl1⟩ := isRow_cells w1
  have hbb := (bounds_i64 w2).2
  by_cases hlen : 500 < len0 + len1
  · have hd : decide ((500 : Int) < (len0 : Int) + (len1 : Int)) = true := by simp; omega
    clear hrd0 hrd1 hnil0 hnil1 hzl0 hzl1 w0 w1
    go_enter Try.func5, Try.ntmps5
    go_wp2_with (first | (go_at_call 8; refine (alive_any _).mono ?_; rintro e w2 ⟨rfl, hb⟩))
    go_ret
    exact ⟨rfl, hb⟩
  · have hd : decide ((500 : Int) < (len0 : Int) + (len1 : Int)) = false := by simp; omega
    have hl2 : len0 ≤ 4611686018427387904 := by omega
    have hl3 : len0 + len1 ≤ 500 := by omega
    obtain ⟨i0, hi, hz0, hz1, hz2⟩ := info_parts info3
    have HR0 := Lib.hid hrd0
    have HR1 := Lib.hid hrd1
    have HZ0 := Lib.hid hzl0
    have HZ1 := Lib.hid hzl1
    have HN0 := Lib.hid hnil0
    have HN1 := Lib.hid hnil1
    have HBB := Lib.hid hbb
    have hmx : ∀ x : Int, 1 ≤ x → max x 1 = x := fun x h => by omega
    have HMX := Lib.hid hmx
    clear hrd0 hrd1 hnil0 hnil1 hzl0 hzl1 w0 w1 hbb hmx
    generalize z0.take len0 = g at HR0 HZ0
    generalize z1.take len1 = l at HR1 HZ1
    have HGL := Lib.hid (show (g ++ l).length = len0 + len1 by rw [List.length_append, HZ0.out, HZ1.out])
    go_enter Try.func5, Try.ntmps5
    go_wp2_with (first
      | (go_at_call 15; refine (decided_any a2 a0 len0 cap0 g _ HR0.out HZ0.out hl2 HBB.out).mono ?_; rintro e w2 ⟨p, ok, rfl, hdp, hb2⟩; have HDP := Lib.hid hdp; clear hdp)
      | (refine wpList_wp rfl (fun K hK => ?_); refine wp_append (.tmp 25) (.tmp 26) 22 rfl w2.heap.size 3 i0 (.int .i64 0) 1 8 Try.underlying22 hi hz0 hz1 hz2 rfl (by decide) _ 0 [] rfl (World.ownsRow_lit _ #[] 0 (Nat.le_refl _) (by decide) rfl) _ len0 (g.map (Value.int .i64)) rfl ⟨_, _, rfl, HR0.out.below (hb2.trans ((Below.refl _ _).alloc hb2.size _))⟩ ?g3 ?g4 one_int ?g5 ?g6 ?g7 ?g8))
    case g3 => intro cap hc; cases hc; exact (HN0.out rfl).2
    case g4 => rw [List.length_map, HZ0.out]; omega
    case g5 => unfold maxLen; omega
    case g6 => omega
    case g7 => simp
    case g8 =>
    intro v3 w3 how3 hgr3
    refine hK _ _ ?_
    clear hK K
    have hb3 : Below w2.heap.size w2 w3 := ((Below.refl _ _).alloc (Nat.le_refl _) _).grown hgr3 (by simp) (fun k hk => by simp [Value.ownBlock] at hk; omega)
    have HW3 := Lib.hid how3
    clear how3 hgr3
    go_wp2_with (refine wpList_wp rfl (fun K hK => ?_); refine wp_append (.tmp 27) (.tmp 28) 22 rfl w2.heap.size 3 i0 (.int .i64 0) 1 8 Try.underlying22 hi hz0 hz1 hz2 rfl (by decide) _ _ _ rfl HW3.out _ len1 (l.map (Value.int .i64)) rfl ⟨_, _, rfl, HR1.out.below (hb2.trans (hb3.mono hb2.size))⟩ ?k3 ?k4 one_int ?k5 ?k6 ?k7 ?k8)
    case k3 => intro cap hc; cases hc; exact (HN1.out rfl).2
    case k4 => rw [List.length_map, HZ1.out]; omega
    case k5 => unfold maxLen; omega
    case k6 => omega
    case k7 => exact hb3.size
    case k8 =>
    intro v4 w4 how4 hgr4
    have hb4 : Below w2.heap.size w2 w4 := hb3.grown hgr4 hb3.size (fun k hk => (HW3.out.lt k hk).1)
    obtain ⟨a4, c4, rfl, hc4⟩ := ownsRow_rd how4
    have hc5 : CellsAt w4 a4 ((g ++ l).map (Value.int .i64)) := by rw [List.map_append]; simpa using hc4
    have HC5 := Lib.hid hc5
    refine hK _ _ ?_
    clear hK K how4 hgr4 HW3 hb3 hc4 hc5
    have hl4 : len0 + len1 ≤ 4611686018427387904 := by omega
    cases ok with
    | true =>
      have q1 : (p == p) = true := by simp
      go_wp2_with (first
        | (go_at_call 15; refine (decided_any a2 a4 (len0 + len1) c4 (g ++ l) _ HC5.out HGL.out hl4 HBB.out).mono ?_; rintro e w5 ⟨q, is, rfl, hdq, hb5⟩; obtain ⟨rfl, rfl⟩ := decR_one (decR_more (l := l) HDP.out) hdq; clear hdq)
        | (go_at_call 8; refine (alive_any _).mono ?_; rintro e w6 ⟨rfl, hb6⟩))
      go_ret
      exact ⟨rfl, hb2.trans ((hb4.mono hb2.size).trans ((hb5.mono (Nat.le_trans hb2.size hb4.size)).trans (hb6.mono (Nat.le_trans hb2.size (Nat.le_trans hb4.size hb5.size)))))⟩
    | false =>
      obtain ⟨hp, hlt⟩ := decR_no (Int.le_max_right _ _) HDP.out
      rw [HZ0.out] at hlt
      subst hp
      have HLT := Lib.hid hlt
      clear hlt
      by_cases h1 : a2 < 1
      · have hlt2 : (len0 : Int) < 1 := by have := HLT.out; omega
        go_wp2_with (first
          | (go_at_call 15; refine (decided_any a2 a4 (len0 + len1) c4 (g ++ l) _ HC5.out HGL.out hl4 HBB.out).mono ?_; rintro e w5 ⟨q, is, rfl, hdq, hb5⟩; clear hdq)
          | (go_at_call 8; refine (alive_any _).mono ?_; rintro e w6 ⟨rfl, hb6⟩))
        go_ret
        exact ⟨rfl, hb2.trans ((hb4.mono hb2.size).trans ((hb5.mono (Nat.le_trans hb2.size hb4.size)).trans (hb6.mono (Nat.le_trans hb2.size (Nat.le_trans hb4.size hb5.size)))))⟩
      · have hlt2 : (len0 : Int) < a2 := by have := HLT.out; rw [HMX.out _ (by omega)] at this; exact this
        go_wp2_with (first
          | (go_at_call 15; refine (decided_any a2 a4 (len0 + len1) c4 (g ++ l) _ HC5.out HGL.out hl4 HBB.out).mono ?_; rintro e w5 ⟨q, is, rfl, hdq, hb5⟩; clear hdq)
          | (go_at_call 8; refine (alive_any _).mono ?_; rintro e w6 ⟨rfl, hb6⟩))
        go_ret
        exact ⟨rfl, hb2.trans ((hb4.mono hb2.size).trans ((hb5.mono (Nat.le_trans hb2.size hb4.size)).trans (hb6.mono (Nat.le_trans hb2.size (Nat.le_trans hb4.size hb5.size)))))⟩

/-! ### the row -/
set_option maxRecDepth 100000 in
theorem lifted (os : Os) (started : os.Started) (H : Type) (enc : TypeId × Value → H) :
    ReturnsInHanded {} Try.checked os 5 .any (Rows.seriesDecidedSpec.pre6 enc Try.prog Try.f5 Rows.seriesDecidedRow.domain false) (Rows.seriesDecidedSpec.post enc Try.prog Try.f5 false true false false) := by
  refine returnsInHanded_of_change_sized (C := Try.checked) own_knob started (by kernel_rfl) Try.func5
    (ChangeSpec.witness6 (enc := enc) (C := Try.checked) false ⟨#[], #[.slice none 0 0, .slice none 0 0, .int .i64 0], []⟩ 8 (by kernel_rfl) (by kernel_rfl) (by kernel_rfl) (by kernel_rfl)) ?_
  intro W base args ds gs before hval0 hW hcnd hsz0 _
  have hsz : (DataW.weightsEach Try.prog (Try.f5.params.toList ++ Rows.seriesDecidedSpec.plain.varTypes Try.prog) (ds ++ gs)).all (· ≤ reachBytes) = true := hsz0
  clear hsz0
  have hval : ∀ (j : Nat) t v, Try.f5.params[j]? = some t → args[j]? = some v → Value.okWide Try.prog W .any base t v := hval0
  have hW' := hW
  obtain ⟨p, q, hA0, hV, rfl, hfz, hnd⟩ := hW
  have hA : DataW.TrodAll enc Try.prog W 0 (fun _ => true) true Try.f5.params.toList args.toList ds p := hA0
  rw [Try.params5] at hA hval hsz
  obtain ⟨v0, vs0, d0, ds0, p0, q0, hargs, rfl, rfl, h0, r0⟩ := trodAll_cons hA
  obtain ⟨v1, vs1, d1, ds1, p1, q1, rfl, rfl, rfl, h1, r1⟩ := trodAll_cons r0
  obtain ⟨v2, vs2, d2, ds2, p2, q2, rfl, rfl, rfl, h2, r2⟩ := trodAll_cons r1
  obtain ⟨rfl, rfl, rfl⟩ := trodAll_nil r2
  obtain rfl : args = #[v0, v1, v2] := by cases args; simp_all
  obtain ⟨rfl, rfl⟩ := trodVars_none hV
  obtain ⟨a0, len0, cap0, rfl⟩ := okWide_slice Try.underlying22 (hval 0 22 v0 rfl rfl)
  have k0 := h0
  have lt0 : ∀ x ∈ p0, x.block < W.heap.size := by obtain ⟨m, hm⟩ := k0; exact DataW.trod_lt m _ _ _ hm
  obtain ⟨z0, w0, s0⟩ : ∃ zs, IsRow .i64 W a0 len0 cap0 zs ∧ len0 * 8 ≤ 140737488351232 := by
    obtain ⟨fuel, hf⟩ := h0
    rcases open_ints Try.underlying22 Try.underlying3 (by kernel_rfl) hf with ⟨hcs, _⟩ | ⟨x, l, c, zs, hcs, _, hl, hm, hz, hx, hcell, hwz⟩
    · simp [Value.cells] at hcs
      obtain ⟨rfl, rfl, rfl⟩ := hcs
      exact ⟨[], .inl ⟨rfl, rfl, rfl, rfl⟩, by omega⟩
    · simp [Value.cells] at hcs
      obtain ⟨rfl, rfl, rfl⟩ := hcs
      have hz2 := hz
      simp only [if_true] at hz2
      simp only [Prod.mk.injEq] at hx
      have hb := sized_slice hsz (j := 0) (t := 22) (e := 3) rfl (by rw [hx.1]; rfl) Try.underlying22
      rw [bytes_3] at hb
      simp only [lits, List.length_map, List.length_take, List.length_drop, reachBytes] at hb
      exact ⟨zs, .inr ⟨_, rfl, hl, hm, hz2, hcell, hwz⟩, by omega⟩
  obtain ⟨a1, len1, cap1, rfl⟩ := okWide_slice Try.underlying22 (hval 1 22 v1 rfl rfl)
  have k1 := h1
  have lt1 : ∀ x ∈ p1, x.block < W.heap.size := by obtain ⟨m, hm⟩ := k1; exact DataW.trod_lt m _ _ _ hm
  obtain ⟨z1, w1, s1⟩ : ∃ zs, IsRow .i64 W a1 len1 cap1 zs ∧ len1 * 8 ≤ 140737488351232 := by
    obtain ⟨fuel, hf⟩ := h1
    rcases open_ints Try.underlying22 Try.underlying3 (by kernel_rfl) hf with ⟨hcs, _⟩ | ⟨x, l, c, zs, hcs, _, hl, hm, hz, hx, hcell, hwz⟩
    · simp [Value.cells] at hcs
      obtain ⟨rfl, rfl, rfl⟩ := hcs
      exact ⟨[], .inl ⟨rfl, rfl, rfl, rfl⟩, by omega⟩
    · simp [Value.cells] at hcs
      obtain ⟨rfl, rfl, rfl⟩ := hcs
      have hz2 := hz
      simp only [if_true] at hz2
      simp only [Prod.mk.injEq] at hx
      have hb := sized_slice hsz (j := 1) (t := 22) (e := 3) rfl (by rw [hx.1]; rfl) Try.underlying22
      rw [bytes_3] at hb
      simp only [lits, List.length_map, List.length_take, List.length_drop, reachBytes] at hb
      exact ⟨zs, .inr ⟨_, rfl, hl, hm, hz2, hcell, hwz⟩, by omega⟩
  obtain ⟨a2, rfl, rfl, rfl, w2⟩ := open_int Try.underlying3 (hval 2 3 v2 rfl rfl) h2
  clear hA0 hval0
  refine (walk a0 len0 cap0 z0 a1 len1 cap1 z1 a2 W w0 w1 w2 s0 s1).mono fun e W' ⟨he, bel⟩ => ?_
  subst he
  exact ⟨_, rfl, _, _, _, [], _, [], hW', trodAll_mk1 (shut_bool Try.underlying4 _), (trodAll_cons_mk (Below.trod laidOut (by kernel_rfl) (of_decide_eq_true (by kernel_rfl)) k0 bel lt0) (trodAll_cons_mk (Below.trod laidOut (by kernel_rfl) (of_decide_eq_true (by kernel_rfl)) k1 bel lt1) (trodAll_cons_mk (shut_int Try.underlying3 w2) trodAll_mk0))), rfl, bel.frame _, fun h => by cases h⟩

theorem over : Rows.seriesDecidedRow.holds Try.pinned (OpenSpec.ofChange Rows.seriesDecidedSpec) :=
  OpenClaim.holds_of_wide 5 Try.f5 rfl rfl rfl rfl rfl rfl rfl ⟨rfl, rfl, rfl, rfl, rfl⟩ rfl rfl rfl rfl rfl (by kernel_rfl) Try.func5 (by kernel_rfl)
    (of_decide_eq_true (by kernel_rfl)) (by unfold Func.isWrapper; first | (rw [if_pos (by decide +kernel)]; kernel_rfl) | (rw [if_neg (by decide +kernel)]; exact ⟨rfl, rfl⟩))
    (fun os started H enc _ => lifted os started H enc)

theorem proved : Rows.SeriesDecidedSaid := over
#print axioms proved
end Go.Proofs.Ytclhahmnllegpaa.seriesDecided
