/-
  Decode returns the state that the reference returns, or its first error (at most 8000 bytes); the chapter's examples hold; no condition.
-/
import Derived.Test.YtbcpdjhpceimlaaRows
import Derived.SizedLaws
import Derived.Test.YtbcpdjhpceimlaaPLib2
import Derived.Test.YtbcpdjhpceimlaaSch
import Derived.Test.YtbcpdjhpceimlaaAlive
import Derived.Test.YtbcpdjhpceimlaaRefDec3
import Derived.WalkKit
import Derived.ProofKit
import Derived.OpenShut
import Derived.ShutString
import Derived.ChangeOld
import Derived.Below
namespace Go.Proofs.Ytbcpdjhpceimlaa.packDecode
open Go.ChangeShapes Go.WideShapes Go.ChangeAt Go.RowKit Go.Deep
open Go.ChangeMaps (open_string shut_string)
set_option linter.unusedVariables false

theorem own_knob : ownKnob Try.prog.godebug = none := by kernel_rfl
theorem bytes_5 : Try.prog.bytesOf 5 = 1 := by kernel_rfl
theorem laidOut : laidOutB Try.prog = true := by kernel_rfl

/-- What the walk is told of a slice of integers that came in: it is nil; or it leads to a row of 'cap' cells, the numbers 'zs' (the first 'len' are its elements, the rest its spare room), each fitting its kind. -/
def IsRow (k : IntKind) (w : World) (a : Option Addr) (len cap : Nat) (zs : List Int) : Prop :=
  (a = none ∧ len = 0 ∧ cap = 0 ∧ zs = []) ∨
  ∃ x, a = some x ∧ len ≤ cap ∧ cap ≤ maxLen ∧ zs.length = cap ∧ (∀ i, i < zs.length → w.cell? (x.add i) = some (.int k (zs.getD i 0))) ∧ ∀ n ∈ zs, (Lit.int k n).wf = true

/-! ### the walk -/
set_option maxRecDepth 100000 in
set_option maxHeartbeats 4000000 in
theorem walk (a0 : Option Addr) (len0 cap0 : Nat) (z0 : List Int) (w : World) (w0 : IsRow .u8 w a0 len0 cap0 z0) (s0 : len0 * 1 ≤ 140737488351232) :
    Calls Try.prog 11 #[.slice a0 len0 cap0] w fun e w' => e = .returned (.bool true) ∧ Below w.heap.size w w' := by
  obtain ⟨hrd, hnil, hzl⟩ := isRow_cells w0
  obtain ⟨hlc, hwf⟩ := isRow_wf w0
  obtain ⟨bs, hbl, hbe⟩ := bytes_of (z0.take len0) hwf
  rw [hbe] at hrd
  have HL := Lib.hid (hbl.trans hzl)
  have HN := Lib.hid hnil
  have HRD := Lib.hid hrd
  clear hrd hnil hzl hwf hbe hbl w0
  go_enter Try.func11, Try.ntmps11
  by_cases hlen : 8000 < len0
  · go_wp2_with (go_at_call 15; refine halt_here ?_)
    refine go_on ((palive_any w).mono ?_)
    rintro e w3 ⟨rfl, hb3⟩
    go_wp2_with fail
    go_ret
    exact ⟨rfl, hb3⟩
  go_wp2_with (go_at_call 17; refine halt_here ?_)
  refine go_on ((Decode_any a0 len0 cap0 bs w HRD.out HN.out HL.out (by omega)).mono ?_)
  rintro e w4 hd
  obtain ⟨us, rfl, hus, hb4⟩ := hd.all
  have hal : Below w4.heap.size w4 (w4.alloc (.cells us 30)) := (Below.refl _ _).alloc (Nat.le_refl _) _
  have HB5 := Lib.hid (hb4.trans (hal.mono hb4.size))
  have HUS5 := Lib.hid (RowRep.under hus hal)
  have HUB := Lib.hid (heap_alloc_new w4 (.cells us 30))
  have HUL := Lib.hid (row_size hus)
  have HUI := Lib.hid (show (Try.prog.info? 30).map (·.size) = some us.size by rw [HUL.out]; exact size30)
  have HONE := Lib.hid (show us.all (·.oneCell') = true by have h := all_oneCell_toArray (row_one hus); simpa using h)
  clear hd hus hb4 hal
  go_wp2_with (with_reducible refine wpList_halt_store 30 _ _ ?_)
  refine go_on (wpList_store_new rfl 30 (.tmp 3) (.tmp 14) rfl _ us rfl rfl HUI.out (by rw [HUL.out]; rfl) HONE.out ?_)
  obtain ⟨g, hg⟩ : ∃ g, w4.heap.size = g := ⟨_, rfl⟩
  rw [hg] at HUB
  rw [hg]
  clear hg HONE HUL
  generalize w4.alloc (.cells us 30) = w5 at HUS5 HB5 HUB
  have HRD5 := Lib.hid (HRD.out.below HB5.out)
  go_wp2_with (go_at_call 37; refine halt_here ?_)
  refine go_on ((RDecode_any a0 len0 cap0 bs w5 HRD5.out HN.out HL.out (by omega)).mono ?_)
  rintro e w6 hd
  obtain ⟨us2, rfl, hus2, hb6⟩ := hd.all
  generalize hdv : (DecV bs).2 = dc
  clear hdv
  have hal : Below w6.heap.size w6 (w6.alloc (.cells us2 30)) := (Below.refl _ _).alloc (Nat.le_refl _) _
  have HB7 := Lib.hid ((HB5.out.trans (hb6.mono HB5.out.size)).trans (hal.mono (Nat.le_trans HB5.out.size hb6.size)))
  have HUS7 := Lib.hid (RowRep.under (RowRep.under HUS5.out.old hb6) hal)
  have HUB7 := Lib.hid ((hal.block _ (Nat.lt_of_lt_of_le (blk_lt HUB.out) hb6.size)).trans ((hb6.block _ (blk_lt HUB.out)).trans HUB.out))
  have HVS := Lib.hid (RowRep.under hus2 hal)
  have HVB := Lib.hid (heap_alloc_new w6 (.cells us2 30))
  have HVL := Lib.hid (row_size hus2)
  have HVI := Lib.hid (show (Try.prog.info? 30).map (·.size) = some us2.size by rw [HVL.out]; exact size30)
  have HONE := Lib.hid (show us2.all (·.oneCell') = true by have h := all_oneCell_toArray (row_one hus2); simpa using h)
  clear hd hus2 hb6 hal HB5 HUS5 HUB HRD5 HRD HN
  go_wp2_with (with_reducible refine wpList_halt_store 30 _ _ ?_)
  refine go_on (wpList_store_new rfl 30 (.tmp 5) (.tmp 19) rfl _ us2 rfl rfl HVI.out (by rw [HVL.out]; rfl) HONE.out ?_)
  obtain ⟨g2, hg⟩ : ∃ g2, w6.heap.size = g2 := ⟨_, rfl⟩
  rw [hg] at HVB
  rw [hg]
  clear hg HONE HVL
  generalize w6.alloc (.cells us2 30) = w7 at HB7 HUS7 HUB7 HVS HVB
  go_wp2_with (with_reducible refine wpList_stop_load 30 _ ?_)
  refine go_on (wpList_load_whole rfl 30 (.tmp 3) rfl g rfl us _ HUB7.out Try.underlying30 rfl HUI.out ?_)
  go_wp2_with (with_reducible refine wpList_stop_load 30 _ ?_)
  refine go_on (wpList_load_whole rfl 30 (.tmp 5) rfl g2 rfl us2 _ HVB.out Try.underlying30 rfl HVI.out ?_)
  go_wp2_with (go_at_call 38; refine halt_here ?_)
  refine go_on ((sameS_any _ us us2 w7 HUS7.out HVS.out).mono ?_)
  rintro e w8 ⟨rfl, hb8⟩
  have HB8 := Lib.hid (HB7.out.trans (hb8.mono HB7.out.size))
  clear hb8 HUS7 HUB7 HVS HVB HB7
  go_wp2_with (go_at_call 15; refine halt_here ?_)
  refine go_on ((palive_any w8).mono ?_)
  rintro e w9 ⟨rfl, hb9⟩
  have HB9 := Lib.hid (HB8.out.trans (hb9.mono HB8.out.size))
  clear hb9
  go_wp2_with fail
  go_ret
  exact ⟨rfl, HB9.out⟩

/-! ### the row -/
set_option maxRecDepth 100000 in
theorem lifted (os : Os) (started : os.Started) (H : Type) (enc : TypeId × Value → H) :
    ReturnsInHanded {} Try.checked os 11 .any (Rows.packDecodeSpec.pre6 enc Try.prog Try.f11 Rows.packDecodeRow.domain false) (Rows.packDecodeSpec.post enc Try.prog Try.f11 false true false false) := by
  refine returnsInHanded_of_change_sized (C := Try.checked) own_knob started (by kernel_rfl) Try.func11
    (ChangeSpec.witness6 (enc := enc) (C := Try.checked) false ⟨#[], #[.slice none 0 0], []⟩ 8 (by kernel_rfl) (by kernel_rfl) (by kernel_rfl) (by kernel_rfl)) ?_
  intro W base args ds gs before hval0 hW hcnd hsz0 _
  have hsz : (DataW.weightsEach Try.prog (Try.f11.params.toList ++ Rows.packDecodeSpec.plain.varTypes Try.prog) (ds ++ gs)).all (· ≤ reachBytes) = true := hsz0
  clear hsz0
  have hval : ∀ (j : Nat) t v, Try.f11.params[j]? = some t → args[j]? = some v → Value.okWide Try.prog W .any base t v := hval0
  have hW' := hW
  obtain ⟨p, q, hA0, hV, rfl, hfz, hnd⟩ := hW
  have hA : DataW.TrodAll enc Try.prog W 0 (fun _ => true) true Try.f11.params.toList args.toList ds p := hA0
  rw [Try.params11] at hA hval hsz
  obtain ⟨v0, vs0, d0, ds0, p0, q0, hargs, rfl, rfl, h0, r0⟩ := trodAll_cons hA
  obtain ⟨rfl, rfl, rfl⟩ := trodAll_nil r0
  obtain rfl : args = #[v0] := by cases args; simp_all
  obtain ⟨rfl, rfl⟩ := trodVars_none hV
  have k0 := h0
  have lt0 : ∀ x ∈ p0, x.block < W.heap.size := by obtain ⟨m, hm⟩ := k0; exact DataW.trod_lt m _ _ _ hm
  obtain ⟨a0, len0, cap0, rfl⟩ := okWide_slice Try.underlying34 (hval 0 34 v0 rfl rfl)
  obtain ⟨z0, w0, s0⟩ : ∃ zs, IsRow .u8 W a0 len0 cap0 zs ∧ len0 * 1 ≤ 140737488351232 := by
    obtain ⟨fuel, hf⟩ := h0
    rcases open_ints Try.underlying34 Try.underlying5 (by kernel_rfl) hf with ⟨hcs, _⟩ | ⟨x, l, c, zs, hcs, _, hl, hm, hz, hx, hcell, hwz⟩
    · simp [Value.cells] at hcs
      obtain ⟨rfl, rfl, rfl⟩ := hcs
      exact ⟨[], .inl ⟨rfl, rfl, rfl, rfl⟩, by omega⟩
    · simp [Value.cells] at hcs
      obtain ⟨rfl, rfl, rfl⟩ := hcs
      have hz2 := hz
      simp only [if_true] at hz2
      simp only [Prod.mk.injEq] at hx
      have hb := sized_slice hsz (j := 0) (t := 34) (e := 5) rfl (by rw [hx.1]; rfl) Try.underlying34
      rw [bytes_5] at hb
      simp only [lits, List.length_map, List.length_take, List.length_drop, reachBytes] at hb
      exact ⟨zs, .inr ⟨_, rfl, hl, hm, hz2, hcell, hwz⟩, by omega⟩
  clear hA0 hval0
  refine (walk a0 len0 cap0 z0 W w0 s0).mono fun e W' ⟨he, bel⟩ => ?_
  subst he
  exact ⟨_, rfl, _, _, _, [], _, [], hW', trodAll_mk1 (shut_bool Try.underlying4 _), (trodAll_cons_mk (Below.trod laidOut (by kernel_rfl) (of_decide_eq_true (by kernel_rfl)) k0 bel lt0) trodAll_mk0), rfl, bel.frame _, fun h => by cases h⟩

theorem over : Rows.packDecodeRow.holds Try.pinned (OpenSpec.ofChange Rows.packDecodeSpec) :=
  OpenClaim.holds_of_wide 11 Try.f11 rfl rfl rfl rfl rfl rfl rfl ⟨rfl, rfl, rfl, rfl, rfl⟩ rfl rfl rfl rfl rfl (by kernel_rfl) Try.func11 (by kernel_rfl)
    (of_decide_eq_true (by kernel_rfl)) (by unfold Func.isWrapper; first | (rw [if_pos (by decide +kernel)]; kernel_rfl) | (rw [if_neg (by decide +kernel)]; exact ⟨rfl, rfl⟩))
    (fun os started H enc _ => lifted os started H enc)

theorem proved : Rows.PackDecodeSaid := over
#print axioms proved
end Go.Proofs.Ytbcpdjhpceimlaa.packDecode
