/-
  Decode inverts Encode at every small state; the chapter's examples hold; no condition.
-/
import Derived.Test.YtbcpdjhpceimlaaRows
import Derived.SizedLaws
import Derived.Test.YtbcpdjhpceimlaaPLib2
import Derived.Test.YtbcpdjhpceimlaaSch
import Derived.WalkKit
import Derived.ProofKit
import Derived.OpenShut
import Derived.ShutString
import Derived.ChangeOld
import Derived.Below
namespace Go.Proofs.Ytbcpdjhpceimlaa.packBack
open Go.ChangeShapes Go.WideShapes Go.ChangeAt Go.RowKit Go.Deep
open Go.ChangeMaps (open_string shut_string)
set_option linter.unusedVariables false

theorem own_knob : ownKnob Try.prog.godebug = none := by kernel_rfl
theorem laidOut : laidOutB Try.prog = true := by kernel_rfl

/-! ### the walk -/
set_option maxRecDepth 100000 in
set_option maxHeartbeats 4000000 in
theorem walk (cs0 : Array Value) (x0 : List V) (w : World) (w0 : RowRep (Old w) w stateS x0 cs0.toList) :
    Calls Try.prog 12 #[.agg cs0] w fun e w' => e = .returned (.bool true) ∧ Below w.heap.size w w' := by
  have hsz := row_size w0
  have HR := Lib.hid w0
  have HSZ := Lib.hid hsz
  have HI := Lib.hid (show (Try.prog.info? 30).map (·.size) = some cs0.size by rw [hsz]; exact size30)
  have HBK := Lib.hid (heap_alloc_new w (.cells cs0 30))
  have HB1 := Lib.hid (show Below w.heap.size w (w.alloc (.cells cs0 30)) from (Below.refl _ _).alloc (Nat.le_refl _) _)
  clear w0 hsz
  go_enter Try.func12, Try.ntmps12
  go_wp2_with (with_reducible refine wpList_halt_load 30 _ ?_)
  refine go_on (wpList_load_blk rfl 30 (.tmp 1) rfl w.heap.size rfl cs0 _ HBK.out Try.underlying30 rfl HI.out ?_)
  go_wp2_with (go_at_call 14; refine halt_here ?_)
  refine go_on ((few_any 32 cs0 x0 _ (by omega) (HR.out.later HB1.out)).mono ?_)
  rintro e w2 ⟨hb2, b, rfl, hf⟩
  have HBK2 := Lib.hid (show w2.heap[w.heap.size]? = some (.cells cs0 30 (0, 0)) by rw [hb2.block _ (blk_lt HBK.out)]; exact HBK.out)
  have HB2 := Lib.hid (HB1.out.trans (hb2.mono HB1.out.size))
  have HF := Lib.hid hf
  clear hb2 hf HB1 HBK
  cases b with
  | false =>
    go_wp2_with (go_at_call 15; refine halt_here ?_)
    refine go_on ((palive_any w2).mono ?_)
    rintro e w3 ⟨rfl, hb3⟩
    have HB3 := Lib.hid (HB2.out.trans (hb3.mono HB2.out.size))
    clear hb3
    go_wp2_with fail
    go_ret
    exact ⟨rfl, HB3.out⟩
  | true =>
    have hfr := HF.out rfl
    have hble := Nat.le_trans (bndRow_le 32 100 stateS x0 hfr) bnd_state32
    have HBL := Lib.hid hble
    have HOK := Lib.hid (few_okRow stateS x0 hfr)
    clear hfr HF
    go_wp2_with (with_reducible refine wpList_halt_load 30 _ ?_)
    refine go_on (wpList_load_blk rfl 30 (.tmp 1) rfl w.heap.size rfl cs0 _ HBK2.out Try.underlying30 rfl HI.out ?_)
    go_wp2_with (go_at_call 16; refine halt_here ?_)
    refine go_on ((Encode_any cs0 x0 w2 (HR.out.later HB2.out) (by omega)).mono ?_)
    rintro e w3 ⟨a, n, c, rfl, hc, hn, hnil, hcap, hb3⟩
    have hn1 : n ≤ 17000000000000 := by omega
    have HC := Lib.hid hc
    have HN := Lib.hid hn
    have HNI := Lib.hid hnil
    have HBK3 := Lib.hid ((hb3.block _ (blk_lt HBK2.out)).trans HBK2.out)
    have HB3 := Lib.hid (HB2.out.trans (hb3.mono HB2.out.size))
    clear hc hn hnil hb3 hble HB2 HBK2
    go_wp2_with (go_at_call 17; refine halt_here ?_)
    refine go_on ((Decode_any a n c (encRow x0) w3 HC.out HNI.out HN.out (by omega)).mono ?_)
    rintro e w4 hd
    obtain ⟨us, rfl, hus, hb4⟩ := hd.back (v := x0) (by have h := backRow stateS x0 [] HOK.out; rw [List.append_nil] at h; exact h)
    have HB4 := Lib.hid (HB3.out.trans (hb4.mono HB3.out.size))
    have hal : Below w4.heap.size w4 (w4.alloc (.cells us.toArray 30)) := (Below.refl _ _).alloc (Nat.le_refl _) _
    have HBK5 := Lib.hid ((hal.block _ (Nat.lt_of_lt_of_le (blk_lt HBK3.out) hb4.size)).trans ((hb4.block _ (blk_lt HBK3.out)).trans HBK3.out))
    have HUS5 := Lib.hid (show RowRep _ (w4.alloc (.cells us.toArray 30)) stateS x0 us.toArray.toList from by have h := RowRep.under hus hal; simpa using h)
    have HR5 := Lib.hid (HR.out.later ((HB4.out).trans (hal.mono HB4.out.size)))
    have HB5 := Lib.hid (HB4.out.trans (hal.mono HB4.out.size))
    have HUB := Lib.hid (heap_alloc_new w4 (.cells us.toArray 30))
    have HUL := Lib.hid (show us.toArray.size = 19 by rw [List.size_toArray, hus.2.1]; exact len_stateS)
    have HUI := Lib.hid (show (Try.prog.info? 30).map (·.size) = some us.toArray.size by rw [HUL.out]; exact size30)
    have HONE := Lib.hid (all_oneCell_toArray (row_one hus))
    clear hd hus hb4 hal HC HN HNI HBK3 HB3 HB4 HR
    go_wp2_with (with_reducible refine wpList_halt_store 30 _ _ ?_)
    refine go_on (wpList_store_new rfl 30 (.tmp 3) (.tmp 13) rfl _ us.toArray rfl rfl HUI.out (by rw [HUL.out]; rfl) HONE.out ?_)
    obtain ⟨g, hg⟩ : ∃ g, w4.heap.size = g := ⟨_, rfl⟩
    rw [hg] at HUB
    rw [hg]
    clear hg HONE HUL
    generalize w4.alloc (.cells us.toArray 30) = w5 at HBK5 HUS5 HR5 HB5 HUB
    go_wp2_with (with_reducible refine wpList_stop_load 30 _ ?_)
    refine go_on (wpList_load_whole rfl 30 (.tmp 1) rfl w.heap.size rfl cs0 _ HBK5.out Try.underlying30 rfl HI.out ?_)
    go_wp2_with (with_reducible refine wpList_stop_load 30 _ ?_)
    refine go_on (wpList_load_whole rfl 30 (.tmp 3) rfl g rfl us.toArray _ HUB.out Try.underlying30 rfl HUI.out ?_)
    go_wp2_with (go_at_call 38; refine halt_here ?_)
    refine go_on ((sameS_any x0 cs0 us.toArray w5 HR5.out HUS5.out).mono ?_)
    rintro e w6 ⟨rfl, hb6⟩
    have HB6 := Lib.hid (HB5.out.trans (hb6.mono HB5.out.size))
    clear hb6 HBK5 HUS5 HR5 HB5 HUB
    go_wp2_with (go_at_call 15; refine halt_here ?_)
    refine go_on ((palive_any w6).mono ?_)
    rintro e w7 ⟨rfl, hb7⟩
    have HB7 := Lib.hid (HB6.out.trans (hb7.mono HB6.out.size))
    clear hb7
    go_wp2_with fail
    go_ret
    exact ⟨rfl, HB7.out⟩

/-! ### the row -/
set_option maxRecDepth 100000 in
theorem lifted (os : Os) (started : os.Started) (H : Type) (enc : TypeId × Value → H) :
    ReturnsInHanded {} Try.checked os 12 .any (Rows.packBackSpec.pre6 enc Try.prog Try.f12 Rows.packBackRow.domain false) (Rows.packBackSpec.post enc Try.prog Try.f12 false true false false) := by
  refine returnsInHanded_of_change_sized (C := Try.checked) own_knob started (by kernel_rfl) Try.func12
    (ChangeSpec.witness6 (enc := enc) (C := Try.checked) false ⟨#[], #[.agg #[.slice none 0 0, .slice none 0 0, .slice none 0 0, .slice none 0 0, .slice none 0 0, .slice none 0 0, .slice none 0 0, .int .i64 0, .int .i64 0, .int .i64 0, .bool false, .int .i64 0, .int .i64 0, .int .i64 0, .int .i64 0, .int .u64 0, .slice none 0 0, .int .i64 0, .int .i64 0]], []⟩ 8 (by kernel_rfl) (by kernel_rfl) (by kernel_rfl) (by kernel_rfl)) ?_
  intro W base args ds gs before hval0 hW hcnd hsz0 _
  have hsz : (DataW.weightsEach Try.prog (Try.f12.params.toList ++ Rows.packBackSpec.plain.varTypes Try.prog) (ds ++ gs)).all (· ≤ reachBytes) = true := hsz0
  clear hsz0
  have hval : ∀ (j : Nat) t v, Try.f12.params[j]? = some t → args[j]? = some v → Value.okWide Try.prog W .any base t v := hval0
  have hW' := hW
  obtain ⟨p, q, hA0, hV, rfl, hfz, hnd⟩ := hW
  have hA : DataW.TrodAll enc Try.prog W 0 (fun _ => true) true Try.f12.params.toList args.toList ds p := hA0
  rw [Try.params12] at hA hval hsz
  obtain ⟨v0, vs0, d0, ds0, p0, q0, hargs, rfl, rfl, h0, r0⟩ := trodAll_cons hA
  obtain ⟨rfl, rfl, rfl⟩ := trodAll_nil r0
  obtain rfl : args = #[v0] := by cases args; simp_all
  obtain ⟨rfl, rfl⟩ := trodVars_none hV
  have k0 := h0
  have lt0 : ∀ x ∈ p0, x.block < W.heap.size := by obtain ⟨m, hm⟩ := k0; exact DataW.trod_lt m _ _ _ hm
  obtain ⟨cs0, rfl, hc0⟩ := okWide_struct Try.underlying30 (hval 0 30 v0 rfl rfl)
  obtain ⟨x0, w0⟩ : ∃ x, RowRep (Old W) W stateS x cs0.toList := by
    obtain ⟨fuel, hf⟩ := h0
    obtain ⟨v, hv, hvl⟩ := flat_rep 40 30 stateS (by kernel_rfl) _ _ _ hf
    exact ⟨v, hv⟩
  clear hA0 hval0
  refine (walk cs0 x0 W w0).mono fun e W' ⟨he, bel⟩ => ?_
  subst he
  exact ⟨_, rfl, _, _, _, [], _, [], hW', trodAll_mk1 (shut_bool Try.underlying4 _), (trodAll_cons_mk (Below.trod laidOut (by kernel_rfl) (of_decide_eq_true (by kernel_rfl)) k0 bel lt0) trodAll_mk0), rfl, bel.frame _, fun h => by cases h⟩

theorem over : Rows.packBackRow.holds Try.pinned (OpenSpec.ofChange Rows.packBackSpec) :=
  OpenClaim.holds_of_wide 12 Try.f12 rfl rfl rfl rfl rfl rfl rfl ⟨rfl, rfl, rfl, rfl, rfl⟩ rfl rfl rfl rfl rfl (by kernel_rfl) Try.func12 (by kernel_rfl)
    (of_decide_eq_true (by kernel_rfl)) (by unfold Func.isWrapper; first | (rw [if_pos (by decide +kernel)]; kernel_rfl) | (rw [if_neg (by decide +kernel)]; exact ⟨rfl, rfl⟩))
    (fun os started H enc _ => lifted os started H enc)

theorem proved : Rows.PackBackSaid := over
#print axioms proved
end Go.Proofs.Ytbcpdjhpceimlaa.packBack
