/-
  Encode returns the reference's bytes at every small state; the chapter's examples hold; no condition.
-/
import Derived.Test.YtbcpdjhpceimlaaRows
import Derived.SizedLaws
import Derived.Test.YtbcpdjhpceimlaaRefEnc3
import Derived.Test.YtbcpdjhpceimlaaPLib2
import Derived.Test.YtbcpdjhpceimlaaSch
import Derived.WalkKit
import Derived.ProofKit
import Derived.OpenShut
import Derived.ShutString
import Derived.ChangeOld
import Derived.Below
namespace Go.Proofs.Ytbcpdjhpceimlaa.packEncode
open Go.ChangeShapes Go.WideShapes Go.ChangeAt Go.RowKit Go.Deep
open Go.ChangeMaps (open_string shut_string)
set_option linter.unusedVariables false

theorem own_knob : ownKnob Try.prog.godebug = none := by kernel_rfl
theorem laidOut : laidOutB Try.prog = true := by kernel_rfl

theorem exec_load_whole {P : Program} {o : Oper} {a : Act} {w : World} (ty : TypeId) (x : Operand) (ho : o.op = .load ty x) (g : Nat) (hx : a.eval x = .pointer (some ⟨g, 0, none⟩)) (cs : Array Value) {t : TypeId} (d : TypeDesc) (hb : w.heap[g]? = some (.cells cs t (0, 0)))
    (hu : P.underlying ty = some d) (hd : d.isRow = true) (hi : (P.info? ty).map (·.size) = some cs.size) : (execOp a.eval o).run P w = .ok (.value (.agg cs)) w := by
  have h := exec_load_mid (P := P) (o := o) (a := a) (w := w) ty x ho g 0 hx cs.toList d (fun j u hj => by rw [Nat.zero_add, blk_cell hb]; simpa using hj) hu hd (by simpa using hi)
  simpa using h

/-! ### the walk -/
set_option maxRecDepth 100000 in
set_option maxHeartbeats 4000000 in
theorem walk (cs0 : Array Value) (x0 : List V) (w : World) (w0 : RowRep (Old w) w stateS x0 cs0.toList) :
    Calls Try.prog 10 #[.agg cs0] w fun e w' => e = .returned (.bool true) ∧ Below w.heap.size w w' := by
  have hsz := row_size w0
  have HR := Lib.hid w0
  have HSZ := Lib.hid hsz
  have HI := Lib.hid (show (Try.prog.info? 30).map (·.size) = some cs0.size by rw [hsz]; exact size30)
  have HBK := Lib.hid (heap_alloc_new w (.cells cs0 30))
  have HB1 := Lib.hid (show Below w.heap.size w (w.alloc (.cells cs0 30)) from (Below.refl _ _).alloc (Nat.le_refl _) _)
  clear w0 hsz
  go_enter Try.func10, Try.ntmps10
  go_wp2_with (with_reducible refine wpList_halt_load 30 _ ?_)
  refine go_on (wpList_load_blk rfl 30 (.tmp 1) rfl w.heap.size rfl cs0 _ HBK.out Try.underlying30 rfl HI.out ?_)
  go_wp2_with (go_at_call 14; refine halt_here ?_)
  refine go_on ((few_any 100 cs0 x0 _ (by omega) (HR.out.later HB1.out)).mono ?_)
  rintro e w2 ⟨hb2, b, rfl, hf⟩
  have HBK2 := Lib.hid (show w2.heap[w.heap.size]? = some (.cells cs0 30 (0, 0)) by rw [hb2.block _ (blk_lt HBK.out)]; exact HBK.out)
  have HB2 := Lib.hid (HB1.out.trans (hb2.mono HB1.out.size))
  have HF := Lib.hid hf
  clear hb2 hf HB1 HBK
  cases b with
  | false =>
    go_wp2_with (go_at_call 15; refine halt_here ?_)
    refine go_on ((palive_any w2).mono ?_)
    rintro e w3 ⟨rfl, hb3⟩
    have HB3 := Lib.hid (HB2.out.trans (hb3.mono HB2.out.size))
    clear hb3
    go_wp2_with fail
    go_ret
    exact ⟨rfl, HB3.out⟩
  | true =>
    have hfr := HF.out rfl
    have hble := Nat.le_trans (bndRow_le 100 100 stateS x0 hfr) bnd_state
    have HBL := Lib.hid hble
    clear hfr HF
    have hbd : Below w2.heap.size w2 w2.drew := (Below.refl _ _).drew
    have HR2 := Lib.hid ((HR.out.later HB2.out).later hbd)
    have HB2d := Lib.hid (HB2.out.trans (hbd.mono HB2.out.size))
    clear HR hbd
    go_wp2_with fail
    refine wp_region_plan [(0, some none), (2, some none), (1, some (some true)), (3, some (some false)), (4, some (some false)), (5, none), (6, some (some false)), (7, none), (8, none)] (by kernel_rfl) (by kernel_rfl) ?_
    refine plan_held (v := .agg cs0) rfl rfl (exec_load_whole 30 (.tmp 1) rfl w.heap.size rfl cs0 _ HBK2.out Try.underlying30 rfl HI.out) (fun K hK => ?_)
    refine hK _ _ ?_
    clear hK K
    refine plan_held (v := .agg cs0) rfl rfl (exec_load_whole 30 (.tmp 1) rfl w.heap.size rfl cs0 _ HBK2.out Try.underlying30 rfl HI.out) (fun K hK => ?_)
    refine hK _ _ ?_
    clear hK K
    refine plan_effH rfl rfl (fun K hK => ?_)
    go_wp2_with (go_at_call 16; refine halt_here ?_)
    refine go_on ((Encode_any cs0 x0 w2.drew HR2.out (by omega)).mono ?_)
    rintro e w3 ⟨a, n, c, rfl, hc, hn, hnil, hcap, hb3⟩
    have hn1 : n ≤ 17000000000000 := by omega
    have HC := Lib.hid hc
    have HN := Lib.hid hn
    have HBK3 := Lib.hid ((hb3.block _ (blk_lt HBK2.out)).trans HBK2.out)
    have HR3 := Lib.hid (HR2.out.later hb3)
    have HB3 := Lib.hid (HB2d.out.trans (hb3.mono HB2d.out.size))
    clear hc hn hnil hb3 HB2 HB2d HBK2 HR2
    go_wp2_with fail
    refine ⟨⟨exec_load_whole 30 (.tmp 1) rfl w.heap.size rfl cs0 _ HBK3.out Try.underlying30 rfl HI.out, exec_load_whole 30 (.tmp 1) rfl w.heap.size rfl cs0 _ HBK3.out Try.underlying30 rfl HI.out, trivial⟩, ?_⟩
    refine plan_eff rfl rfl (fun K hK => ?_)
    go_wp2_with (go_at_call 36; refine halt_here ?_)
    refine go_on ((REncode_any cs0 x0 w3 HR3.out (by omega)).mono ?_)
    rintro e w4 ⟨a4, n4, c4, rfl, HC4, HL4, HN4, HB4⟩
    rw [List.nil_append] at HC4 HL4
    have hnn : n4 = n := by have := HL4.out; have := HN.out; omega
    subst hnn
    have HCX := Lib.hid (HC.out.below HB4.out)
    have HB5 := Lib.hid (HB3.out.trans (HB4.out.mono HB3.out.size))
    clear HC HB3 HB4 HR3 HBK3
    go_wp2_with fail
    refine plan_eff rfl rfl (fun K hK => ?_)
    go_wp2_with (go_at_call 35; refine halt_here ?_)
    refine go_on ((bytes_eq a n4 c a4 c4 (encRow x0) w4 HN.out (by omega) HCX.out HC4.out).mono ?_)
    rintro e w7 ⟨rfl, k, rfl⟩
    have HB7 := Lib.hid (below_drewN HB5.out k)
    clear HB5 HCX HC4
    generalize w4.drewN k = w5 at HB7
    go_wp2_with fail
    (refine plan_free (v := ?_) rfl rfl (fun _ => ?_) (fun K hK => ?_); rotate_left 1; (focus (go_simp <;> exact rfl)); go_simp; refine hK _ _ ?_; clear hK K)
    refine plan_eff rfl rfl (fun K hK => ?_)
    go_wp2_with (go_at_call 15; refine halt_here ?_)
    refine go_on ((palive_any w5).mono ?_)
    rintro e w8 ⟨rfl, hb8⟩
    have HB8 := Lib.hid (HB7.out.trans (hb8.mono HB7.out.size))
    clear hb8 HB7
    go_wp2_with fail
    repeat (refine plan_free (v := ?_) rfl rfl (fun _ => ?_) (fun K hK => ?_); rotate_left 1; (focus (go_simp <;> exact rfl)); go_simp; refine hK _ _ ?_; clear hK K)
    refine plan_nil ?_
    go_wp2_with fail
    go_ret
    exact ⟨rfl, HB8.out⟩

/-! ### the row -/
set_option maxRecDepth 100000 in
theorem lifted (os : Os) (started : os.Started) (H : Type) (enc : TypeId × Value → H) :
    ReturnsInHanded {} Try.checked os 10 .any (Rows.packEncodeSpec.pre6 enc Try.prog Try.f10 Rows.packEncodeRow.domain false) (Rows.packEncodeSpec.post enc Try.prog Try.f10 false true false false) := by
  refine returnsInHanded_of_change_sized (C := Try.checked) own_knob started (by kernel_rfl) Try.func10
    (ChangeSpec.witness6 (enc := enc) (C := Try.checked) false ⟨#[], #[.agg #[.slice none 0 0, .slice none 0 0, .slice none 0 0, .slice none 0 0, .slice none 0 0, .slice none 0 0, .slice none 0 0, .int .i64 0, .int .i64 0, .int .i64 0, .bool false, .int .i64 0, .int .i64 0, .int .i64 0, .int .i64 0, .int .u64 0, .slice none 0 0, .int .i64 0, .int .i64 0]], []⟩ 8 (by kernel_rfl) (by kernel_rfl) (by kernel_rfl) (by kernel_rfl)) ?_
  intro W base args ds gs before hval0 hW hcnd hsz0 _
  have hsz : (DataW.weightsEach Try.prog (Try.f10.params.toList ++ Rows.packEncodeSpec.plain.varTypes Try.prog) (ds ++ gs)).all (· ≤ reachBytes) = true := hsz0
  clear hsz0
  have hval : ∀ (j : Nat) t v, Try.f10.params[j]? = some t → args[j]? = some v → Value.okWide Try.prog W .any base t v := hval0
  have hW' := hW
  obtain ⟨p, q, hA0, hV, rfl, hfz, hnd⟩ := hW
  have hA : DataW.TrodAll enc Try.prog W 0 (fun _ => true) true Try.f10.params.toList args.toList ds p := hA0
  rw [Try.params10] at hA hval hsz
  obtain ⟨v0, vs0, d0, ds0, p0, q0, hargs, rfl, rfl, h0, r0⟩ := trodAll_cons hA
  obtain ⟨rfl, rfl, rfl⟩ := trodAll_nil r0
  obtain rfl : args = #[v0] := by cases args; simp_all
  obtain ⟨rfl, rfl⟩ := trodVars_none hV
  have k0 := h0
  have lt0 : ∀ x ∈ p0, x.block < W.heap.size := by obtain ⟨m, hm⟩ := k0; exact DataW.trod_lt m _ _ _ hm
  obtain ⟨cs0, rfl, hc0⟩ := okWide_struct Try.underlying30 (hval 0 30 v0 rfl rfl)
  obtain ⟨x0, w0⟩ : ∃ x, RowRep (Old W) W stateS x cs0.toList := by
    obtain ⟨fuel, hf⟩ := h0
    obtain ⟨v, hv, hvl⟩ := flat_rep 40 30 stateS (by kernel_rfl) _ _ _ hf
    exact ⟨v, hv⟩
  clear hA0 hval0
  refine (walk cs0 x0 W w0).mono fun e W' ⟨he, bel⟩ => ?_
  subst he
  exact ⟨_, rfl, _, _, _, [], _, [], hW', trodAll_mk1 (shut_bool Try.underlying4 _), (trodAll_cons_mk (Below.trod laidOut (by kernel_rfl) (of_decide_eq_true (by kernel_rfl)) k0 bel lt0) trodAll_mk0), rfl, bel.frame _, fun h => by cases h⟩

theorem over : Rows.packEncodeRow.holds Try.pinned (OpenSpec.ofChange Rows.packEncodeSpec) :=
  OpenClaim.holds_of_wide 10 Try.f10 rfl rfl rfl rfl rfl rfl rfl ⟨rfl, rfl, rfl, rfl, rfl⟩ rfl rfl rfl rfl rfl (by kernel_rfl) Try.func10 (by kernel_rfl)
    (of_decide_eq_true (by kernel_rfl)) (by unfold Func.isWrapper; first | (rw [if_pos (by decide +kernel)]; kernel_rfl) | (rw [if_neg (by decide +kernel)]; exact ⟨rfl, rfl⟩))
    (fun os started H enc _ => lifted os started H enc)

theorem proved : Rows.PackEncodeSaid := over
#print axioms proved
end Go.Proofs.Ytbcpdjhpceimlaa.packEncode
