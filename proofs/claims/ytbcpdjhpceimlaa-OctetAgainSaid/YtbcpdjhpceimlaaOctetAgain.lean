/-
  OctetAgain: a number that was read without an error is written as the bytes that were read.
-/
import Derived.Test.YtbcpdjhpceimlaaRows
import Derived.SizedLaws
import Derived.Test.YtbcpdjhpceimlaaAlive
import Derived.WalkKit
import Derived.ProofKit
import Derived.OpenShut
import Derived.ShutString
import Derived.ChangeOld
import Derived.Below
namespace Go.Proofs.Ytbcpdjhpceimlaa.octetAgain
open Go.ChangeShapes Go.WideShapes Go.ChangeAt Go.RowKit
open Go.ChangeMaps (open_string shut_string)
set_option linter.unusedVariables false

theorem own_knob : ownKnob Try.prog.godebug = none := by kernel_rfl
theorem bytes_5 : Try.prog.bytesOf 5 = 1 := by kernel_rfl
theorem laidOut : laidOutB Try.prog = true := by kernel_rfl

/-- WHAT THE WALK IS TOLD OF A SLICE OF INTEGERS THAT CAME IN: it is nil; or it leads to a row of 'cap' cells, the numbers 'zs' (the first 'len' are its elements, the rest its spare room), each fitting its kind. -/
def IsRow (k : IntKind) (w : World) (a : Option Addr) (len cap : Nat) (zs : List Int) : Prop :=
  (a = none ∧ len = 0 ∧ cap = 0 ∧ zs = []) ∨
  ∃ x, a = some x ∧ len ≤ cap ∧ cap ≤ maxLen ∧ zs.length = cap ∧ (∀ i, i < zs.length → w.cell? (x.add i) = some (.int k (zs.getD i 0))) ∧ ∀ n ∈ zs, (Lit.int k n).wf = true

/-! ### the walk -/
set_option maxRecDepth 100000 in
set_option maxHeartbeats 2000000 in
theorem walk (a0 : Option Addr) (len0 cap0 : Nat) (z0 : List Int) (w : World) (w0 : IsRow .u8 w a0 len0 cap0 z0) (s0 : len0 * 1 ≤ 140737488351232) :
    Calls Try.prog 5 #[.slice a0 len0 cap0] w fun e w' => e = .returned (.bool true) ∧ Below w.heap.size w w' := by
  obtain ⟨hrd, hnil, hzl⟩ := isRow_cells w0
  obtain ⟨hlc, hwf⟩ := isRow_wf w0
  obtain ⟨bs, hbl, hbe⟩ := bytes_of (z0.take len0) hwf
  rw [hbe] at hrd
  have HL := Lib.hid (hbl.trans hzl)
  have HN := Lib.hid hnil
  have HRD := Lib.hid hrd
  have hsz : len0 ≤ 140737488355328 := by omega
  clear hrd hnil hzl hwf hbe hbl w0
  rcases hnum : num 0 0 bs with c | ⟨v, rest⟩
  · have hne := num_pos hnum
    have HNE := Lib.hid hne
    have HU := Lib.hid (show uS 18446744073709551615 (stOf bs 0 0) = (0, .error c) by rw [stOf_ok, List.drop_zero, uS, hnum])
    have HI := Lib.hid (show iS (stOf bs 0 0) = (0, .error c) by rw [iS, top64, HU.out]; simp [unzz])
    go_enter Try.func5, Try.ntmps5
    go_wp2_with (go_at_call 18; refine halt_here ?_)
    refine go_on ((New_any _ len0 cap0 bs w HRD.out HN.out HL.out hsz).mono ?_)
    rintro e w1 ⟨R, a1, c1, rfl, hR, hrd1, hb1⟩
    have HR := Lib.hid hR
    have HR1 := Lib.hid hrd1
    have HB1 := Lib.hid hb1
    clear hR hrd1 hb1
    go_wp2_with (go_at_call 19; refine halt_here ?_)
    refine go_on ((Uint_any R a1 len0 c1 bs 0 0 18446744073709551615 w1 HR1.out).mono ?_)
    rw [HU.out]
    rintro e w2 ⟨rfl, at2, e2, hrd2, hst2, hg2⟩
    have HB2 := Lib.hid (HB1.out.grown hg2 HB1.out.size (fun k hk => by cases hk; exact HR.out))
    have HR2 := Lib.hid hrd2
    obtain rfl : e2 = c := stOf_err_inv hst2
    clear hrd2 hst2 hg2 HR1 HB1
    go_wp2_with (go_at_call 18; refine halt_here ?_)
    refine go_on ((New_any _ len0 cap0 bs w2 (HRD.out.below (HB2.out)) HN.out HL.out hsz).mono ?_)
    rintro e w3 ⟨R2, a3, c3, rfl, hR3, hrd3, hb3⟩
    have HRR := Lib.hid hR3
    have HR3 := Lib.hid hrd3
    have HB3 := Lib.hid hb3
    clear hR3 hrd3 hb3
    go_wp2_with (go_at_call 20; refine halt_here ?_)
    refine go_on ((Int_any R2 a3 len0 c3 bs 0 0 w3 HR3.out).mono ?_)
    rw [HI.out]
    rintro e w4 ⟨rfl, at4, e4, hrd4, hst4, hg4⟩
    have HX4 := Lib.hid (HB3.out.grown hg4 HB3.out.size (fun k hk => by cases hk; exact HRR.out))
    have HB4 := Lib.hid (HB2.out.trans (HX4.out.mono HB2.out.size))
    have HR4 := Lib.hid hrd4
    have HQ4 := Lib.hid (HR2.out.below HX4.out)
    obtain rfl : e4 = e2 := stOf_err_inv hst4
    clear hrd4 hst4 hg4 HR3 HB3 HRR HR2 HB2 HX4
    go_wp2_with (go_at_call 21; refine halt_here ?_)
    refine go_on ((Err_any R a1 len0 c1 bs at2 _ w4 HQ4.out).mono ?_)
    rintro e w5 ⟨rfl, rfl⟩
    go_wp2_with (go_at_call 21; refine halt_here ?_)
    refine go_on ((Err_any R2 a3 len0 c3 bs at4 _ w4 HR4.out).mono ?_)
    rintro e w5 ⟨rfl, rfl⟩
    have q1 : ((e4 : Int) == 0) = false := by have := HNE.out; simp; omega
    clear hne
    go_wp2_with (go_at_call 21; refine halt_here ?_)
    refine go_on ((Err_any R a1 len0 c1 bs at2 _ w4 HQ4.out).mono ?_)
    rintro e w5 ⟨rfl, rfl⟩
    go_wp2_with (go_at_call 22; refine halt_here ?_)
    refine go_on ((alive_any w4).mono ?_)
    rintro e w5 ⟨rfl, hb5⟩
    have HX5 := Lib.hid hb5
    have HQ5 := Lib.hid (HQ4.out.below hb5)
    clear hb5
    go_wp2_with (go_at_call 23; refine halt_here ?_)
    refine go_on ((Left_any R a1 len0 c1 bs at2 _ w5 HQ5.out).mono ?_)
    rintro e w6 ⟨rfl, hg6, -⟩
    rw [stOf_er bs at2 e4 HNE.out, show leftS (.error e4) = 0 from rfl]
    have HX6 := Lib.hid (HB4.out.trans (HX5.out.mono HB4.out.size))
    have HX7 := Lib.hid (HX6.out.grown hg6 HX6.out.size (fun k hk => by cases hk; exact HR.out))
    clear hg6
    go_wp2_with fail
    go_ret
    exact ⟨rfl, HX7.out⟩
  · have HNM := Lib.hid hnum
    have HSP := Lib.hid (leb_num hnum)
    have hpos := (leb_length v).1
    have HSUM := Lib.hid (show len0 = (leb v).length + rest.length by rw [← HL.out, HSP.out, List.length_append])
    obtain ⟨b0, o0, rfl, -⟩ := CellsAt.pos HRD.out (by rw [bc_length, HL.out, HSUM.out]; omega)
    have HLT := Lib.hid (num_lt bs 0 0 v rest (by omega) (by decide) hnum)
    have HU := Lib.hid (show uS 18446744073709551615 (stOf bs 0 0) = (v, .ok rest) by rw [stOf_ok, List.drop_zero, uS, hnum]; exact if_neg (by have := num_lt bs 0 0 v rest (by omega) (by decide) hnum; omega))
    have HI := Lib.hid (show iS (stOf bs 0 0) = (unzz v, .ok rest) by rw [iS, top64, HU.out])
    go_enter Try.func5, Try.ntmps5
    go_wp2_with (go_at_call 18; refine halt_here ?_)
    refine go_on ((New_any _ len0 cap0 bs w HRD.out HN.out HL.out hsz).mono ?_)
    rintro e w1 ⟨R, a1, c1, rfl, hR, hrd1, hb1⟩
    have HR := Lib.hid hR
    have HR1 := Lib.hid hrd1
    have HB1 := Lib.hid hb1
    clear hR hrd1 hb1
    go_wp2_with (go_at_call 19; refine halt_here ?_)
    refine go_on ((Uint_any R a1 len0 c1 bs 0 0 18446744073709551615 w1 HR1.out).mono ?_)
    rw [HU.out]
    rintro e w2 ⟨rfl, at2, e2, hrd2, hst2, hg2⟩
    have HB2 := Lib.hid (HB1.out.grown hg2 HB1.out.size (fun k hk => by cases hk; exact HR.out))
    have HR2 := Lib.hid hrd2
    obtain ⟨rfl, hdr⟩ := stOf_ok_inv hst2
    clear hrd2 hst2 hg2 HR1 HB1
    go_wp2_with (go_at_call 18; refine halt_here ?_)
    refine go_on ((New_any _ len0 cap0 bs w2 (HRD.out.below (HB2.out)) HN.out HL.out hsz).mono ?_)
    rintro e w3 ⟨R2, a3, c3, rfl, hR3, hrd3, hb3⟩
    have HRR := Lib.hid hR3
    have HR3 := Lib.hid hrd3
    have HB3 := Lib.hid hb3
    clear hR3 hrd3 hb3
    go_wp2_with (go_at_call 20; refine halt_here ?_)
    refine go_on ((Int_any R2 a3 len0 c3 bs 0 0 w3 HR3.out).mono ?_)
    rw [HI.out]
    rintro e w4 ⟨rfl, at4, e4, hrd4, hst4, hg4⟩
    have HX4 := Lib.hid (HB3.out.grown hg4 HB3.out.size (fun k hk => by cases hk; exact HRR.out))
    have HB4 := Lib.hid (HB2.out.trans (HX4.out.mono HB2.out.size))
    have HR4 := Lib.hid hrd4
    have HQ4 := Lib.hid (HR2.out.below HX4.out)
    obtain ⟨rfl, hdr4⟩ := stOf_ok_inv hst4
    clear hrd4 hst4 hg4 HR3 HB3 HRR HR2 HB2 HX4
    go_wp2_with (go_at_call 21; refine halt_here ?_)
    refine go_on ((Err_any R a1 len0 c1 bs at2 _ w4 HQ4.out).mono ?_)
    rintro e w5 ⟨rfl, rfl⟩
    go_wp2_with (go_at_call 21; refine halt_here ?_)
    refine go_on ((Err_any R2 a3 len0 c3 bs at4 _ w4 HR4.out).mono ?_)
    rintro e w5 ⟨rfl, rfl⟩
    go_wp2_with (go_at_call 21; refine halt_here ?_)
    refine go_on ((Err_any R a1 len0 c1 bs at2 _ w4 HQ4.out).mono ?_)
    rintro e w5 ⟨rfl, rfl⟩
    have HLV := Lib.hid (show leftS (stOf bs at2 0) = rest.length by rw [stOf_ok, hdr]; rfl)
    have hLs : rest.length ≤ len0 := by have := HSUM.out; omega
    generalize rest.length = L at HLV HSUM hLs
    have q2 : decide (len0 < L) = false := by simp; omega
    have q3 : decide ((L : Int) < 0) = false := by simp
    go_wp2_with (go_at_call 23; refine halt_here ?_)
    refine go_on ((Left_any R a1 len0 c1 bs at2 _ w4 HQ4.out).mono ?_)
    rw [HLV.out]
    rintro e w5 ⟨rfl, hg5, hr5⟩
    have HB5 := Lib.hid (HB4.out.grown hg5 HB4.out.size (fun k hk => by cases hk; exact HR.out))
    have HQ5 := Lib.hid hr5
    clear hg5 hr5
    go_wp2_with (go_at_call 23; refine halt_here ?_)
    refine go_on ((Left_any R a1 len0 c1 bs at2 _ w5 HQ5.out).mono ?_)
    rw [HLV.out]
    rintro e w6 ⟨rfl, hg6, hr6⟩
    have HB6 := Lib.hid (HB5.out.grown hg6 HB5.out.size (fun k hk => by cases hk; exact HR.out))
    have HQ6 := Lib.hid hr6
    clear hg6 hr6
    go_wp2_with (go_at_call 23; refine halt_here ?_)
    refine go_on ((Left_any R a1 len0 c1 bs at2 _ w6 HQ6.out).mono ?_)
    rw [HLV.out]
    rintro e w7 ⟨rfl, hg7, hr7⟩
    have HB7 := Lib.hid (HB6.out.grown hg7 HB6.out.size (fun k hk => by cases hk; exact HR.out))
    clear hg7 hr7 HQ4 HR4 HQ5 HQ6 HB4 HB5 HB6
    have hwr : IntKind.i64.wrap ((len0 : Int) - (L : Int)) = ((len0 - L : Nat) : Int) := by rw [wrapI _ (by omega) (by omega)]; omega
    go_wp2_with fail
    refine wp_region_plan [(0, some (some false)), (1, none), (2, none), (6, none), (7, some none), (3, some (some true)), (4, some (some true)), (5, some none), (8, none), (9, none), (10, none), (11, none), (14, none), (15, some none), (12, some (some true)), (13, some none), (16, none), (17, none), (18, none)] (by kernel_rfl) (by kernel_rfl) ?_
    repeat (first | (refine plan_free (v := ?_) rfl rfl (fun _ => ?_) (fun K hK => ?_); rotate_left 1; (focus (go_simp <;> exact rfl)); go_simp; refine hK _ _ ?_; clear hK K) | (refine plan_held (v := ?_) rfl rfl ?_ (fun K hK => ?_); rotate_left 1; (focus (go_simp <;> exact rfl)); go_simp; refine hK _ _ ?_; clear hK K) | (refine plan_skip rfl rfl (fun K hK => ?_); go_simp; refine hK _ _ ?_; clear hK K))
    refine plan_eff rfl rfl (fun K hK => ?_)
    go_wp2_with (go_at_call 22; refine halt_here ?_)
    refine go_on ((alive_any _).mono ?_)
    rintro e w8 ⟨rfl, hb8⟩
    have HB8 := Lib.hid (HB7.out.drew.trans (hb8.mono HB7.out.size))
    have HCV := Lib.hid (fun (w' : World) (hb : Below w.heap.size w w') => conv_str cap0 (w := w') (n := len0 - L) ((HRD.out.below hb).take_bc (leb v).length) (show (bs.take (leb v).length).length = len0 - L by rw [HSP.out, List.take_left]; have := HSUM.out; omega))
    rw [show bs.take (leb v).length = leb v by rw [HSP.out, List.take_left]] at HCV
    clear hb8 HB7 hdr hdr4 hnum
    have hcv8 := HCV.out w8 HB8.out
    go_wp2_with fail
    repeat (first | (refine plan_free (v := ?_) rfl rfl (fun _ => ?_) (fun K hK => ?_); rotate_left 1; (focus (go_simp <;> exact rfl)); go_simp; refine hK _ _ ?_; clear hK K) | (refine plan_held (v := ?_) rfl rfl ?_ (fun K hK => ?_); rotate_left 1; (focus (go_simp <;> exact rfl)); go_simp; refine hK _ _ ?_; clear hK K) | (refine plan_skip rfl rfl (fun K hK => ?_); go_simp; refine hK _ _ ?_; clear hK K))
    have hcv8a := HCV.out (w8.alloc (.cells #[.int .u64 (v : Int)] 28)) (HB8.out.alloc HB8.out.size _)
    refine plan_effH rfl rfl (fun K hK => ?_)
    go_wp2_with fail
    refine ⟨⟨by go_simp, trivial⟩, ?_⟩
    clear hcv8
    repeat (first | (refine plan_free (v := ?_) rfl rfl (fun _ => ?_) (fun K hK => ?_); rotate_left 1; (focus (go_simp <;> exact rfl)); go_simp; refine hK _ _ ?_; clear hK K) | (refine plan_held (v := ?_) rfl rfl ?_ (fun K hK => ?_); rotate_left 1; (focus (go_simp <;> exact rfl)); go_simp; refine hK _ _ ?_; clear hK K) | (refine plan_skip rfl rfl (fun K hK => ?_); go_simp; refine hK _ _ ?_; clear hK K))
    refine plan_effH rfl rfl (fun K hK => ?_)
    go_wp2_with (go_at_call 24; refine halt_here ?_)
    refine go_on ((Put_one none 0 0 [] v w8 _ rfl (CellsAt.nil _ _) (fun _ => ⟨rfl, rfl⟩) rfl HLT.out (by have := (leb_length v).2; simp; omega)).mono ?_)
    rintro e w9 ⟨v9, rfl, how9, hb9⟩
    rw [List.nil_append] at how9
    obtain ⟨a9, c9, rfl, hc9⟩ := ownsRow_rd how9
    have HB9 := Lib.hid (HB8.out.trans (hb9.mono HB8.out.size))
    have HC9 := Lib.hid hc9
    clear hcv8a how9 hb9 hc9
    have hcv9 := HCV.out w9 HB9.out
    have hcx9 := conv_str c9 HC9.out rfl
    go_wp2_with fail
    refine ⟨⟨by go_simp, trivial⟩, ?_⟩
    repeat (first | (refine plan_free (v := ?_) rfl rfl (fun _ => ?_) (fun K hK => ?_); rotate_left 1; (focus (go_simp <;> exact rfl)); go_simp; refine hK _ _ ?_; clear hK K) | (refine plan_held (v := ?_) rfl rfl ?_ (fun K hK => ?_); rotate_left 1; (focus (go_simp <;> exact rfl)); go_simp; refine hK _ _ ?_; clear hK K) | (refine plan_skip rfl rfl (fun K hK => ?_); go_simp; refine hK _ _ ?_; clear hK K))
    refine plan_effH rfl rfl (fun K hK => ?_)
    go_wp2_with (go_at_call 25; refine halt_here ?_)
    refine go_on ((PutInt_any none 0 0 [] (unzz v) w9 (CellsAt.nil _ _) (fun _ => ⟨rfl, rfl⟩) rfl (unzz_bd v HLT.out).1 (unzz_bd v HLT.out).2 (by rw [encI, zz_unzz]; have := (leb_length v).2; simp; omega)).mono ?_)
    rw [encI, zz_unzz, List.nil_append]
    rintro e w10 ⟨v10, rfl, how10, hb10⟩
    obtain ⟨a10, c10, rfl, hc10⟩ := ownsRow_rd how10
    have HB10 := Lib.hid (HB9.out.trans (hb10.mono HB9.out.size))
    have hcx10 := conv_str c9 (HC9.out.below hb10) rfl
    have hcy10 := conv_str c10 hc10 rfl
    have hcv10 := HCV.out w10 HB10.out
    clear hcv9 hcx9 how10 hb10 hc10
    go_wp2_with fail
    refine ⟨⟨by go_simp, by go_simp, by go_simp, trivial⟩, ?_⟩
    repeat (first | (refine plan_free (v := ?_) rfl rfl (fun _ => ?_) (fun K hK => ?_); rotate_left 1; (focus (go_simp <;> exact rfl)); go_simp; refine hK _ _ ?_; clear hK K) | (refine plan_held (v := ?_) rfl rfl ?_ (fun K hK => ?_); rotate_left 1; (focus (go_simp <;> exact rfl)); go_simp; refine hK _ _ ?_; clear hK K) | (refine plan_skip rfl rfl (fun K hK => ?_); go_simp; refine hK _ _ ?_; clear hK K))
    refine plan_nil ?_
    go_wp2_with fail
    go_ret
    exact ⟨ret1 (by first | rfl | (simp; done)), HB10.out⟩

/-! ### the row -/
set_option maxRecDepth 100000 in
theorem lifted (os : Os) (started : os.Started) (H : Type) (enc : TypeId × Value → H) :
    ReturnsInHanded {} Try.checked os 5 .any (Rows.octetAgainSpec.pre6 enc Try.prog Try.f5 Rows.octetAgainRow.domain false) (Rows.octetAgainSpec.post enc Try.prog Try.f5 false true false false) := by
  refine returnsInHanded_of_change_sized (C := Try.checked) own_knob started (by kernel_rfl) Try.func5
    (ChangeSpec.witness6 (enc := enc) (C := Try.checked) false ⟨#[], #[.slice none 0 0], []⟩ 8 (by kernel_rfl) (by kernel_rfl) (by kernel_rfl) (by kernel_rfl)) ?_
  intro W base args ds gs before hval0 hW hcnd hsz0 _
  have hsz : (DataW.weightsEach Try.prog (Try.f5.params.toList ++ Rows.octetAgainSpec.plain.varTypes Try.prog) (ds ++ gs)).all (· ≤ reachBytes) = true := hsz0
  clear hsz0
  have hval : ∀ (j : Nat) t v, Try.f5.params[j]? = some t → args[j]? = some v → Value.okWide Try.prog W .any base t v := hval0
  have hW' := hW
  obtain ⟨p, q, hA0, hV, rfl, hfz, hnd⟩ := hW
  have hA : DataW.TrodAll enc Try.prog W 0 (fun _ => true) true Try.f5.params.toList args.toList ds p := hA0
  rw [Try.params5] at hA hval hsz
  obtain ⟨v0, vs0, d0, ds0, p0, q0, hargs, rfl, rfl, h0, r0⟩ := trodAll_cons hA
  obtain ⟨rfl, rfl, rfl⟩ := trodAll_nil r0
  obtain rfl : args = #[v0] := by cases args; simp_all
  obtain ⟨rfl, rfl⟩ := trodVars_none hV
  obtain ⟨a0, len0, cap0, rfl⟩ := okWide_slice Try.underlying34 (hval 0 34 v0 rfl rfl)
  have k0 := h0
  have lt0 : ∀ x ∈ p0, x.block < W.heap.size := by obtain ⟨m, hm⟩ := k0; exact DataW.trod_lt m _ _ _ hm
  obtain ⟨z0, w0, s0⟩ : ∃ zs, IsRow .u8 W a0 len0 cap0 zs ∧ len0 * 1 ≤ 140737488351232 := by
    obtain ⟨fuel, hf⟩ := h0
    rcases open_ints Try.underlying34 Try.underlying5 (by kernel_rfl) hf with ⟨hcs, _⟩ | ⟨x, l, c, zs, hcs, _, hl, hm, hz, hx, hcell, hwz⟩
    · simp [Value.cells] at hcs
      obtain ⟨rfl, rfl, rfl⟩ := hcs
      exact ⟨[], .inl ⟨rfl, rfl, rfl, rfl⟩, by omega⟩
    · simp [Value.cells] at hcs
      obtain ⟨rfl, rfl, rfl⟩ := hcs
      have hz2 := hz
      simp only [if_true] at hz2
      simp only [Prod.mk.injEq] at hx
      have hb := sized_slice hsz (j := 0) (t := 34) (e := 5) rfl (by rw [hx.1]; rfl) Try.underlying34
      rw [bytes_5] at hb
      simp only [lits, List.length_map, List.length_take, List.length_drop, reachBytes] at hb
      exact ⟨zs, .inr ⟨_, rfl, hl, hm, hz2, hcell, hwz⟩, by omega⟩
  clear hA0 hval0
  refine (walk a0 len0 cap0 z0 W w0 s0).mono fun e W' ⟨he, bel⟩ => ?_
  subst he
  exact ⟨_, rfl, _, _, _, [], _, [], hW', trodAll_mk1 (shut_bool Try.underlying4 _), (trodAll_cons_mk (Below.trod laidOut (by kernel_rfl) (of_decide_eq_true (by kernel_rfl)) k0 bel lt0) trodAll_mk0), rfl, bel.frame _, fun h => by cases h⟩

theorem over : Rows.octetAgainRow.holds Try.pinned (OpenSpec.ofChange Rows.octetAgainSpec) :=
  OpenClaim.holds_of_wide 5 Try.f5 rfl rfl rfl rfl rfl rfl rfl ⟨rfl, rfl, rfl, rfl, rfl⟩ rfl rfl rfl rfl rfl (by kernel_rfl) Try.func5 (by kernel_rfl)
    (of_decide_eq_true (by kernel_rfl)) (by unfold Func.isWrapper; first | (rw [if_pos (by decide +kernel)]; kernel_rfl) | (rw [if_neg (by decide +kernel)]; exact ⟨rfl, rfl⟩))
    (fun os started H enc _ => lifted os started H enc)

theorem proved : Rows.OctetAgainSaid := over
#print axioms proved
end Go.Proofs.Ytbcpdjhpceimlaa.octetAgain
