/-
  The reference's readers of layer 27: effects, abilities.
-/
import Derived.Test.YtbcpdjhpceimlaaRefDec
import Derived.Test.YtbcpdjhpceimlaaRefDec1
namespace Go.Proofs.Ytbcpdjhpceimlaa
open Go.ChangeShapes Go.WideShapes Go.ChangeAt Go.RowKit
set_option linter.unusedVariables false
theorem drew_g0 (w : World) : w.grownBy w.drew none := drew_g (World.grownBy.refl _ _)

set_option maxRecDepth 100000 in
set_option maxHeartbeats 4000000 in
theorem reffect_r : RReader 121 effectS := by
  intro R st w hR hs
  have HR := Lib.hid hR
  have HS := Lib.hid hs
  clear hR hs
  go_enter Try.func121, Try.ntmps121
  go_wp2_with (with_reducible refine wpList_halt_store 138 _ _ ?_)
  refine go_on (wpList_begin (s := effectS) HR.out HS.out rfl (.tmp 3) (.tmp 5) rfl rfl rfl rfl rfl rfl (by kernel_rfl) (by kernel_rfl) (fun wA w0 zs HZ HRET HM0 => ?_))
  go_wp2_with (go_at_call 57; refine halt_here ?_)
  refine go_on ((DSt.int (k := 0) HM0.out rfl).mono ?_)
  rintro e w1 ⟨z, old, rfl, hc1, hf1, HM1⟩
  clear HM0
  go_wp2_with (go_at_call 57; refine halt_here ?_)
  refine go_on ((DSt.int (k := 1) HM1.out rfl).mono ?_)
  rintro e w2 ⟨z, old, rfl, hc2, hf2, HM2⟩
  clear hc1 hf1 HM1
  go_wp2_with (go_at_call 57; refine halt_here ?_)
  refine go_on ((DSt.int (k := 2) HM2.out rfl).mono ?_)
  rintro e w3 ⟨z, old, rfl, hc3, hf3, HM3⟩
  clear hc2 hf2 HM2
  go_wp2_with (go_at_call 120; refine halt_here ?_)
  refine go_on ((DSt.sub (k := 3) (m := 16) HM3.out rfilter_r rfl len_filterS).mono ?_)
  rintro e w4 ⟨us4, rfl, HU4, HO4, HT4, HM4⟩
  clear hc3 hf3 HM3
  have HI4 := Lib.hid (show (Try.prog.info? 43).map (·.size) = some us4.size by rw [HU4.out]; exact siz43)
  go_wp2_with (with_reducible refine wpList_halt_store 43 _ _ ?_)
  refine go_on (wpList_store_mid rfl 43 (.tmp 20) (.tmp 18) rfl (w.heap.size + 1) 3 us4 rfl rfl HT4.out HI4.out HO4.out ?_)
  clear HU4 HO4 HT4 HI4
  generalize (w4.setCells (w.heap.size + 1) 3 us4.toList) = w4s at HM4
  go_wp2_with (go_at_call 57; refine halt_here ?_)
  refine go_on ((DSt.int (k := 19) HM4.out rfl).mono ?_)
  rintro e w5 ⟨z, old, rfl, hc5, hf5, HM5⟩
  clear HM4
  go_wp2_with (go_at_call 57; refine halt_here ?_)
  refine go_on ((DSt.int (k := 20) HM5.out rfl).mono ?_)
  rintro e w6 ⟨z, old, rfl, hc6, hf6, HM6⟩
  clear hc5 hf5 HM5
  go_wp2_with (go_at_call 57; refine halt_here ?_)
  refine go_on ((DSt.int (k := 21) HM6.out rfl).mono ?_)
  rintro e w7 ⟨z, old, rfl, hc7, hf7, HM7⟩
  clear hc6 hf6 HM6
  go_wp2_with (go_at_call 120; refine halt_here ?_)
  refine go_on ((DSt.sub (k := 22) (m := 16) HM7.out rfilter_r rfl len_filterS).mono ?_)
  rintro e w8 ⟨us8, rfl, HU8, HO8, HT8, HM8⟩
  clear hc7 hf7 HM7
  have HI8 := Lib.hid (show (Try.prog.info? 43).map (·.size) = some us8.size by rw [HU8.out]; exact siz43)
  go_wp2_with (with_reducible refine wpList_halt_store 43 _ _ ?_)
  refine go_on (wpList_store_mid rfl 43 (.tmp 36) (.tmp 34) rfl (w.heap.size + 1) 22 us8 rfl rfl HT8.out HI8.out HO8.out ?_)
  clear HU8 HO8 HT8 HI8
  generalize (w8.setCells (w.heap.size + 1) 22 us8.toList) = w8s at HM8
  go_wp2_with (go_at_call 57; refine halt_here ?_)
  refine go_on ((DSt.int (k := 38) HM8.out rfl).mono ?_)
  rintro e w9 ⟨z, old, rfl, hc9, hf9, HM9⟩
  clear HM8
  go_wp2_with (go_at_call 57; refine halt_here ?_)
  refine go_on ((DSt.int (k := 39) HM9.out rfl).mono ?_)
  rintro e w10 ⟨z, old, rfl, hc10, hf10, HM10⟩
  clear hc9 hf9 HM9
  go_wp2_with (go_at_call 59; refine halt_here ?_)
  refine go_on ((DSt.text (k := 40) HM10.out rfl).mono ?_)
  rintro e w11 ⟨z, old, rfl, hc11, hf11, HM11⟩
  clear hc10 hf10 HM10
  go_wp2_with (go_at_call 120; refine halt_here ?_)
  refine go_on ((DSt.sub (k := 41) (m := 16) HM11.out rfilter_r rfl len_filterS).mono ?_)
  rintro e w12 ⟨us12, rfl, HU12, HO12, HT12, HM12⟩
  clear hc11 hf11 HM11
  have HI12 := Lib.hid (show (Try.prog.info? 43).map (·.size) = some us12.size by rw [HU12.out]; exact siz43)
  go_wp2_with (with_reducible refine wpList_halt_store 43 _ _ ?_)
  refine go_on (wpList_store_mid rfl 43 (.tmp 48) (.tmp 47) rfl (w.heap.size + 1) 41 us12 rfl rfl HT12.out HI12.out HO12.out ?_)
  clear HU12 HO12 HT12 HI12
  generalize (w12.setCells (w.heap.size + 1) 41 us12.toList) = w12s at HM12
  go_wp2_with fail
  have HMg := HM12
  clear HM12
  go_loopw [4] (fun i wr => ∃ k : Nat, i = .int .i64 k ∧ k ≤ 6 ∧ Hid (DSt wA R (w.heap.size + 1) 138 zs effectS st (57 + k) wr)) (fun i _ => 6 - (intOf i).toNat)
  case atStart => exact ⟨0, rfl, by omega, HMg⟩
  case round =>
    rename World => wr13
    clear HMg
    obtain ⟨k, rfl, hk, HM13⟩ := hrel
    by_cases hlt : k < 6
    · go_wp2_with (go_at_call 57; refine halt_here ?_)
      refine go_on ((DSt.int (k := 57 + k) HM13.out (rep_at2 (o := 57) (m := 6) (j := k) rfl hlt)).mono ?_)
      rintro e w9 ⟨z, old, rfl, hc9, hf9, HM9⟩
      clear HM13
      go_wp2_with fail
      clear hc9 hf9
      go_roundw
      case rel => exact ⟨k + 1, by go_num, by omega, HM9⟩
      case measure => simp [intOf]; omega
    · have ek : k = 6 := by omega
      replace HM13 : Hid (DSt wA R (w.heap.size + 1) 138 zs effectS st 63 wr13) := by subst ek; exact HM13
      clear ek hk
      go_wp2_with (go_at_call 111; refine halt_here ?_)
      refine go_on ((DSt.list (k := 63) HM13.out rmods_r rfl).mono ?_)
      rintro e w14 ⟨za, zn, zc, old, rfl, hc14, hf14, HM14⟩
      clear HM13
      go_wp2_with (with_reducible refine wpList_halt_load 138 _ ?_)
      clear hc14 hf14
      obtain ⟨us, HB, HU, HROW, HRD, HK⟩ := HM14.out.done (k := 64) len_effectS
      have HI := Lib.hid (show (Try.prog.info? 138).map (·.size) = some us.size by rw [HU.out]; exact siz138)
      have HONE := Lib.hid (show us.all (·.oneCell') = true by have h := all_oneCell_toArray (row_one HROW.out); simpa using h)
      obtain ⟨Z, HZS, HZC⟩ := HRET.out.kept HR.out.lt HK.out
      generalize (w14.setCell ⟨(w.heap.size + 1), 63, none⟩ (.slice za zn zc)) = wz at HB HROW HRD HK HZC
      clear HM14
      refine go_on (wpList_load_row rfl 138 (.tmp 3) rfl (w.heap.size + 1) rfl 138 us (0, 0) _ HB.out Try.underlying138 rfl HI.out ?_)
      go_wp2_with (with_reducible refine wpList_halt_store 138 _ _ ?_)
      refine go_on (wpList_store_row rfl 138 (.tmp 2) (.tmp 61) rfl w.heap.size us rfl rfl 138 Z HZC.out HI.out (by rw [HZS.out, HU.out]; exact len_effectS) HONE.out ?_)
      go_wp2_with fail
      refine bodyPost_ret (results_one rfl rfl (setRow_heap wz _ Z us 138 (0, 0) HZC.out) Try.underlying138 rfl HI.out) rfl ?_
      exact RRead.of rfl HRET.out.grown HRET.out.size HR.out.lt HROW.out HRD.out HK.out

set_option maxRecDepth 100000 in
set_option maxHeartbeats 8000000 in
theorem rability_r : RReader 109 abilityS := by
  intro R st w hR hs
  have HR := Lib.hid hR
  have HS := Lib.hid hs
  clear hR hs
  go_enter Try.func109, Try.ntmps109
  go_wp2_with (with_reducible refine wpList_halt_store 91 _ _ ?_)
  refine go_on (wpList_begin (s := abilityS) HR.out HS.out rfl (.tmp 3) (.tmp 9) rfl rfl rfl rfl rfl rfl (by kernel_rfl) (by kernel_rfl) (fun wA w0 zs HZ HRET HM0 => ?_))
  go_wp2_with (go_at_call 57; refine halt_here ?_)
  refine go_on ((DSt.int (k := 0) HM0.out rfl).mono ?_)
  rintro e w1 ⟨z, old, rfl, hc1, hf1, HM1⟩
  clear HM0
  go_wp2_with (go_at_call 120; refine halt_here ?_)
  refine go_on ((DSt.sub (k := 1) (m := 16) HM1.out rfilter_r rfl len_filterS).mono ?_)
  rintro e w2 ⟨us2, rfl, HU2, HO2, HT2, HM2⟩
  clear hc1 hf1 HM1
  have HI2 := Lib.hid (show (Try.prog.info? 43).map (·.size) = some us2.size by rw [HU2.out]; exact siz43)
  go_wp2_with (with_reducible refine wpList_halt_store 43 _ _ ?_)
  refine go_on (wpList_store_mid rfl 43 (.tmp 15) (.tmp 14) rfl (w.heap.size + 1) 1 us2 rfl rfl HT2.out HI2.out HO2.out ?_)
  clear HU2 HO2 HT2 HI2
  generalize (w2.setCells (w.heap.size + 1) 1 us2.toList) = w2s at HM2
  go_wp2_with (go_at_call 111; refine halt_here ?_)
  refine go_on ((DSt.list (k := 17) HM2.out rmods_r rfl).mono ?_)
  rintro e w3 ⟨za, zn, zc, old, rfl, hc3, hf3, HM3⟩
  clear HM2
  go_wp2_with (go_at_call 57; refine halt_here ?_)
  refine go_on ((DSt.int (k := 18) HM3.out rfl).mono ?_)
  rintro e w4 ⟨z, old, rfl, hc4, hf4, HM4⟩
  clear hc3 hf3 HM3
  go_wp2_with (go_at_call 57; refine halt_here ?_)
  refine go_on ((DSt.int (k := 19) HM4.out rfl).mono ?_)
  rintro e w5 ⟨z, old, rfl, hc5, hf5, HM5⟩
  clear hc4 hf4 HM4
  go_wp2_with fail
  clear hc5 hf5
  generalize (w5.setCell ⟨(w.heap.size + 1), 19, none⟩ (.int .i64 z)) = wg6 at HM5
  have HMg := HM5
  clear HM5
  go_loopw [4] (fun i wr => ∃ k : Nat, i = .int .i64 k ∧ k ≤ 5 ∧ Hid (DSt wA R (w.heap.size + 1) 91 zs abilityS st (20 + k) wr)) (fun i _ => 5 - (intOf i).toNat)
  case atStart => exact ⟨0, rfl, by omega, HMg⟩
  case round =>
    rename World => wr6
    clear HMg
    obtain ⟨k, rfl, hk, HM6⟩ := hrel
    by_cases hlt : k < 5
    · go_wp2_with (go_at_call 57; refine halt_here ?_)
      refine go_on ((DSt.int (k := 20 + k) HM6.out (rep_at2 (o := 20) (m := 5) (j := k) rfl hlt)).mono ?_)
      rintro e w9 ⟨z, old, rfl, hc9, hf9, HM9⟩
      clear HM6
      go_wp2_with fail
      clear hc9 hf9
      go_roundw
      case rel => exact ⟨k + 1, by go_num, by omega, HM9⟩
      case measure => simp [intOf]; omega
    · have ek : k = 5 := by omega
      replace HM6 : Hid (DSt wA R (w.heap.size + 1) 91 zs abilityS st 25 wr6) := by subst ek; exact HM6
      clear ek hk
      go_wp2_with (go_at_call 58; refine halt_here ?_)
      refine go_on ((DSt.bool (k := 25) HM6.out rfl).mono ?_)
      rintro e w7 ⟨z, old, rfl, hc7, hf7, HM7⟩
      clear HM6
      go_wp2_with (go_at_call 58; refine halt_here ?_)
      refine go_on ((DSt.bool (k := 26) HM7.out rfl).mono ?_)
      rintro e w8 ⟨z, old, rfl, hc8, hf8, HM8⟩
      clear hc7 hf7 HM7
      go_wp2_with (go_at_call 57; refine halt_here ?_)
      refine go_on ((DSt.int (k := 27) HM8.out rfl).mono ?_)
      rintro e w9 ⟨z, old, rfl, hc9, hf9, HM9⟩
      clear hc8 hf8 HM8
      go_wp2_with (go_at_call 58; refine halt_here ?_)
      refine go_on ((DSt.bool (k := 28) HM9.out rfl).mono ?_)
      rintro e w10 ⟨z, old, rfl, hc10, hf10, HM10⟩
      clear hc9 hf9 HM9
      go_wp2_with (go_at_call 57; refine halt_here ?_)
      refine go_on ((DSt.int (k := 29) HM10.out rfl).mono ?_)
      rintro e w11 ⟨z, old, rfl, hc11, hf11, HM11⟩
      clear hc10 hf10 HM10
      go_wp2_with (go_at_call 57; refine halt_here ?_)
      refine go_on ((DSt.int (k := 30) HM11.out rfl).mono ?_)
      rintro e w12 ⟨z, old, rfl, hc12, hf12, HM12⟩
      clear hc11 hf11 HM11
      go_wp2_with (go_at_call 120; refine halt_here ?_)
      refine go_on ((DSt.sub (k := 31) (m := 16) HM12.out rfilter_r rfl len_filterS).mono ?_)
      rintro e w13 ⟨us13, rfl, HU13, HO13, HT13, HM13⟩
      clear hc12 hf12 HM12
      have HI13 := Lib.hid (show (Try.prog.info? 43).map (·.size) = some us13.size by rw [HU13.out]; exact siz43)
      go_wp2_with (with_reducible refine wpList_halt_store 43 _ _ ?_)
      refine go_on (wpList_store_mid rfl 43 (.tmp 66) (.tmp 64) rfl (w.heap.size + 1) 31 us13 rfl rfl HT13.out HI13.out HO13.out ?_)
      clear HU13 HO13 HT13 HI13
      generalize (w13.setCells (w.heap.size + 1) 31 us13.toList) = w13s at HM13
      go_wp2_with (go_at_call 58; refine halt_here ?_)
      refine go_on ((DSt.bool (k := 47) HM13.out rfl).mono ?_)
      rintro e w14 ⟨z, old, rfl, hc14, hf14, HM14⟩
      clear HM13
      go_wp2_with (go_at_call 56; refine halt_here ?_)
      refine go_on ((DSt.rows (k := 48) 132 18 HM14.out rfl (by rw [HZ.out]; rfl) len_specS).mono ?_)
      rintro e wu48 ⟨n48, st1, cs, rfl, hn48, HL, HX⟩
      clear hc14 hf14 HM14
      have hwn48 : IntKind.i64.wrap (n48 : Int) = (n48 : Int) := wrapI _ (by omega) (by omega)
      go_upto_block 2 with fail
      go_cut [] from 4 (fun wc => Hid (DSt wA R (w.heap.size + 1) 91 zs abilityS st 49 wc))
      case first =>
        go_wp2_with fail
        go_loopw [6] (fun i wr => ∃ k : Nat, i = .int .i64 k ∧ Hid (DLoop (w.heap.size + 1) 91 cs 48 wu48 R 132 18 specS n48 st1 k wr)) (fun i _ => n48 - (intOf i).toNat)
        case atStart => exact ⟨0, rfl, HL⟩
        case round =>
          rename World => wr
          clear HL
          obtain ⟨k, rfl, HL⟩ := hrel
          obtain ⟨acc, cells, ov, stk, hl, hbk, hks⟩ := HL.out
          obtain ⟨ao, co, rfl⟩ := hl.slice
          replace HL := Lib.hid hl
          have HBK := Lib.hid hbk
          have HKS := Lib.hid hks
          clear hl hbk hks
          by_cases hlt : k < n48
          · obtain ⟨e, HE, he⟩ := err_read HL.out.rdr
            have HEE := Lib.hid HE
            clear HE
            rcases he with ⟨rfl, bk, rfl⟩ | ⟨he, rfl⟩
            · go_wp2_with (go_at_call 63; refine halt_here ?_)
              refine go_on (HEE.out.mono ?_)
              rintro x w9 ⟨rfl, rfl⟩
              clear HEE HX
              go_wp2_with (with_reducible refine wpList_halt_store 132 _ _ ?_)
              refine go_on (wpList_beginRow (s := specS) HL.out.rdr HL.out.small rfl (.tmp 7) (.tmp 83) rfl rfl rfl rfl rfl (by kernel_rfl) (by kernel_rfl) (fun wr0 zsr HZr HMr0 => ?_))
              go_wp2_with (go_at_call 58; refine halt_here ?_)
              refine go_on ((DSt.bool (k := 0) HMr0.out rfl).mono ?_)
              rintro e wr1 ⟨z, old, rfl, hc1, hf1, HMr1⟩
              clear HMr0
              go_wp2_with (go_at_call 58; refine halt_here ?_)
              refine go_on ((DSt.bool (k := 1) HMr1.out rfl).mono ?_)
              rintro e wr2 ⟨z, old, rfl, hc2, hf2, HMr2⟩
              clear hc1 hf1 HMr1
              go_wp2_with (go_at_call 120; refine halt_here ?_)
              refine go_on ((DSt.sub (k := 2) (m := 16) HMr2.out rfilter_r rfl len_filterS).mono ?_)
              rintro e wr3 ⟨us3, rfl, HU3, HO3, HT3, HMr3⟩
              clear hc2 hf2 HMr2
              have HI3 := Lib.hid (show (Try.prog.info? 43).map (·.size) = some us3.size by rw [HU3.out]; exact siz43)
              go_wp2_with (with_reducible refine wpList_halt_store 43 _ _ ?_)
              refine go_on (wpList_store_mid rfl 43 (.tmp 92) (.tmp 91) rfl wr.heap.size 2 us3 rfl rfl HT3.out HI3.out HO3.out ?_)
              clear HU3 HO3 HT3 HI3
              generalize (wr3.setCells wr.heap.size 2 us3.toList) = wr3s at HMr3
              go_wp2_with (with_reducible refine wpList_halt_load 86 _ ?_)
              obtain ⟨us, HB, HU, HROW, HRD, HKK⟩ := HMr3.out.done (k := 18) len_specS
              clear HMr3 HZr
              have HBZ := Lib.hid (show wr3s.heap[(w.heap.size + 1)]? = some (.cells (cs.setIfInBounds 48 (.slice ao k co)) 91 (0, 0)) by rw [HKK.out.block _ (blk_lt HBK.out) (fun e => by have := HL.out.hW _ rfl; have := blk_lt HBK.out; rcases e with e | e <;> omega)]; exact HBK.out)
              have d1 : wr3s.cell? ⟨(w.heap.size + 1), 48, none⟩ = some (.slice ao k co) := by rw [blk_cell HBZ.out]; exact set_get HKS.out
              refine go_on ?_
              go_wp2_with (with_reducible refine wpList_halt_load 132 _ ?_)
              have HI := Lib.hid (show (Try.prog.info? 132).map (·.size) = some us.size by rw [HU.out]; exact siz132)
              obtain ⟨i0, z0, hi0, hz0, hz1, -, -⟩ := info_elem info132
              have HI0 := Lib.hid hi0
              have HZ0 := Lib.hid hz0
              have HZ1 := Lib.hid hz1
              clear hi0 hz0 hz1
              refine go_on (wpList_load_row rfl 132 (.tmp 7) rfl wr.heap.size rfl 132 us (0, 0) _ HB.out Try.underlying132 rfl HI.out ?_)
              go_wp2_with (with_reducible refine wpList_halt_build 86 1 _ ?_)
              refine go_on (wpList_wp rfl (fun K hK => wp_build_one 86 132 (.tmp 95) rfl us i0 z0 18 Try.underlying86 HI0.out HZ0.out HZ1.out (by decide) (by decide) rfl HU.out (hK _ _ ?_)))
              clear hK K
              have HG3 := Lib.hid (World.grownBy_alloc wr3s (.cells us 132) none)
              have HY3 := Lib.hid (heap_alloc_new wr3s (.cells us 132))
              generalize wr3s.alloc (.cells us 132) = w3 at HG3 HY3
              generalize wr3s.heap.size = Y at HY3
              clear HB HI HI0 HZ0 HZ1 HBZ d1
              refine wpList_wp rfl (fun K hK => ?_)
              refine HL.out.append (.tmp 94) (.tmp 96) 86 rfl Try.underlying86 info132 (by decide) (by decide) hlt HU.out HROW.out HRD.out HKK.out.grown HG3.out HY3.out rfl rfl ?_
              intro a4 c4 w4 hstep hkeep
              refine hK _ _ ?_
              clear hK K
              obtain ⟨old, hc, hf, HL2⟩ := DLoop.store HL.out HBK.out HKS.out hstep hkeep
              clear hstep hkeep HL HBK HKS HG3 HY3 HROW HRD HKK HU
              go_wp2_with fail
              clear hc hf
              go_roundw
              case rel => exact ⟨k + 1, by go_num, HL2⟩
              case measure => simp [intOf]; omega
            · have p1 : ((e : Int) == 0) = false := by simp; omega
              clear he
              go_wp2_with (go_at_call 63; refine halt_here ?_)
              refine go_on (HEE.out.mono ?_)
              rintro x w9 ⟨rfl, rfl⟩
              clear HEE
              go_wp2_with fail
              go_meet
              case rel => exact Lib.hid (HX.out k _ acc cells _ _ HL.out (.inr ⟨e, rfl⟩) HBK.out)
          · go_wp2_with fail
            go_meet
            case rel => exact Lib.hid (HX.out k _ acc cells _ _ HL.out (.inl (by omega)) HBK.out)
      case rest =>
        rename World => wd48
        have HM15 : Hid (DSt wA R (w.heap.size + 1) 91 zs abilityS st 49 wd48) := hcut
        clear hcut HL HX hwn48 hn48
        go_wp2_with (go_at_call 56; refine halt_here ?_)
        refine go_on ((DSt.rows (k := 49) 138 64 HM15.out rfl (by rw [HZ.out]; rfl) len_effectS).mono ?_)
        rintro e wu49 ⟨n49, st1, cs, rfl, hn49, HL, HX⟩
        clear HM15
        have hwn49 : IntKind.i64.wrap (n49 : Int) = (n49 : Int) := wrapI _ (by omega) (by omega)
        go_upto_block 4 with fail
        go_cut [] from 4 (fun wc => Hid (DSt wA R (w.heap.size + 1) 91 zs abilityS st 50 wc))
        case first =>
          go_wp2_with fail
          go_loopw [8] (fun i wr => ∃ k : Nat, i = .int .i64 k ∧ Hid (DLoop (w.heap.size + 1) 91 cs 49 wu49 R 138 64 effectS n49 st1 k wr)) (fun i _ => n49 - (intOf i).toNat)
          case atStart => exact ⟨0, rfl, HL⟩
          case round =>
            rename World => wr
            clear HL
            obtain ⟨k, rfl, HL⟩ := hrel
            obtain ⟨acc, cells, ov, stk, hl, hbk, hks⟩ := HL.out
            obtain ⟨ao, co, rfl⟩ := hl.slice
            replace HL := Lib.hid hl
            have HBK := Lib.hid hbk
            have HKS := Lib.hid hks
            clear hl hbk hks
            by_cases hlt : k < n49
            · obtain ⟨e, HE, he⟩ := err_read HL.out.rdr
              have HEE := Lib.hid HE
              clear HE
              rcases he with ⟨rfl, bk, rfl⟩ | ⟨he, rfl⟩
              · go_wp2_with (go_at_call 63; refine halt_here ?_)
                refine go_on (HEE.out.mono ?_)
                rintro x w9 ⟨rfl, rfl⟩
                clear HEE HX
                have HLD := Lib.hid (HL.out.later (drew_g0 wr))
                have HBKD := Lib.hid (show wr.drew.heap[(w.heap.size + 1)]? = some (.cells (cs.setIfInBounds 49 (.slice ao k co)) 91 (0, 0)) from HBK.out)
                have d0 : wr.drew.cell? ⟨(w.heap.size + 1), 49, none⟩ = some (.slice ao k co) := by rw [blk_cell HBKD.out]; exact set_get HKS.out
                clear HL HBK
                go_wp2_with fail
                refine wp_region_plan [(0, none), (1, some none), (2, none), (3, some (some true)), (4, some (some true)), (5, some (some false)), (6, none), (7, some (some false))] (by kernel_rfl) (by kernel_rfl) ?_
                generalize wr.drew = wd at d0 HLD HBKD
                repeat (first | (refine plan_free (v := ?_) rfl rfl (fun _ => ?_) (fun K hK => ?_); rotate_left 1; (focus (go_simp <;> exact rfl)); go_simp; refine hK _ _ ?_; clear hK K) | (refine plan_held (v := ?_) rfl rfl ?_ (fun K hK => ?_); rotate_left 1; (focus (go_simp <;> exact rfl)); go_simp; refine hK _ _ ?_; clear hK K) | (refine plan_skip rfl rfl (fun K hK => ?_); go_simp; refine hK _ _ ?_; clear hK K))
                refine plan_effH rfl rfl (fun K hK => ?_)
                go_wp2_with (go_at_call 121; refine halt_here ?_)
                refine go_on ((reffect_r R _ wd HLD.out.rdr HLD.out.small).mono ?_)
                rintro e w2 ⟨us, rfl, hrow, hrd, hg⟩
                have HBK2 := Lib.hid (show w2.heap[(w.heap.size + 1)]? = some (.cells (cs.setIfInBounds 49 (.slice ao k co)) 91 (0, 0)) by rw [hg.block _ (blk_lt HBKD.out) (fun e => by injection e with e; have := HLD.out.hW _ rfl; omega)]; exact HBKD.out)
                have d2 : w2.cell? ⟨(w.heap.size + 1), 49, none⟩ = some (.slice ao k co) := by rw [blk_cell HBK2.out]; exact set_get HKS.out
                have HROW := Lib.hid (show RowRep (fun k => wd.heap.size ≤ k) w2 effectS _ us.toArray.toList by simpa using hrow)
                have HRD := Lib.hid hrd
                have HG := Lib.hid hg
                have HU := Lib.hid (show us.toArray.size = 64 by rw [List.size_toArray, hrow.2.1]; exact len_effectS)
                obtain ⟨i0, z0, hi0, hz0, hz1, -, -⟩ := info_elem info138
                have HI0 := Lib.hid hi0
                have HZ0 := Lib.hid hz0
                have HZ1 := Lib.hid hz1
                clear hrow hrd hg d0 hi0 hz0 hz1
                go_wp2_with fail
                refine ⟨⟨by go_simp, trivial⟩, ?_⟩
                refine plan_effH rfl rfl (fun K hK => ?_)
                refine wp_build_one 87 138 (.tmp 115) rfl us.toArray i0 z0 64 Try.underlying87 HI0.out HZ0.out HZ1.out (by decide) (by decide) rfl HU.out ?_
                have HG3 := Lib.hid (World.grownBy_alloc w2 (.cells us.toArray 138) none)
                have HY3 := Lib.hid (heap_alloc_new w2 (.cells us.toArray 138))
                have d3 : (w2.alloc (.cells us.toArray 138)).cell? ⟨(w.heap.size + 1), 49, none⟩ = some (.slice ao k co) := by rw [cell?_heap (p := ⟨(w.heap.size + 1), 49, none⟩) (HG3.out.block _ (blk_lt HBK2.out) (by simp))]; exact d2
                generalize w2.alloc (.cells us.toArray 138) = w3 at HG3 HY3 d3
                generalize w2.heap.size = Y at HY3
                refine hK _ _ ⟨⟨by go_simp, trivial⟩, ?_⟩
                clear hK K
                refine plan_eff rfl rfl (fun K hK => ?_)
                refine HLD.out.append (.tmp 113) (.tmp 116) 87 rfl Try.underlying87 info138 (by decide) (by decide) hlt HU.out HROW.out HRD.out HG.out HG3.out HY3.out rfl rfl ?_
                intro a4 c4 w4 hstep hkeep
                refine hK _ _ ?_
                clear hK K
                obtain ⟨old, hc, hf, HL2⟩ := DLoop.store HLD.out HBKD.out HKS.out hstep hkeep
                clear hstep hkeep HLD HBKD HKS HG3 HY3 HROW HRD HG HU HI0 HZ0 HZ1 HBK2 d2 d3
                repeat (first | (refine plan_free (v := ?_) rfl rfl (fun _ => ?_) (fun K hK => ?_); rotate_left 1; (focus (go_simp <;> exact rfl)); go_simp; refine hK _ _ ?_; clear hK K) | (refine plan_held (v := ?_) rfl rfl ?_ (fun K hK => ?_); rotate_left 1; (focus (go_simp <;> exact rfl)); go_simp; refine hK _ _ ?_; clear hK K) | (refine plan_skip rfl rfl (fun K hK => ?_); go_simp; refine hK _ _ ?_; clear hK K))
                refine plan_eff rfl rfl (fun K hK => ?_)
                go_wp2_with fail
                refine plan_nil ?_
                go_wp2_with fail
                go_roundw
                case rel => exact ⟨k + 1, by go_num, HL2⟩
                case measure => simp [intOf]; omega
              · have p1 : ((e : Int) == 0) = false := by simp; omega
                clear he
                go_wp2_with (go_at_call 63; refine halt_here ?_)
                refine go_on (HEE.out.mono ?_)
                rintro x w9 ⟨rfl, rfl⟩
                clear HEE
                go_wp2_with fail
                go_meet
                case rel => exact Lib.hid (HX.out k _ acc cells _ _ HL.out (.inr ⟨e, rfl⟩) HBK.out)
            · go_wp2_with fail
              go_meet
              case rel => exact Lib.hid (HX.out k _ acc cells _ _ HL.out (.inl (by omega)) HBK.out)
        case rest =>
          rename World => wd49
          have HM16 : Hid (DSt wA R (w.heap.size + 1) 91 zs abilityS st 50 wd49) := hcut
          clear hcut HL HX hwn49 hn49
          go_wp2_with (go_at_call 57; refine halt_here ?_)
          refine go_on ((DSt.int (k := 50) HM16.out rfl).mono ?_)
          rintro e w17 ⟨z, old, rfl, hc17, hf17, HM17⟩
          clear HM16
          go_wp2_with (go_at_call 57; refine halt_here ?_)
          refine go_on ((DSt.int (k := 51) HM17.out rfl).mono ?_)
          rintro e w18 ⟨z, old, rfl, hc18, hf18, HM18⟩
          clear hc17 hf17 HM17
          go_wp2_with (go_at_call 120; refine halt_here ?_)
          refine go_on ((DSt.sub (k := 52) (m := 16) HM18.out rfilter_r rfl len_filterS).mono ?_)
          rintro e w19 ⟨us19, rfl, HU19, HO19, HT19, HM19⟩
          clear hc18 hf18 HM18
          have HI19 := Lib.hid (show (Try.prog.info? 43).map (·.size) = some us19.size by rw [HU19.out]; exact siz43)
          go_wp2_with (with_reducible refine wpList_halt_store 43 _ _ ?_)
          refine go_on (wpList_store_mid rfl 43 (.tmp 130) (.tmp 128) rfl (w.heap.size + 1) 52 us19 rfl rfl HT19.out HI19.out HO19.out ?_)
          clear HU19 HO19 HT19 HI19
          generalize (w19.setCells (w.heap.size + 1) 52 us19.toList) = w19s at HM19
          go_wp2_with (go_at_call 57; refine halt_here ?_)
          refine go_on ((DSt.int (k := 68) HM19.out rfl).mono ?_)
          rintro e w20 ⟨z, old, rfl, hc20, hf20, HM20⟩
          clear HM19
          go_wp2_with (go_at_call 57; refine halt_here ?_)
          refine go_on ((DSt.int (k := 69) HM20.out rfl).mono ?_)
          rintro e w21 ⟨z, old, rfl, hc21, hf21, HM21⟩
          clear hc20 hf20 HM20
          go_wp2_with (go_at_call 57; refine halt_here ?_)
          refine go_on ((DSt.int (k := 70) HM21.out rfl).mono ?_)
          rintro e w22 ⟨z, old, rfl, hc22, hf22, HM22⟩
          clear hc21 hf21 HM21
          go_wp2_with (go_at_call 57; refine halt_here ?_)
          refine go_on ((DSt.int (k := 71) HM22.out rfl).mono ?_)
          rintro e w23 ⟨z, old, rfl, hc23, hf23, HM23⟩
          clear hc22 hf22 HM22
          go_wp2_with (with_reducible refine wpList_halt_load 91 _ ?_)
          clear hc23 hf23
          obtain ⟨us, HB, HU, HROW, HRD, HK⟩ := HM23.out.done (k := 72) len_abilityS
          have HI := Lib.hid (show (Try.prog.info? 91).map (·.size) = some us.size by rw [HU.out]; exact siz91)
          have HONE := Lib.hid (show us.all (·.oneCell') = true by have h := all_oneCell_toArray (row_one HROW.out); simpa using h)
          obtain ⟨Z, HZS, HZC⟩ := HRET.out.kept HR.out.lt HK.out
          generalize (w23.setCell ⟨(w.heap.size + 1), 71, none⟩ (.int .i64 z)) = wz at HB HROW HRD HK HZC
          clear HM23
          refine go_on (wpList_load_row rfl 91 (.tmp 3) rfl (w.heap.size + 1) rfl 91 us (0, 0) _ HB.out Try.underlying91 rfl HI.out ?_)
          go_wp2_with (with_reducible refine wpList_halt_store 91 _ _ ?_)
          refine go_on (wpList_store_row rfl 91 (.tmp 2) (.tmp 147) rfl w.heap.size us rfl rfl 91 Z HZC.out HI.out (by rw [HZS.out, HU.out]; exact len_abilityS) HONE.out ?_)
          go_wp2_with fail
          refine bodyPost_ret (results_one rfl rfl (setRow_heap wz _ Z us 91 (0, 0) HZC.out) Try.underlying91 rfl HI.out) rfl ?_
          exact RRead.of rfl HRET.out.grown HRET.out.size HR.out.lt HROW.out HRD.out HK.out
end Go.Proofs.Ytbcpdjhpceimlaa
