/-
  The reference's readers of layer 27: stack items, waiting abilities, continuous effects.
-/
import Derived.Test.YtbcpdjhpceimlaaRefDec
import Derived.Test.YtbcpdjhpceimlaaRefDec2
namespace Go.Proofs.Ytbcpdjhpceimlaa
open Go.ChangeShapes Go.WideShapes Go.ChangeAt Go.RowKit
set_option linter.unusedVariables false

set_option maxRecDepth 100000 in
set_option maxHeartbeats 8000000 in
theorem ritem_r : RReader 94 itemS := by
  intro R st w hR hs
  have HR := Lib.hid hR
  have HS := Lib.hid hs
  clear hR hs
  go_enter Try.func94, Try.ntmps94
  go_wp2_with (with_reducible refine wpList_halt_store 97 _ _ ?_)
  refine go_on (wpList_begin (s := itemS) HR.out HS.out rfl (.tmp 3) (.tmp 7) rfl rfl rfl rfl rfl rfl (by kernel_rfl) (by kernel_rfl) (fun wA w0 zs HZ HRET HM0 => ?_))
  go_wp2_with (go_at_call 57; refine halt_here ?_)
  refine go_on ((DSt.int (k := 0) HM0.out rfl).mono ?_)
  rintro e w1 ⟨z, old, rfl, hc1, hf1, HM1⟩
  clear HM0
  go_wp2_with (go_at_call 57; refine halt_here ?_)
  refine go_on ((DSt.int (k := 1) HM1.out rfl).mono ?_)
  rintro e w2 ⟨z, old, rfl, hc2, hf2, HM2⟩
  clear hc1 hf1 HM1
  go_wp2_with (go_at_call 57; refine halt_here ?_)
  refine go_on ((DSt.int (k := 2) HM2.out rfl).mono ?_)
  rintro e w3 ⟨z, old, rfl, hc3, hf3, HM3⟩
  clear hc2 hf2 HM2
  go_wp2_with (go_at_call 57; refine halt_here ?_)
  refine go_on ((DSt.int (k := 3) HM3.out rfl).mono ?_)
  rintro e w4 ⟨z, old, rfl, hc4, hf4, HM4⟩
  clear hc3 hf3 HM3
  go_wp2_with (go_at_call 57; refine halt_here ?_)
  refine go_on ((DSt.int (k := 4) HM4.out rfl).mono ?_)
  rintro e w5 ⟨z, old, rfl, hc5, hf5, HM5⟩
  clear hc4 hf4 HM4
  go_wp2_with (go_at_call 58; refine halt_here ?_)
  refine go_on ((DSt.bool (k := 5) HM5.out rfl).mono ?_)
  rintro e w6 ⟨z, old, rfl, hc6, hf6, HM6⟩
  clear hc5 hf5 HM5
  go_wp2_with (go_at_call 109; refine halt_here ?_)
  refine go_on ((DSt.sub (k := 6) (m := 72) HM6.out rability_r rfl len_abilityS).mono ?_)
  rintro e w7 ⟨us7, rfl, HU7, HO7, HT7, HM7⟩
  clear hc6 hf6 HM6
  have HI7 := Lib.hid (show (Try.prog.info? 91).map (·.size) = some us7.size by rw [HU7.out]; exact siz91)
  go_wp2_with (with_reducible refine wpList_halt_store 91 _ _ ?_)
  refine go_on (wpList_store_mid rfl 91 (.tmp 28) (.tmp 27) rfl (w.heap.size + 1) 6 us7 rfl rfl HT7.out HI7.out HO7.out ?_)
  clear HU7 HO7 HT7 HI7
  generalize (w7.setCells (w.heap.size + 1) 6 us7.toList) = w7s at HM7
  go_wp2_with (go_at_call 56; refine halt_here ?_)
  refine go_on ((DSt.rows (k := 78) 164 2 HM7.out rfl (by rw [HZ.out]; rfl) len_targetS).mono ?_)
  rintro e wu78 ⟨n78, st1, cs, rfl, hn78, HL, HX⟩
  clear HM7
  have hwn78 : IntKind.i64.wrap (n78 : Int) = (n78 : Int) := wrapI _ (by omega) (by omega)
  go_upto_block 0 with fail
  go_cut [] from 4 (fun wc => Hid (DSt wA R (w.heap.size + 1) 97 zs itemS st 79 wc))
  case first =>
    go_wp2_with fail
    go_loopw [5] (fun i wr => ∃ k : Nat, i = .int .i64 k ∧ Hid (DLoop (w.heap.size + 1) 97 cs 78 wu78 R 164 2 targetS n78 st1 k wr)) (fun i _ => n78 - (intOf i).toNat)
    case atStart => exact ⟨0, rfl, HL⟩
    case round =>
      rename World => wr
      clear HL
      obtain ⟨k, rfl, HL⟩ := hrel
      obtain ⟨acc, cells, ov, stk, hl, hbk, hks⟩ := HL.out
      obtain ⟨ao, co, rfl⟩ := hl.slice
      replace HL := Lib.hid hl
      have HBK := Lib.hid hbk
      have HKS := Lib.hid hks
      clear hl hbk hks
      by_cases hlt : k < n78
      · obtain ⟨e, HE, he⟩ := err_read HL.out.rdr
        have HEE := Lib.hid HE
        clear HE
        rcases he with ⟨rfl, bk, rfl⟩ | ⟨he, rfl⟩
        · go_wp2_with (go_at_call 63; refine halt_here ?_)
          refine go_on (HEE.out.mono ?_)
          rintro x w9 ⟨rfl, rfl⟩
          clear HEE HX
          go_wp2_with (with_reducible refine wpList_halt_store 164 _ _ ?_)
          refine go_on (wpList_beginRow (s := targetS) HL.out.rdr HL.out.small rfl (.tmp 6) (.tmp 42) rfl rfl rfl rfl rfl (by kernel_rfl) (by kernel_rfl) (fun wr0 zsr HZr HMr0 => ?_))
          go_wp2_with (go_at_call 57; refine halt_here ?_)
          refine go_on ((DSt.int (k := 0) HMr0.out rfl).mono ?_)
          rintro e wr1 ⟨z, old, rfl, hc1, hf1, HMr1⟩
          clear HMr0
          go_wp2_with (go_at_call 57; refine halt_here ?_)
          refine go_on ((DSt.int (k := 1) HMr1.out rfl).mono ?_)
          rintro e wr2 ⟨z, old, rfl, hc2, hf2, HMr2⟩
          clear hc1 hf1 HMr1
          go_wp2_with (with_reducible refine wpList_halt_load 92 _ ?_)
          clear hc2 hf2
          obtain ⟨us, HB, HU, HROW, HRD, HKK⟩ := HMr2.out.done (k := 2) len_targetS
          generalize (wr2.setCell ⟨wr.heap.size, 1, none⟩ (.int .i64 z)) = wz at HB HROW HRD HKK
          clear HMr2 HZr
          have HBZ := Lib.hid (show wz.heap[(w.heap.size + 1)]? = some (.cells (cs.setIfInBounds 78 (.slice ao k co)) 97 (0, 0)) by rw [HKK.out.block _ (blk_lt HBK.out) (fun e => by have := HL.out.hW _ rfl; have := blk_lt HBK.out; rcases e with e | e <;> omega)]; exact HBK.out)
          have d1 : wz.cell? ⟨(w.heap.size + 1), 78, none⟩ = some (.slice ao k co) := by rw [blk_cell HBZ.out]; exact set_get HKS.out
          refine go_on ?_
          go_wp2_with (with_reducible refine wpList_halt_load 164 _ ?_)
          have HI := Lib.hid (show (Try.prog.info? 164).map (·.size) = some us.size by rw [HU.out]; exact siz164)
          obtain ⟨i0, z0, hi0, hz0, hz1, -, -⟩ := info_elem info164
          have HI0 := Lib.hid hi0
          have HZ0 := Lib.hid hz0
          have HZ1 := Lib.hid hz1
          clear hi0 hz0 hz1
          refine go_on (wpList_load_row rfl 164 (.tmp 6) rfl wr.heap.size rfl 164 us (0, 0) _ HB.out Try.underlying164 rfl HI.out ?_)
          go_wp2_with (with_reducible refine wpList_halt_build 92 1 _ ?_)
          refine go_on (wpList_wp rfl (fun K hK => wp_build_one 92 164 (.tmp 51) rfl us i0 z0 2 Try.underlying92 HI0.out HZ0.out HZ1.out (by decide) (by decide) rfl HU.out (hK _ _ ?_)))
          clear hK K
          have HG3 := Lib.hid (World.grownBy_alloc wz (.cells us 164) none)
          have HY3 := Lib.hid (heap_alloc_new wz (.cells us 164))
          generalize wz.alloc (.cells us 164) = w3 at HG3 HY3
          generalize wz.heap.size = Y at HY3
          clear HB HI HI0 HZ0 HZ1 HBZ d1
          refine wpList_wp rfl (fun K hK => ?_)
          refine HL.out.append (.tmp 50) (.tmp 52) 92 rfl Try.underlying92 info164 (by decide) (by decide) hlt HU.out HROW.out HRD.out HKK.out.grown HG3.out HY3.out rfl rfl ?_
          intro a4 c4 w4 hstep hkeep
          refine hK _ _ ?_
          clear hK K
          obtain ⟨old, hc, hf, HL2⟩ := DLoop.store HL.out HBK.out HKS.out hstep hkeep
          clear hstep hkeep HL HBK HKS HG3 HY3 HROW HRD HKK HU
          go_wp2_with fail
          clear hc hf
          go_roundw
          case rel => exact ⟨k + 1, by go_num, HL2⟩
          case measure => simp [intOf]; omega
        · have p1 : ((e : Int) == 0) = false := by simp; omega
          clear he
          go_wp2_with (go_at_call 63; refine halt_here ?_)
          refine go_on (HEE.out.mono ?_)
          rintro x w9 ⟨rfl, rfl⟩
          clear HEE
          go_wp2_with fail
          go_meet
          case rel => exact Lib.hid (HX.out k _ acc cells _ _ HL.out (.inr ⟨e, rfl⟩) HBK.out)
      · go_wp2_with fail
        go_meet
        case rel => exact Lib.hid (HX.out k _ acc cells _ _ HL.out (.inl (by omega)) HBK.out)
  case rest =>
    rename World => wd78
    have HM8 : Hid (DSt wA R (w.heap.size + 1) 97 zs itemS st 79 wd78) := hcut
    clear hcut HL HX hwn78 hn78
    go_wp2_with (go_at_call 110; refine halt_here ?_)
    refine go_on ((DSt.sub (k := 79) (m := 15) HM8.out revent_r rfl len_eventS).mono ?_)
    rintro e w9 ⟨us9, rfl, HU9, HO9, HT9, HM9⟩
    clear HM8
    have HI9 := Lib.hid (show (Try.prog.info? 95).map (·.size) = some us9.size by rw [HU9.out]; exact siz95)
    go_wp2_with (with_reducible refine wpList_halt_store 95 _ _ ?_)
    refine go_on (wpList_store_mid rfl 95 (.tmp 57) (.tmp 56) rfl (w.heap.size + 1) 79 us9 rfl rfl HT9.out HI9.out HO9.out ?_)
    clear HU9 HO9 HT9 HI9
    generalize (w9.setCells (w.heap.size + 1) 79 us9.toList) = w9s at HM9
    go_wp2_with (with_reducible refine wpList_halt_load 97 _ ?_)
    obtain ⟨us, HB, HU, HROW, HRD, HK⟩ := HM9.out.done (k := 94) len_itemS
    have HI := Lib.hid (show (Try.prog.info? 97).map (·.size) = some us.size by rw [HU.out]; exact siz97)
    have HONE := Lib.hid (show us.all (·.oneCell') = true by have h := all_oneCell_toArray (row_one HROW.out); simpa using h)
    obtain ⟨Z, HZS, HZC⟩ := HRET.out.kept HR.out.lt HK.out
    clear HM9
    refine go_on (wpList_load_row rfl 97 (.tmp 3) rfl (w.heap.size + 1) rfl 97 us (0, 0) _ HB.out Try.underlying97 rfl HI.out ?_)
    go_wp2_with (with_reducible refine wpList_halt_store 97 _ _ ?_)
    refine go_on (wpList_store_row rfl 97 (.tmp 2) (.tmp 58) rfl w.heap.size us rfl rfl 97 Z HZC.out HI.out (by rw [HZS.out, HU.out]; exact len_itemS) HONE.out ?_)
    go_wp2_with fail
    refine bodyPost_ret (results_one rfl rfl (setRow_heap w9s _ Z us 97 (0, 0) HZC.out) Try.underlying97 rfl HI.out) rfl ?_
    exact RRead.of rfl HRET.out.grown HRET.out.size HR.out.lt HROW.out HRD.out HK.out

set_option maxRecDepth 100000 in
set_option maxHeartbeats 4000000 in
theorem rwaiting_r : RReader 95 waitingS := by
  intro R st w hR hs
  have HR := Lib.hid hR
  have HS := Lib.hid hs
  clear hR hs
  go_enter Try.func95, Try.ntmps95
  go_wp2_with (with_reducible refine wpList_halt_store 100 _ _ ?_)
  refine go_on (wpList_begin (s := waitingS) HR.out HS.out rfl (.tmp 3) (.tmp 4) rfl rfl rfl rfl rfl rfl (by kernel_rfl) (by kernel_rfl) (fun wA w0 zs HZ HRET HM0 => ?_))
  go_wp2_with (go_at_call 57; refine halt_here ?_)
  refine go_on ((DSt.int (k := 0) HM0.out rfl).mono ?_)
  rintro e w1 ⟨z, old, rfl, hc1, hf1, HM1⟩
  clear HM0
  go_wp2_with (go_at_call 57; refine halt_here ?_)
  refine go_on ((DSt.int (k := 1) HM1.out rfl).mono ?_)
  rintro e w2 ⟨z, old, rfl, hc2, hf2, HM2⟩
  clear hc1 hf1 HM1
  go_wp2_with (go_at_call 109; refine halt_here ?_)
  refine go_on ((DSt.sub (k := 2) (m := 72) HM2.out rability_r rfl len_abilityS).mono ?_)
  rintro e w3 ⟨us3, rfl, HU3, HO3, HT3, HM3⟩
  clear hc2 hf2 HM2
  have HI3 := Lib.hid (show (Try.prog.info? 91).map (·.size) = some us3.size by rw [HU3.out]; exact siz91)
  go_wp2_with (with_reducible refine wpList_halt_store 91 _ _ ?_)
  refine go_on (wpList_store_mid rfl 91 (.tmp 13) (.tmp 12) rfl (w.heap.size + 1) 2 us3 rfl rfl HT3.out HI3.out HO3.out ?_)
  clear HU3 HO3 HT3 HI3
  generalize (w3.setCells (w.heap.size + 1) 2 us3.toList) = w3s at HM3
  go_wp2_with (go_at_call 110; refine halt_here ?_)
  refine go_on ((DSt.sub (k := 74) (m := 15) HM3.out revent_r rfl len_eventS).mono ?_)
  rintro e w4 ⟨us4, rfl, HU4, HO4, HT4, HM4⟩
  clear HM3
  have HI4 := Lib.hid (show (Try.prog.info? 95).map (·.size) = some us4.size by rw [HU4.out]; exact siz95)
  go_wp2_with (with_reducible refine wpList_halt_store 95 _ _ ?_)
  refine go_on (wpList_store_mid rfl 95 (.tmp 16) (.tmp 15) rfl (w.heap.size + 1) 74 us4 rfl rfl HT4.out HI4.out HO4.out ?_)
  clear HU4 HO4 HT4 HI4
  generalize (w4.setCells (w.heap.size + 1) 74 us4.toList) = w4s at HM4
  go_wp2_with (with_reducible refine wpList_halt_load 100 _ ?_)
  obtain ⟨us, HB, HU, HROW, HRD, HK⟩ := HM4.out.done (k := 89) len_waitingS
  have HI := Lib.hid (show (Try.prog.info? 100).map (·.size) = some us.size by rw [HU.out]; exact siz100)
  have HONE := Lib.hid (show us.all (·.oneCell') = true by have h := all_oneCell_toArray (row_one HROW.out); simpa using h)
  obtain ⟨Z, HZS, HZC⟩ := HRET.out.kept HR.out.lt HK.out
  clear HM4
  refine go_on (wpList_load_row rfl 100 (.tmp 3) rfl (w.heap.size + 1) rfl 100 us (0, 0) _ HB.out Try.underlying100 rfl HI.out ?_)
  go_wp2_with (with_reducible refine wpList_halt_store 100 _ _ ?_)
  refine go_on (wpList_store_row rfl 100 (.tmp 2) (.tmp 17) rfl w.heap.size us rfl rfl 100 Z HZC.out HI.out (by rw [HZS.out, HU.out]; exact len_waitingS) HONE.out ?_)
  go_wp2_with fail
  refine bodyPost_ret (results_one rfl rfl (setRow_heap w4s _ Z us 100 (0, 0) HZC.out) Try.underlying100 rfl HI.out) rfl ?_
  exact RRead.of rfl HRET.out.grown HRET.out.size HR.out.lt HROW.out HRD.out HK.out

set_option maxRecDepth 100000 in
set_option maxHeartbeats 4000000 in
theorem rcont_r : RReader 96 contS := by
  intro R st w hR hs
  have HR := Lib.hid hR
  have HS := Lib.hid hs
  clear hR hs
  go_enter Try.func96, Try.ntmps96
  go_wp2_with (with_reducible refine wpList_halt_store 48 _ _ ?_)
  refine go_on (wpList_begin (s := contS) HR.out HS.out rfl (.tmp 3) (.tmp 4) rfl rfl rfl rfl rfl rfl (by kernel_rfl) (by kernel_rfl) (fun wA w0 zs HZ HRET HM0 => ?_))
  go_wp2_with (go_at_call 57; refine halt_here ?_)
  refine go_on ((DSt.int (k := 0) HM0.out rfl).mono ?_)
  rintro e w1 ⟨z, old, rfl, hc1, hf1, HM1⟩
  clear HM0
  go_wp2_with (go_at_call 57; refine halt_here ?_)
  refine go_on ((DSt.int (k := 1) HM1.out rfl).mono ?_)
  rintro e w2 ⟨z, old, rfl, hc2, hf2, HM2⟩
  clear hc1 hf1 HM1
  go_wp2_with (go_at_call 57; refine halt_here ?_)
  refine go_on ((DSt.int (k := 2) HM2.out rfl).mono ?_)
  rintro e w3 ⟨z, old, rfl, hc3, hf3, HM3⟩
  clear hc2 hf2 HM2
  go_wp2_with (go_at_call 57; refine halt_here ?_)
  refine go_on ((DSt.int (k := 3) HM3.out rfl).mono ?_)
  rintro e w4 ⟨z, old, rfl, hc4, hf4, HM4⟩
  clear hc3 hf3 HM3
  go_wp2_with (go_at_call 61; refine halt_here ?_)
  refine go_on ((DSt.ints (k := 4) HM4.out rfl).mono ?_)
  rintro e w5 ⟨za, zn, zc, old, rfl, hc5, hf5, HM5⟩
  clear hc4 hf4 HM4
  go_wp2_with (go_at_call 111; refine halt_here ?_)
  refine go_on ((DSt.list (k := 5) HM5.out rmods_r rfl).mono ?_)
  rintro e w6 ⟨za, zn, zc, old, rfl, hc6, hf6, HM6⟩
  clear hc5 hf5 HM5
  go_wp2_with (with_reducible refine wpList_halt_load 48 _ ?_)
  clear hc6 hf6
  obtain ⟨us, HB, HU, HROW, HRD, HK⟩ := HM6.out.done (k := 6) len_contS
  have HI := Lib.hid (show (Try.prog.info? 48).map (·.size) = some us.size by rw [HU.out]; exact siz48)
  have HONE := Lib.hid (show us.all (·.oneCell') = true by have h := all_oneCell_toArray (row_one HROW.out); simpa using h)
  obtain ⟨Z, HZS, HZC⟩ := HRET.out.kept HR.out.lt HK.out
  generalize (w6.setCell ⟨(w.heap.size + 1), 5, none⟩ (.slice za zn zc)) = wz at HB HROW HRD HK HZC
  clear HM6
  refine go_on (wpList_load_row rfl 48 (.tmp 3) rfl (w.heap.size + 1) rfl 48 us (0, 0) _ HB.out Try.underlying48 rfl HI.out ?_)
  go_wp2_with (with_reducible refine wpList_halt_store 48 _ _ ?_)
  refine go_on (wpList_store_row rfl 48 (.tmp 2) (.tmp 23) rfl w.heap.size us rfl rfl 48 Z HZC.out HI.out (by rw [HZS.out, HU.out]; exact len_contS) HONE.out ?_)
  go_wp2_with fail
  refine bodyPost_ret (results_one rfl rfl (setRow_heap wz _ Z us 48 (0, 0) HZC.out) Try.underlying48 rfl HI.out) rfl ?_
  exact RRead.of rfl HRET.out.grown HRET.out.size HR.out.lt HROW.out HRD.out HK.out
end Go.Proofs.Ytbcpdjhpceimlaa
