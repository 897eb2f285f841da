/-
  The reference's readers of layer 27: stack items, waiting abilities, continuous effects, a state, Decode.
-/
import Derived.Test.YtbcpdjhpceimlaaRefDec
import Derived.Laws.Rows
import Derived.Laws.Tables
import Derived.Test.YtbcpdjhpceimlaaRefDec2
namespace Go.Proofs.Ytbcpdjhpceimlaa
open Go.ChangeShapes Go.WideShapes Go.ChangeAt Go.RowKit
set_option linter.unusedVariables false

set_option maxRecDepth 100000 in
set_option maxHeartbeats 8000000 in
theorem ritem_r : RReader 94 itemS := by
  intro R st w hR hs
  have HR := Lib.hid hR
  have HS := Lib.hid hs
  clear hR hs
  go_enter Try.func94, Try.ntmps94
  go_wp2_with (with_reducible refine wpList_halt_store 97 _ _ ?_)
  refine go_on (wpList_begin (s := itemS) HR.out HS.out rfl (.tmp 3) (.tmp 7) rfl rfl rfl rfl rfl rfl (by kernel_rfl) (by kernel_rfl) (fun wA w0 zs HZ HRET HM0 => ?_))
  go_wp2_with (go_at_call 57; refine halt_here ?_)
  refine go_on ((DSt.int (k := 0) HM0.out rfl).mono ?_)
  rintro e w1 ⟨z, old, rfl, hc1, hf1, HM1⟩
  clear HM0
  go_wp2_with (go_at_call 57; refine halt_here ?_)
  refine go_on ((DSt.int (k := 1) HM1.out rfl).mono ?_)
  rintro e w2 ⟨z, old, rfl, hc2, hf2, HM2⟩
  clear hc1 hf1 HM1
  go_wp2_with (go_at_call 57; refine halt_here ?_)
  refine go_on ((DSt.int (k := 2) HM2.out rfl).mono ?_)
  rintro e w3 ⟨z, old, rfl, hc3, hf3, HM3⟩
  clear hc2 hf2 HM2
  go_wp2_with (go_at_call 57; refine halt_here ?_)
  refine go_on ((DSt.int (k := 3) HM3.out rfl).mono ?_)
  rintro e w4 ⟨z, old, rfl, hc4, hf4, HM4⟩
  clear hc3 hf3 HM3
  go_wp2_with (go_at_call 57; refine halt_here ?_)
  refine go_on ((DSt.int (k := 4) HM4.out rfl).mono ?_)
  rintro e w5 ⟨z, old, rfl, hc5, hf5, HM5⟩
  clear hc4 hf4 HM4
  go_wp2_with (go_at_call 58; refine halt_here ?_)
  refine go_on ((DSt.bool (k := 5) HM5.out rfl).mono ?_)
  rintro e w6 ⟨z, old, rfl, hc6, hf6, HM6⟩
  clear hc5 hf5 HM5
  go_wp2_with (go_at_call 109; refine halt_here ?_)
  refine go_on ((DSt.sub (k := 6) (m := 72) HM6.out rability_r rfl len_abilityS).mono ?_)
  rintro e w7 ⟨us7, rfl, HU7, HO7, HT7, HM7⟩
  clear hc6 hf6 HM6
  have HI7 := Lib.hid (show (Try.prog.info? 91).map (·.size) = some us7.size by rw [HU7.out]; exact siz91)
  go_wp2_with (with_reducible refine wpList_halt_store 91 _ _ ?_)
  refine go_on (wpList_store_mid rfl 91 (.tmp 28) (.tmp 27) rfl (w.heap.size + 1) 6 us7 rfl rfl HT7.out HI7.out HO7.out ?_)
  clear HU7 HO7 HT7 HI7
  generalize (w7.setCells (w.heap.size + 1) 6 us7.toList) = w7s at HM7
  go_wp2_with (go_at_call 56; refine halt_here ?_)
  refine go_on ((DSt.rows (k := 78) 164 2 HM7.out rfl (by rw [HZ.out]; rfl) len_targetS).mono ?_)
  rintro e wu78 ⟨n78, st1, cs, rfl, hn78, HL, HX⟩
  clear HM7
  have hwn78 : IntKind.i64.wrap (n78 : Int) = (n78 : Int) := wrapI _ (by omega) (by omega)
  go_upto_block 0 with fail
  go_cut [] from 4 (fun wc => Hid (DSt wA R (w.heap.size + 1) 97 zs itemS st 79 wc))
  case first =>
    go_wp2_with fail
    go_loopw [5] (fun i wr => ∃ k : Nat, i = .int .i64 k ∧ Hid (DLoop (w.heap.size + 1) 97 cs 78 wu78 R 164 2 targetS n78 st1 k wr)) (fun i _ => n78 - (intOf i).toNat)
    case atStart => exact ⟨0, rfl, HL⟩
    case round =>
      rename World => wr
      clear HL
      obtain ⟨k, rfl, HL⟩ := hrel
      obtain ⟨acc, cells, ov, stk, hl, hbk, hks⟩ := HL.out
      obtain ⟨ao, co, rfl⟩ := hl.slice
      replace HL := Lib.hid hl
      have HBK := Lib.hid hbk
      have HKS := Lib.hid hks
      clear hl hbk hks
      by_cases hlt : k < n78
      · obtain ⟨e, HE, he⟩ := err_read HL.out.rdr
        have HEE := Lib.hid HE
        clear HE
        rcases he with ⟨rfl, bk, rfl⟩ | ⟨he, rfl⟩
        · go_wp2_with (go_at_call 63; refine halt_here ?_)
          refine go_on (HEE.out.mono ?_)
          rintro x w9 ⟨rfl, rfl⟩
          clear HEE HX
          go_wp2_with (with_reducible refine wpList_halt_store 164 _ _ ?_)
          refine go_on (wpList_beginRow (s := targetS) HL.out.rdr HL.out.small rfl (.tmp 6) (.tmp 42) rfl rfl rfl rfl rfl (by kernel_rfl) (by kernel_rfl) (fun wr0 zsr HZr HMr0 => ?_))
          go_wp2_with (go_at_call 57; refine halt_here ?_)
          refine go_on ((DSt.int (k := 0) HMr0.out rfl).mono ?_)
          rintro e wr1 ⟨z, old, rfl, hc1, hf1, HMr1⟩
          clear HMr0
          go_wp2_with (go_at_call 57; refine halt_here ?_)
          refine go_on ((DSt.int (k := 1) HMr1.out rfl).mono ?_)
          rintro e wr2 ⟨z, old, rfl, hc2, hf2, HMr2⟩
          clear hc1 hf1 HMr1
          go_wp2_with (with_reducible refine wpList_halt_load 92 _ ?_)
          clear hc2 hf2
          obtain ⟨us, HB, HU, HROW, HRD, HKK⟩ := HMr2.out.done (k := 2) len_targetS
          generalize (wr2.setCell ⟨wr.heap.size, 1, none⟩ (.int .i64 z)) = wz at HB HROW HRD HKK
          clear HMr2 HZr
          have HBZ := Lib.hid (show wz.heap[(w.heap.size + 1)]? = some (.cells (cs.setIfInBounds 78 (.slice ao k co)) 97 (0, 0)) by rw [HKK.out.block _ (blk_lt HBK.out) (fun e => by have := HL.out.hW _ rfl; have := blk_lt HBK.out; rcases e with e | e <;> omega)]; exact HBK.out)
          have d1 : wz.cell? ⟨(w.heap.size + 1), 78, none⟩ = some (.slice ao k co) := by rw [blk_cell HBZ.out]; exact set_get HKS.out
          refine go_on ?_
          go_wp2_with (with_reducible refine wpList_halt_load 164 _ ?_)
          have HI := Lib.hid (show (Try.prog.info? 164).map (·.size) = some us.size by rw [HU.out]; exact siz164)
          obtain ⟨i0, z0, hi0, hz0, hz1, -, -⟩ := info_elem info164
          have HI0 := Lib.hid hi0
          have HZ0 := Lib.hid hz0
          have HZ1 := Lib.hid hz1
          clear hi0 hz0 hz1
          refine go_on (wpList_load_row rfl 164 (.tmp 6) rfl wr.heap.size rfl 164 us (0, 0) _ HB.out Try.underlying164 rfl HI.out ?_)
          go_wp2_with (with_reducible refine wpList_halt_build 92 1 _ ?_)
          refine go_on (wpList_wp rfl (fun K hK => wp_build_one 92 164 (.tmp 51) rfl us i0 z0 2 Try.underlying92 HI0.out HZ0.out HZ1.out (by decide) (by decide) rfl HU.out (hK _ _ ?_)))
          clear hK K
          have HG3 := Lib.hid (World.grownBy_alloc wz (.cells us 164) none)
          have HY3 := Lib.hid (heap_alloc_new wz (.cells us 164))
          generalize wz.alloc (.cells us 164) = w3 at HG3 HY3
          generalize wz.heap.size = Y at HY3
          clear HB HI HI0 HZ0 HZ1 HBZ d1
          refine wpList_wp rfl (fun K hK => ?_)
          refine HL.out.append (.tmp 50) (.tmp 52) 92 rfl Try.underlying92 info164 (by decide) (by decide) hlt HU.out HROW.out HRD.out HKK.out.grown HG3.out HY3.out rfl rfl ?_
          intro a4 c4 w4 hstep hkeep
          refine hK _ _ ?_
          clear hK K
          obtain ⟨old, hc, hf, HL2⟩ := DLoop.store HL.out HBK.out HKS.out hstep hkeep
          clear hstep hkeep HL HBK HKS HG3 HY3 HROW HRD HKK HU
          go_wp2_with fail
          clear hc hf
          go_roundw
          case rel => exact ⟨k + 1, by go_num, HL2⟩
          case measure => simp [intOf]; omega
        · have p1 : ((e : Int) == 0) = false := by simp; omega
          clear he
          go_wp2_with (go_at_call 63; refine halt_here ?_)
          refine go_on (HEE.out.mono ?_)
          rintro x w9 ⟨rfl, rfl⟩
          clear HEE
          go_wp2_with fail
          go_meet
          case rel => exact Lib.hid (HX.out k _ acc cells _ _ HL.out (.inr ⟨e, rfl⟩) HBK.out)
      · go_wp2_with fail
        go_meet
        case rel => exact Lib.hid (HX.out k _ acc cells _ _ HL.out (.inl (by omega)) HBK.out)
  case rest =>
    rename World => wd78
    have HM8 : Hid (DSt wA R (w.heap.size + 1) 97 zs itemS st 79 wd78) := hcut
    clear hcut HL HX hwn78 hn78
    go_wp2_with (go_at_call 110; refine halt_here ?_)
    refine go_on ((DSt.sub (k := 79) (m := 15) HM8.out revent_r rfl len_eventS).mono ?_)
    rintro e w9 ⟨us9, rfl, HU9, HO9, HT9, HM9⟩
    clear HM8
    have HI9 := Lib.hid (show (Try.prog.info? 95).map (·.size) = some us9.size by rw [HU9.out]; exact siz95)
    go_wp2_with (with_reducible refine wpList_halt_store 95 _ _ ?_)
    refine go_on (wpList_store_mid rfl 95 (.tmp 57) (.tmp 56) rfl (w.heap.size + 1) 79 us9 rfl rfl HT9.out HI9.out HO9.out ?_)
    clear HU9 HO9 HT9 HI9
    generalize (w9.setCells (w.heap.size + 1) 79 us9.toList) = w9s at HM9
    go_wp2_with (with_reducible refine wpList_halt_load 97 _ ?_)
    obtain ⟨us, HB, HU, HROW, HRD, HK⟩ := HM9.out.done (k := 94) len_itemS
    have HI := Lib.hid (show (Try.prog.info? 97).map (·.size) = some us.size by rw [HU.out]; exact siz97)
    have HONE := Lib.hid (show us.all (·.oneCell') = true by have h := all_oneCell_toArray (row_one HROW.out); simpa using h)
    obtain ⟨Z, HZS, HZC⟩ := HRET.out.kept HR.out.lt HK.out
    clear HM9
    refine go_on (wpList_load_row rfl 97 (.tmp 3) rfl (w.heap.size + 1) rfl 97 us (0, 0) _ HB.out Try.underlying97 rfl HI.out ?_)
    go_wp2_with (with_reducible refine wpList_halt_store 97 _ _ ?_)
    refine go_on (wpList_store_row rfl 97 (.tmp 2) (.tmp 58) rfl w.heap.size us rfl rfl 97 Z HZC.out HI.out (by rw [HZS.out, HU.out]; exact len_itemS) HONE.out ?_)
    go_wp2_with fail
    refine bodyPost_ret (results_one rfl rfl (setRow_heap w9s _ Z us 97 (0, 0) HZC.out) Try.underlying97 rfl HI.out) rfl ?_
    exact RRead.of rfl HRET.out.grown HRET.out.size HR.out.lt HROW.out HRD.out HK.out

set_option maxRecDepth 100000 in
set_option maxHeartbeats 4000000 in
theorem rwaiting_r : RReader 95 waitingS := by
  intro R st w hR hs
  have HR := Lib.hid hR
  have HS := Lib.hid hs
  clear hR hs
  go_enter Try.func95, Try.ntmps95
  go_wp2_with (with_reducible refine wpList_halt_store 100 _ _ ?_)
  refine go_on (wpList_begin (s := waitingS) HR.out HS.out rfl (.tmp 3) (.tmp 4) rfl rfl rfl rfl rfl rfl (by kernel_rfl) (by kernel_rfl) (fun wA w0 zs HZ HRET HM0 => ?_))
  go_wp2_with (go_at_call 57; refine halt_here ?_)
  refine go_on ((DSt.int (k := 0) HM0.out rfl).mono ?_)
  rintro e w1 ⟨z, old, rfl, hc1, hf1, HM1⟩
  clear HM0
  go_wp2_with (go_at_call 57; refine halt_here ?_)
  refine go_on ((DSt.int (k := 1) HM1.out rfl).mono ?_)
  rintro e w2 ⟨z, old, rfl, hc2, hf2, HM2⟩
  clear hc1 hf1 HM1
  go_wp2_with (go_at_call 109; refine halt_here ?_)
  refine go_on ((DSt.sub (k := 2) (m := 72) HM2.out rability_r rfl len_abilityS).mono ?_)
  rintro e w3 ⟨us3, rfl, HU3, HO3, HT3, HM3⟩
  clear hc2 hf2 HM2
  have HI3 := Lib.hid (show (Try.prog.info? 91).map (·.size) = some us3.size by rw [HU3.out]; exact siz91)
  go_wp2_with (with_reducible refine wpList_halt_store 91 _ _ ?_)
  refine go_on (wpList_store_mid rfl 91 (.tmp 13) (.tmp 12) rfl (w.heap.size + 1) 2 us3 rfl rfl HT3.out HI3.out HO3.out ?_)
  clear HU3 HO3 HT3 HI3
  generalize (w3.setCells (w.heap.size + 1) 2 us3.toList) = w3s at HM3
  go_wp2_with (go_at_call 110; refine halt_here ?_)
  refine go_on ((DSt.sub (k := 74) (m := 15) HM3.out revent_r rfl len_eventS).mono ?_)
  rintro e w4 ⟨us4, rfl, HU4, HO4, HT4, HM4⟩
  clear HM3
  have HI4 := Lib.hid (show (Try.prog.info? 95).map (·.size) = some us4.size by rw [HU4.out]; exact siz95)
  go_wp2_with (with_reducible refine wpList_halt_store 95 _ _ ?_)
  refine go_on (wpList_store_mid rfl 95 (.tmp 16) (.tmp 15) rfl (w.heap.size + 1) 74 us4 rfl rfl HT4.out HI4.out HO4.out ?_)
  clear HU4 HO4 HT4 HI4
  generalize (w4.setCells (w.heap.size + 1) 74 us4.toList) = w4s at HM4
  go_wp2_with (with_reducible refine wpList_halt_load 100 _ ?_)
  obtain ⟨us, HB, HU, HROW, HRD, HK⟩ := HM4.out.done (k := 89) len_waitingS
  have HI := Lib.hid (show (Try.prog.info? 100).map (·.size) = some us.size by rw [HU.out]; exact siz100)
  have HONE := Lib.hid (show us.all (·.oneCell') = true by have h := all_oneCell_toArray (row_one HROW.out); simpa using h)
  obtain ⟨Z, HZS, HZC⟩ := HRET.out.kept HR.out.lt HK.out
  clear HM4
  refine go_on (wpList_load_row rfl 100 (.tmp 3) rfl (w.heap.size + 1) rfl 100 us (0, 0) _ HB.out Try.underlying100 rfl HI.out ?_)
  go_wp2_with (with_reducible refine wpList_halt_store 100 _ _ ?_)
  refine go_on (wpList_store_row rfl 100 (.tmp 2) (.tmp 17) rfl w.heap.size us rfl rfl 100 Z HZC.out HI.out (by rw [HZS.out, HU.out]; exact len_waitingS) HONE.out ?_)
  go_wp2_with fail
  refine bodyPost_ret (results_one rfl rfl (setRow_heap w4s _ Z us 100 (0, 0) HZC.out) Try.underlying100 rfl HI.out) rfl ?_
  exact RRead.of rfl HRET.out.grown HRET.out.size HR.out.lt HROW.out HRD.out HK.out

set_option maxRecDepth 100000 in
set_option maxHeartbeats 4000000 in
theorem rcont_r : RReader 96 contS := by
  intro R st w hR hs
  have HR := Lib.hid hR
  have HS := Lib.hid hs
  clear hR hs
  go_enter Try.func96, Try.ntmps96
  go_wp2_with (with_reducible refine wpList_halt_store 48 _ _ ?_)
  refine go_on (wpList_begin (s := contS) HR.out HS.out rfl (.tmp 3) (.tmp 4) rfl rfl rfl rfl rfl rfl (by kernel_rfl) (by kernel_rfl) (fun wA w0 zs HZ HRET HM0 => ?_))
  go_wp2_with (go_at_call 57; refine halt_here ?_)
  refine go_on ((DSt.int (k := 0) HM0.out rfl).mono ?_)
  rintro e w1 ⟨z, old, rfl, hc1, hf1, HM1⟩
  clear HM0
  go_wp2_with (go_at_call 57; refine halt_here ?_)
  refine go_on ((DSt.int (k := 1) HM1.out rfl).mono ?_)
  rintro e w2 ⟨z, old, rfl, hc2, hf2, HM2⟩
  clear hc1 hf1 HM1
  go_wp2_with (go_at_call 57; refine halt_here ?_)
  refine go_on ((DSt.int (k := 2) HM2.out rfl).mono ?_)
  rintro e w3 ⟨z, old, rfl, hc3, hf3, HM3⟩
  clear hc2 hf2 HM2
  go_wp2_with (go_at_call 57; refine halt_here ?_)
  refine go_on ((DSt.int (k := 3) HM3.out rfl).mono ?_)
  rintro e w4 ⟨z, old, rfl, hc4, hf4, HM4⟩
  clear hc3 hf3 HM3
  go_wp2_with (go_at_call 61; refine halt_here ?_)
  refine go_on ((DSt.ints (k := 4) HM4.out rfl).mono ?_)
  rintro e w5 ⟨za, zn, zc, old, rfl, hc5, hf5, HM5⟩
  clear hc4 hf4 HM4
  go_wp2_with (go_at_call 111; refine halt_here ?_)
  refine go_on ((DSt.list (k := 5) HM5.out rmods_r rfl).mono ?_)
  rintro e w6 ⟨za, zn, zc, old, rfl, hc6, hf6, HM6⟩
  clear hc5 hf5 HM5
  go_wp2_with (with_reducible refine wpList_halt_load 48 _ ?_)
  clear hc6 hf6
  obtain ⟨us, HB, HU, HROW, HRD, HK⟩ := HM6.out.done (k := 6) len_contS
  have HI := Lib.hid (show (Try.prog.info? 48).map (·.size) = some us.size by rw [HU.out]; exact siz48)
  have HONE := Lib.hid (show us.all (·.oneCell') = true by have h := all_oneCell_toArray (row_one HROW.out); simpa using h)
  obtain ⟨Z, HZS, HZC⟩ := HRET.out.kept HR.out.lt HK.out
  generalize (w6.setCell ⟨(w.heap.size + 1), 5, none⟩ (.slice za zn zc)) = wz at HB HROW HRD HK HZC
  clear HM6
  refine go_on (wpList_load_row rfl 48 (.tmp 3) rfl (w.heap.size + 1) rfl 48 us (0, 0) _ HB.out Try.underlying48 rfl HI.out ?_)
  go_wp2_with (with_reducible refine wpList_halt_store 48 _ _ ?_)
  refine go_on (wpList_store_row rfl 48 (.tmp 2) (.tmp 23) rfl w.heap.size us rfl rfl 48 Z HZC.out HI.out (by rw [HZS.out, HU.out]; exact len_contS) HONE.out ?_)
  go_wp2_with fail
  refine bodyPost_ret (results_one rfl rfl (setRow_heap wz _ Z us 48 (0, 0) HZC.out) Try.underlying48 rfl HI.out) rfl ?_
  exact RRead.of rfl HRET.out.grown HRET.out.size HR.out.lt HROW.out HRD.out HK.out

set_option maxRecDepth 100000 in
set_option maxHeartbeats 8000000 in
theorem rstate_r : RReader 70 stateS := by
  intro R st w hR hs
  have HR := Lib.hid hR
  have HS := Lib.hid hs
  clear hR hs
  go_enter Try.func70, Try.ntmps70
  go_wp2_with (with_reducible refine wpList_halt_store 30 _ _ ?_)
  refine go_on (wpList_begin (s := stateS) HR.out HS.out rfl (.tmp 3) (.tmp 10) rfl rfl rfl rfl rfl rfl (by kernel_rfl) (by kernel_rfl) (fun wA w0 zs HZ HRET HM0 => ?_))
  go_wp2_with (go_at_call 56; refine halt_here ?_)
  refine go_on ((DSt.rows (k := 0) 78 14 HM0.out rfl (by rw [HZ.out]; rfl) len_playerS).mono ?_)
  rintro e wu0 ⟨n0, st1, cs, rfl, hn0, HL, HX⟩
  clear HM0
  have hwn0 : IntKind.i64.wrap (n0 : Int) = (n0 : Int) := wrapI _ (by omega) (by omega)
  go_upto_block 0 with fail
  go_cut [] from 4 (fun wc => Hid (DSt wA R (w.heap.size + 1) 30 zs stateS st 1 wc))
  case first =>
    go_wp2_with fail
    go_loopw [5] (fun i wr => ∃ k : Nat, i = .int .i64 k ∧ Hid (DLoop (w.heap.size + 1) 30 cs 0 wu0 R 78 14 playerS n0 st1 k wr)) (fun i _ => n0 - (intOf i).toNat)
    case atStart => exact ⟨0, rfl, HL⟩
    case round =>
      rename World => wr
      clear HL
      obtain ⟨k, rfl, HL⟩ := hrel
      obtain ⟨acc, cells, ov, stk, hl, hbk, hks⟩ := HL.out
      obtain ⟨ao, co, rfl⟩ := hl.slice
      replace HL := Lib.hid hl
      have HBK := Lib.hid hbk
      have HKS := Lib.hid hks
      clear hl hbk hks
      by_cases hlt : k < n0
      · obtain ⟨e, HE, he⟩ := err_read HL.out.rdr
        have HEE := Lib.hid HE
        clear HE
        rcases he with ⟨rfl, bk, rfl⟩ | ⟨he, rfl⟩
        · go_wp2_with (go_at_call 63; refine halt_here ?_)
          refine go_on (HEE.out.mono ?_)
          rintro x w9 ⟨rfl, rfl⟩
          clear HEE HX
          have HLD := Lib.hid (HL.out.later (drew_g0 wr))
          have HBKD := Lib.hid (show wr.drew.heap[(w.heap.size + 1)]? = some (.cells (cs.setIfInBounds 0 (.slice ao k co)) 30 (0, 0)) from HBK.out)
          have d0 : wr.drew.cell? ⟨(w.heap.size + 1), 0, none⟩ = some (.slice ao k co) := by rw [blk_cell HBKD.out]; exact set_get HKS.out
          clear HL HBK
          go_wp2_with fail
          refine wp_region_plan [(0, none), (1, some none), (2, none), (3, some (some true)), (4, some (some true)), (5, some (some false)), (6, none), (7, some (some false))] (by kernel_rfl) (by kernel_rfl) ?_
          generalize wr.drew = wd at d0 HLD HBKD
          repeat (first | (refine plan_free (v := ?_) rfl rfl (fun _ => ?_) (fun K hK => ?_); rotate_left 1; (focus (go_simp <;> exact rfl)); go_simp; refine hK _ _ ?_; clear hK K) | (refine plan_held (v := ?_) rfl rfl ?_ (fun K hK => ?_); rotate_left 1; (focus (go_simp <;> exact rfl)); go_simp; refine hK _ _ ?_; clear hK K) | (refine plan_skip rfl rfl (fun K hK => ?_); go_simp; refine hK _ _ ?_; clear hK K))
          refine plan_effH rfl rfl (fun K hK => ?_)
          go_wp2_with (go_at_call 92; refine halt_here ?_)
          refine go_on ((rplayer_r R _ wd HLD.out.rdr HLD.out.small).mono ?_)
          rintro e w2 ⟨us, rfl, hrow, hrd, hg⟩
          have HBK2 := Lib.hid (show w2.heap[(w.heap.size + 1)]? = some (.cells (cs.setIfInBounds 0 (.slice ao k co)) 30 (0, 0)) by rw [hg.block _ (blk_lt HBKD.out) (fun e => by injection e with e; have := HLD.out.hW _ rfl; omega)]; exact HBKD.out)
          have d2 : w2.cell? ⟨(w.heap.size + 1), 0, none⟩ = some (.slice ao k co) := by rw [blk_cell HBK2.out]; exact set_get HKS.out
          have HROW := Lib.hid (show RowRep (fun k => wd.heap.size ≤ k) w2 playerS _ us.toArray.toList by simpa using hrow)
          have HRD := Lib.hid hrd
          have HG := Lib.hid hg
          have HU := Lib.hid (show us.toArray.size = 14 by rw [List.size_toArray, hrow.2.1]; exact len_playerS)
          obtain ⟨i0, z0, hi0, hz0, hz1, -, -⟩ := info_elem info78
          have HI0 := Lib.hid hi0
          have HZ0 := Lib.hid hz0
          have HZ1 := Lib.hid hz1
          clear hrow hrd hg d0 hi0 hz0 hz1
          go_wp2_with fail
          refine ⟨⟨by go_simp, trivial⟩, ?_⟩
          refine plan_effH rfl rfl (fun K hK => ?_)
          refine wp_build_one 22 78 (.tmp 27) rfl us.toArray i0 z0 14 Try.underlying22 HI0.out HZ0.out HZ1.out (by decide) (by decide) rfl HU.out ?_
          have HG3 := Lib.hid (World.grownBy_alloc w2 (.cells us.toArray 78) none)
          have HY3 := Lib.hid (heap_alloc_new w2 (.cells us.toArray 78))
          have d3 : (w2.alloc (.cells us.toArray 78)).cell? ⟨(w.heap.size + 1), 0, none⟩ = some (.slice ao k co) := by rw [cell?_heap (p := ⟨(w.heap.size + 1), 0, none⟩) (HG3.out.block _ (blk_lt HBK2.out) (by simp))]; exact d2
          generalize w2.alloc (.cells us.toArray 78) = w3 at HG3 HY3 d3
          generalize w2.heap.size = Y at HY3
          refine hK _ _ ⟨⟨by go_simp, trivial⟩, ?_⟩
          clear hK K
          refine plan_eff rfl rfl (fun K hK => ?_)
          refine HLD.out.append (.tmp 25) (.tmp 28) 22 rfl Try.underlying22 info78 (by decide) (by decide) hlt HU.out HROW.out HRD.out HG.out HG3.out HY3.out rfl rfl ?_
          intro a4 c4 w4 hstep hkeep
          refine hK _ _ ?_
          clear hK K
          obtain ⟨old, hc, hf, HL2⟩ := DLoop.store HLD.out HBKD.out HKS.out hstep hkeep
          clear hstep hkeep HLD HBKD HKS HG3 HY3 HROW HRD HG HU HI0 HZ0 HZ1 HBK2 d2 d3
          repeat (first | (refine plan_free (v := ?_) rfl rfl (fun _ => ?_) (fun K hK => ?_); rotate_left 1; (focus (go_simp <;> exact rfl)); go_simp; refine hK _ _ ?_; clear hK K) | (refine plan_held (v := ?_) rfl rfl ?_ (fun K hK => ?_); rotate_left 1; (focus (go_simp <;> exact rfl)); go_simp; refine hK _ _ ?_; clear hK K) | (refine plan_skip rfl rfl (fun K hK => ?_); go_simp; refine hK _ _ ?_; clear hK K))
          refine plan_eff rfl rfl (fun K hK => ?_)
          go_wp2_with fail
          refine plan_nil ?_
          go_wp2_with fail
          go_roundw
          case rel => exact ⟨k + 1, by go_num, HL2⟩
          case measure => simp [intOf]; omega
        · have p1 : ((e : Int) == 0) = false := by simp; omega
          clear he
          go_wp2_with (go_at_call 63; refine halt_here ?_)
          refine go_on (HEE.out.mono ?_)
          rintro x w9 ⟨rfl, rfl⟩
          clear HEE
          go_wp2_with fail
          go_meet
          case rel => exact Lib.hid (HX.out k _ acc cells _ _ HL.out (.inr ⟨e, rfl⟩) HBK.out)
      · go_wp2_with fail
        go_meet
        case rel => exact Lib.hid (HX.out k _ acc cells _ _ HL.out (.inl (by omega)) HBK.out)
  case rest =>
    rename World => wd0
    have HM1 : Hid (DSt wA R (w.heap.size + 1) 30 zs stateS st 1 wd0) := hcut
    clear hcut HL HX hwn0 hn0
    go_wp2_with (go_at_call 56; refine halt_here ?_)
    refine go_on ((DSt.rows (k := 1) 125 19 HM1.out rfl (by rw [HZ.out]; rfl) len_objectS).mono ?_)
    rintro e wu1 ⟨n1, st1, cs, rfl, hn1, HL, HX⟩
    clear HM1
    have hwn1 : IntKind.i64.wrap (n1 : Int) = (n1 : Int) := wrapI _ (by omega) (by omega)
    go_upto_block 2 with fail
    go_cut [] from 4 (fun wc => Hid (DSt wA R (w.heap.size + 1) 30 zs stateS st 2 wc))
    case first =>
      go_wp2_with fail
      go_loopw [6] (fun i wr => ∃ k : Nat, i = .int .i64 k ∧ Hid (DLoop (w.heap.size + 1) 30 cs 1 wu1 R 125 19 objectS n1 st1 k wr)) (fun i _ => n1 - (intOf i).toNat)
      case atStart => exact ⟨0, rfl, HL⟩
      case round =>
        rename World => wr
        clear HL
        obtain ⟨k, rfl, HL⟩ := hrel
        obtain ⟨acc, cells, ov, stk, hl, hbk, hks⟩ := HL.out
        obtain ⟨ao, co, rfl⟩ := hl.slice
        replace HL := Lib.hid hl
        have HBK := Lib.hid hbk
        have HKS := Lib.hid hks
        clear hl hbk hks
        by_cases hlt : k < n1
        · obtain ⟨e, HE, he⟩ := err_read HL.out.rdr
          have HEE := Lib.hid HE
          clear HE
          rcases he with ⟨rfl, bk, rfl⟩ | ⟨he, rfl⟩
          · go_wp2_with (go_at_call 63; refine halt_here ?_)
            refine go_on (HEE.out.mono ?_)
            rintro x w9 ⟨rfl, rfl⟩
            clear HEE HX
            have HLD := Lib.hid (HL.out.later (drew_g0 wr))
            have HBKD := Lib.hid (show wr.drew.heap[(w.heap.size + 1)]? = some (.cells (cs.setIfInBounds 1 (.slice ao k co)) 30 (0, 0)) from HBK.out)
            have d0 : wr.drew.cell? ⟨(w.heap.size + 1), 1, none⟩ = some (.slice ao k co) := by rw [blk_cell HBKD.out]; exact set_get HKS.out
            clear HL HBK
            go_wp2_with fail
            refine wp_region_plan [(0, none), (1, some none), (2, none), (3, some (some true)), (4, some (some true)), (5, some (some false)), (6, none), (7, some (some false))] (by kernel_rfl) (by kernel_rfl) ?_
            generalize wr.drew = wd at d0 HLD HBKD
            repeat (first | (refine plan_free (v := ?_) rfl rfl (fun _ => ?_) (fun K hK => ?_); rotate_left 1; (focus (go_simp <;> exact rfl)); go_simp; refine hK _ _ ?_; clear hK K) | (refine plan_held (v := ?_) rfl rfl ?_ (fun K hK => ?_); rotate_left 1; (focus (go_simp <;> exact rfl)); go_simp; refine hK _ _ ?_; clear hK K) | (refine plan_skip rfl rfl (fun K hK => ?_); go_simp; refine hK _ _ ?_; clear hK K))
            refine plan_effH rfl rfl (fun K hK => ?_)
            go_wp2_with (go_at_call 93; refine halt_here ?_)
            refine go_on ((robject_r R _ wd HLD.out.rdr HLD.out.small).mono ?_)
            rintro e w2 ⟨us, rfl, hrow, hrd, hg⟩
            have HBK2 := Lib.hid (show w2.heap[(w.heap.size + 1)]? = some (.cells (cs.setIfInBounds 1 (.slice ao k co)) 30 (0, 0)) by rw [hg.block _ (blk_lt HBKD.out) (fun e => by injection e with e; have := HLD.out.hW _ rfl; omega)]; exact HBKD.out)
            have d2 : w2.cell? ⟨(w.heap.size + 1), 1, none⟩ = some (.slice ao k co) := by rw [blk_cell HBK2.out]; exact set_get HKS.out
            have HROW := Lib.hid (show RowRep (fun k => wd.heap.size ≤ k) w2 objectS _ us.toArray.toList by simpa using hrow)
            have HRD := Lib.hid hrd
            have HG := Lib.hid hg
            have HU := Lib.hid (show us.toArray.size = 19 by rw [List.size_toArray, hrow.2.1]; exact len_objectS)
            obtain ⟨i0, z0, hi0, hz0, hz1, -, -⟩ := info_elem info125
            have HI0 := Lib.hid hi0
            have HZ0 := Lib.hid hz0
            have HZ1 := Lib.hid hz1
            clear hrow hrd hg d0 hi0 hz0 hz1
            go_wp2_with fail
            refine ⟨⟨by go_simp, trivial⟩, ?_⟩
            refine plan_effH rfl rfl (fun K hK => ?_)
            refine wp_build_one 23 125 (.tmp 47) rfl us.toArray i0 z0 19 Try.underlying23 HI0.out HZ0.out HZ1.out (by decide) (by decide) rfl HU.out ?_
            have HG3 := Lib.hid (World.grownBy_alloc w2 (.cells us.toArray 125) none)
            have HY3 := Lib.hid (heap_alloc_new w2 (.cells us.toArray 125))
            have d3 : (w2.alloc (.cells us.toArray 125)).cell? ⟨(w.heap.size + 1), 1, none⟩ = some (.slice ao k co) := by rw [cell?_heap (p := ⟨(w.heap.size + 1), 1, none⟩) (HG3.out.block _ (blk_lt HBK2.out) (by simp))]; exact d2
            generalize w2.alloc (.cells us.toArray 125) = w3 at HG3 HY3 d3
            generalize w2.heap.size = Y at HY3
            refine hK _ _ ⟨⟨by go_simp, trivial⟩, ?_⟩
            clear hK K
            refine plan_eff rfl rfl (fun K hK => ?_)
            refine HLD.out.append (.tmp 45) (.tmp 48) 23 rfl Try.underlying23 info125 (by decide) (by decide) hlt HU.out HROW.out HRD.out HG.out HG3.out HY3.out rfl rfl ?_
            intro a4 c4 w4 hstep hkeep
            refine hK _ _ ?_
            clear hK K
            obtain ⟨old, hc, hf, HL2⟩ := DLoop.store HLD.out HBKD.out HKS.out hstep hkeep
            clear hstep hkeep HLD HBKD HKS HG3 HY3 HROW HRD HG HU HI0 HZ0 HZ1 HBK2 d2 d3
            repeat (first | (refine plan_free (v := ?_) rfl rfl (fun _ => ?_) (fun K hK => ?_); rotate_left 1; (focus (go_simp <;> exact rfl)); go_simp; refine hK _ _ ?_; clear hK K) | (refine plan_held (v := ?_) rfl rfl ?_ (fun K hK => ?_); rotate_left 1; (focus (go_simp <;> exact rfl)); go_simp; refine hK _ _ ?_; clear hK K) | (refine plan_skip rfl rfl (fun K hK => ?_); go_simp; refine hK _ _ ?_; clear hK K))
            refine plan_eff rfl rfl (fun K hK => ?_)
            go_wp2_with fail
            refine plan_nil ?_
            go_wp2_with fail
            go_roundw
            case rel => exact ⟨k + 1, by go_num, HL2⟩
            case measure => simp [intOf]; omega
          · have p1 : ((e : Int) == 0) = false := by simp; omega
            clear he
            go_wp2_with (go_at_call 63; refine halt_here ?_)
            refine go_on (HEE.out.mono ?_)
            rintro x w9 ⟨rfl, rfl⟩
            clear HEE
            go_wp2_with fail
            go_meet
            case rel => exact Lib.hid (HX.out k _ acc cells _ _ HL.out (.inr ⟨e, rfl⟩) HBK.out)
        · go_wp2_with fail
          go_meet
          case rel => exact Lib.hid (HX.out k _ acc cells _ _ HL.out (.inl (by omega)) HBK.out)
    case rest =>
      rename World => wd1
      have HM2 : Hid (DSt wA R (w.heap.size + 1) 30 zs stateS st 2 wd1) := hcut
      clear hcut HL HX hwn1 hn1
      go_wp2_with (go_at_call 61; refine halt_here ?_)
      refine go_on ((DSt.ints (k := 2) HM2.out rfl).mono ?_)
      rintro e w3 ⟨za, zn, zc, old, rfl, hc3, hf3, HM3⟩
      clear HM2
      go_wp2_with (go_at_call 61; refine halt_here ?_)
      refine go_on ((DSt.ints (k := 3) HM3.out rfl).mono ?_)
      rintro e w4 ⟨za, zn, zc, old, rfl, hc4, hf4, HM4⟩
      clear hc3 hf3 HM3
      go_wp2_with (go_at_call 56; refine halt_here ?_)
      refine go_on ((DSt.rows (k := 4) 97 94 HM4.out rfl (by rw [HZ.out]; rfl) len_itemS).mono ?_)
      rintro e wu4 ⟨n4, st1, cs, rfl, hn4, HL, HX⟩
      clear hc4 hf4 HM4
      have hwn4 : IntKind.i64.wrap (n4 : Int) = (n4 : Int) := wrapI _ (by omega) (by omega)
      go_upto_block 4 with fail
      go_cut [] from 4 (fun wc => Hid (DSt wA R (w.heap.size + 1) 30 zs stateS st 5 wc))
      case first =>
        go_wp2_with fail
        go_loopw [7] (fun i wr => ∃ k : Nat, i = .int .i64 k ∧ Hid (DLoop (w.heap.size + 1) 30 cs 4 wu4 R 97 94 itemS n4 st1 k wr)) (fun i _ => n4 - (intOf i).toNat)
        case atStart => exact ⟨0, rfl, HL⟩
        case round =>
          rename World => wr
          clear HL
          obtain ⟨k, rfl, HL⟩ := hrel
          obtain ⟨acc, cells, ov, stk, hl, hbk, hks⟩ := HL.out
          obtain ⟨ao, co, rfl⟩ := hl.slice
          replace HL := Lib.hid hl
          have HBK := Lib.hid hbk
          have HKS := Lib.hid hks
          clear hl hbk hks
          by_cases hlt : k < n4
          · obtain ⟨e, HE, he⟩ := err_read HL.out.rdr
            have HEE := Lib.hid HE
            clear HE
            rcases he with ⟨rfl, bk, rfl⟩ | ⟨he, rfl⟩
            · go_wp2_with (go_at_call 63; refine halt_here ?_)
              refine go_on (HEE.out.mono ?_)
              rintro x w9 ⟨rfl, rfl⟩
              clear HEE HX
              have HLD := Lib.hid (HL.out.later (drew_g0 wr))
              have HBKD := Lib.hid (show wr.drew.heap[(w.heap.size + 1)]? = some (.cells (cs.setIfInBounds 4 (.slice ao k co)) 30 (0, 0)) from HBK.out)
              have d0 : wr.drew.cell? ⟨(w.heap.size + 1), 4, none⟩ = some (.slice ao k co) := by rw [blk_cell HBKD.out]; exact set_get HKS.out
              clear HL HBK
              go_wp2_with fail
              refine wp_region_plan [(0, none), (1, some none), (2, none), (3, some (some true)), (4, some (some true)), (5, some (some false)), (6, none), (7, some (some false))] (by kernel_rfl) (by kernel_rfl) ?_
              generalize wr.drew = wd at d0 HLD HBKD
              repeat (first | (refine plan_free (v := ?_) rfl rfl (fun _ => ?_) (fun K hK => ?_); rotate_left 1; (focus (go_simp <;> exact rfl)); go_simp; refine hK _ _ ?_; clear hK K) | (refine plan_held (v := ?_) rfl rfl ?_ (fun K hK => ?_); rotate_left 1; (focus (go_simp <;> exact rfl)); go_simp; refine hK _ _ ?_; clear hK K) | (refine plan_skip rfl rfl (fun K hK => ?_); go_simp; refine hK _ _ ?_; clear hK K))
              refine plan_effH rfl rfl (fun K hK => ?_)
              go_wp2_with (go_at_call 94; refine halt_here ?_)
              refine go_on ((ritem_r R _ wd HLD.out.rdr HLD.out.small).mono ?_)
              rintro e w2 ⟨us, rfl, hrow, hrd, hg⟩
              have HBK2 := Lib.hid (show w2.heap[(w.heap.size + 1)]? = some (.cells (cs.setIfInBounds 4 (.slice ao k co)) 30 (0, 0)) by rw [hg.block _ (blk_lt HBKD.out) (fun e => by injection e with e; have := HLD.out.hW _ rfl; omega)]; exact HBKD.out)
              have d2 : w2.cell? ⟨(w.heap.size + 1), 4, none⟩ = some (.slice ao k co) := by rw [blk_cell HBK2.out]; exact set_get HKS.out
              have HROW := Lib.hid (show RowRep (fun k => wd.heap.size ≤ k) w2 itemS _ us.toArray.toList by simpa using hrow)
              have HRD := Lib.hid hrd
              have HG := Lib.hid hg
              have HU := Lib.hid (show us.toArray.size = 94 by rw [List.size_toArray, hrow.2.1]; exact len_itemS)
              obtain ⟨i0, z0, hi0, hz0, hz1, -, -⟩ := info_elem info97
              have HI0 := Lib.hid hi0
              have HZ0 := Lib.hid hz0
              have HZ1 := Lib.hid hz1
              clear hrow hrd hg d0 hi0 hz0 hz1
              go_wp2_with fail
              refine ⟨⟨by go_simp, trivial⟩, ?_⟩
              refine plan_effH rfl rfl (fun K hK => ?_)
              refine wp_build_one 25 97 (.tmp 73) rfl us.toArray i0 z0 94 Try.underlying25 HI0.out HZ0.out HZ1.out (by decide) (by decide) rfl HU.out ?_
              have HG3 := Lib.hid (World.grownBy_alloc w2 (.cells us.toArray 97) none)
              have HY3 := Lib.hid (heap_alloc_new w2 (.cells us.toArray 97))
              have d3 : (w2.alloc (.cells us.toArray 97)).cell? ⟨(w.heap.size + 1), 4, none⟩ = some (.slice ao k co) := by rw [cell?_heap (p := ⟨(w.heap.size + 1), 4, none⟩) (HG3.out.block _ (blk_lt HBK2.out) (by simp))]; exact d2
              generalize w2.alloc (.cells us.toArray 97) = w3 at HG3 HY3 d3
              generalize w2.heap.size = Y at HY3
              refine hK _ _ ⟨⟨by go_simp, trivial⟩, ?_⟩
              clear hK K
              refine plan_eff rfl rfl (fun K hK => ?_)
              refine HLD.out.append (.tmp 71) (.tmp 74) 25 rfl Try.underlying25 info97 (by decide) (by decide) hlt HU.out HROW.out HRD.out HG.out HG3.out HY3.out rfl rfl ?_
              intro a4 c4 w4 hstep hkeep
              refine hK _ _ ?_
              clear hK K
              obtain ⟨old, hc, hf, HL2⟩ := DLoop.store HLD.out HBKD.out HKS.out hstep hkeep
              clear hstep hkeep HLD HBKD HKS HG3 HY3 HROW HRD HG HU HI0 HZ0 HZ1 HBK2 d2 d3
              repeat (first | (refine plan_free (v := ?_) rfl rfl (fun _ => ?_) (fun K hK => ?_); rotate_left 1; (focus (go_simp <;> exact rfl)); go_simp; refine hK _ _ ?_; clear hK K) | (refine plan_held (v := ?_) rfl rfl ?_ (fun K hK => ?_); rotate_left 1; (focus (go_simp <;> exact rfl)); go_simp; refine hK _ _ ?_; clear hK K) | (refine plan_skip rfl rfl (fun K hK => ?_); go_simp; refine hK _ _ ?_; clear hK K))
              refine plan_eff rfl rfl (fun K hK => ?_)
              go_wp2_with fail
              refine plan_nil ?_
              go_wp2_with fail
              go_roundw
              case rel => exact ⟨k + 1, by go_num, HL2⟩
              case measure => simp [intOf]; omega
            · have p1 : ((e : Int) == 0) = false := by simp; omega
              clear he
              go_wp2_with (go_at_call 63; refine halt_here ?_)
              refine go_on (HEE.out.mono ?_)
              rintro x w9 ⟨rfl, rfl⟩
              clear HEE
              go_wp2_with fail
              go_meet
              case rel => exact Lib.hid (HX.out k _ acc cells _ _ HL.out (.inr ⟨e, rfl⟩) HBK.out)
          · go_wp2_with fail
            go_meet
            case rel => exact Lib.hid (HX.out k _ acc cells _ _ HL.out (.inl (by omega)) HBK.out)
      case rest =>
        rename World => wd4
        have HM5 : Hid (DSt wA R (w.heap.size + 1) 30 zs stateS st 5 wd4) := hcut
        clear hcut HL HX hwn4 hn4
        go_wp2_with (go_at_call 56; refine halt_here ?_)
        refine go_on ((DSt.rows (k := 5) 100 89 HM5.out rfl (by rw [HZ.out]; rfl) len_waitingS).mono ?_)
        rintro e wu5 ⟨n5, st1, cs, rfl, hn5, HL, HX⟩
        clear HM5
        have hwn5 : IntKind.i64.wrap (n5 : Int) = (n5 : Int) := wrapI _ (by omega) (by omega)
        go_upto_block 6 with fail
        go_cut [] from 4 (fun wc => Hid (DSt wA R (w.heap.size + 1) 30 zs stateS st 6 wc))
        case first =>
          go_wp2_with fail
          go_loopw [8] (fun i wr => ∃ k : Nat, i = .int .i64 k ∧ Hid (DLoop (w.heap.size + 1) 30 cs 5 wu5 R 100 89 waitingS n5 st1 k wr)) (fun i _ => n5 - (intOf i).toNat)
          case atStart => exact ⟨0, rfl, HL⟩
          case round =>
            rename World => wr
            clear HL
            obtain ⟨k, rfl, HL⟩ := hrel
            obtain ⟨acc, cells, ov, stk, hl, hbk, hks⟩ := HL.out
            obtain ⟨ao, co, rfl⟩ := hl.slice
            replace HL := Lib.hid hl
            have HBK := Lib.hid hbk
            have HKS := Lib.hid hks
            clear hl hbk hks
            by_cases hlt : k < n5
            · obtain ⟨e, HE, he⟩ := err_read HL.out.rdr
              have HEE := Lib.hid HE
              clear HE
              rcases he with ⟨rfl, bk, rfl⟩ | ⟨he, rfl⟩
              · go_wp2_with (go_at_call 63; refine halt_here ?_)
                refine go_on (HEE.out.mono ?_)
                rintro x w9 ⟨rfl, rfl⟩
                clear HEE HX
                have HLD := Lib.hid (HL.out.later (drew_g0 wr))
                have HBKD := Lib.hid (show wr.drew.heap[(w.heap.size + 1)]? = some (.cells (cs.setIfInBounds 5 (.slice ao k co)) 30 (0, 0)) from HBK.out)
                have d0 : wr.drew.cell? ⟨(w.heap.size + 1), 5, none⟩ = some (.slice ao k co) := by rw [blk_cell HBKD.out]; exact set_get HKS.out
                clear HL HBK
                go_wp2_with fail
                refine wp_region_plan [(0, none), (1, some none), (2, none), (3, some (some true)), (4, some (some true)), (5, some (some false)), (6, none), (7, some (some false))] (by kernel_rfl) (by kernel_rfl) ?_
                generalize wr.drew = wd at d0 HLD HBKD
                repeat (first | (refine plan_free (v := ?_) rfl rfl (fun _ => ?_) (fun K hK => ?_); rotate_left 1; (focus (go_simp <;> exact rfl)); go_simp; refine hK _ _ ?_; clear hK K) | (refine plan_held (v := ?_) rfl rfl ?_ (fun K hK => ?_); rotate_left 1; (focus (go_simp <;> exact rfl)); go_simp; refine hK _ _ ?_; clear hK K) | (refine plan_skip rfl rfl (fun K hK => ?_); go_simp; refine hK _ _ ?_; clear hK K))
                refine plan_effH rfl rfl (fun K hK => ?_)
                go_wp2_with (go_at_call 95; refine halt_here ?_)
                refine go_on ((rwaiting_r R _ wd HLD.out.rdr HLD.out.small).mono ?_)
                rintro e w2 ⟨us, rfl, hrow, hrd, hg⟩
                have HBK2 := Lib.hid (show w2.heap[(w.heap.size + 1)]? = some (.cells (cs.setIfInBounds 5 (.slice ao k co)) 30 (0, 0)) by rw [hg.block _ (blk_lt HBKD.out) (fun e => by injection e with e; have := HLD.out.hW _ rfl; omega)]; exact HBKD.out)
                have d2 : w2.cell? ⟨(w.heap.size + 1), 5, none⟩ = some (.slice ao k co) := by rw [blk_cell HBK2.out]; exact set_get HKS.out
                have HROW := Lib.hid (show RowRep (fun k => wd.heap.size ≤ k) w2 waitingS _ us.toArray.toList by simpa using hrow)
                have HRD := Lib.hid hrd
                have HG := Lib.hid hg
                have HU := Lib.hid (show us.toArray.size = 89 by rw [List.size_toArray, hrow.2.1]; exact len_waitingS)
                obtain ⟨i0, z0, hi0, hz0, hz1, -, -⟩ := info_elem info100
                have HI0 := Lib.hid hi0
                have HZ0 := Lib.hid hz0
                have HZ1 := Lib.hid hz1
                clear hrow hrd hg d0 hi0 hz0 hz1
                go_wp2_with fail
                refine ⟨⟨by go_simp, trivial⟩, ?_⟩
                refine plan_effH rfl rfl (fun K hK => ?_)
                refine wp_build_one 26 100 (.tmp 93) rfl us.toArray i0 z0 89 Try.underlying26 HI0.out HZ0.out HZ1.out (by decide) (by decide) rfl HU.out ?_
                have HG3 := Lib.hid (World.grownBy_alloc w2 (.cells us.toArray 100) none)
                have HY3 := Lib.hid (heap_alloc_new w2 (.cells us.toArray 100))
                have d3 : (w2.alloc (.cells us.toArray 100)).cell? ⟨(w.heap.size + 1), 5, none⟩ = some (.slice ao k co) := by rw [cell?_heap (p := ⟨(w.heap.size + 1), 5, none⟩) (HG3.out.block _ (blk_lt HBK2.out) (by simp))]; exact d2
                generalize w2.alloc (.cells us.toArray 100) = w3 at HG3 HY3 d3
                generalize w2.heap.size = Y at HY3
                refine hK _ _ ⟨⟨by go_simp, trivial⟩, ?_⟩
                clear hK K
                refine plan_eff rfl rfl (fun K hK => ?_)
                refine HLD.out.append (.tmp 91) (.tmp 94) 26 rfl Try.underlying26 info100 (by decide) (by decide) hlt HU.out HROW.out HRD.out HG.out HG3.out HY3.out rfl rfl ?_
                intro a4 c4 w4 hstep hkeep
                refine hK _ _ ?_
                clear hK K
                obtain ⟨old, hc, hf, HL2⟩ := DLoop.store HLD.out HBKD.out HKS.out hstep hkeep
                clear hstep hkeep HLD HBKD HKS HG3 HY3 HROW HRD HG HU HI0 HZ0 HZ1 HBK2 d2 d3
                repeat (first | (refine plan_free (v := ?_) rfl rfl (fun _ => ?_) (fun K hK => ?_); rotate_left 1; (focus (go_simp <;> exact rfl)); go_simp; refine hK _ _ ?_; clear hK K) | (refine plan_held (v := ?_) rfl rfl ?_ (fun K hK => ?_); rotate_left 1; (focus (go_simp <;> exact rfl)); go_simp; refine hK _ _ ?_; clear hK K) | (refine plan_skip rfl rfl (fun K hK => ?_); go_simp; refine hK _ _ ?_; clear hK K))
                refine plan_eff rfl rfl (fun K hK => ?_)
                go_wp2_with fail
                refine plan_nil ?_
                go_wp2_with fail
                go_roundw
                case rel => exact ⟨k + 1, by go_num, HL2⟩
                case measure => simp [intOf]; omega
              · have p1 : ((e : Int) == 0) = false := by simp; omega
                clear he
                go_wp2_with (go_at_call 63; refine halt_here ?_)
                refine go_on (HEE.out.mono ?_)
                rintro x w9 ⟨rfl, rfl⟩
                clear HEE
                go_wp2_with fail
                go_meet
                case rel => exact Lib.hid (HX.out k _ acc cells _ _ HL.out (.inr ⟨e, rfl⟩) HBK.out)
            · go_wp2_with fail
              go_meet
              case rel => exact Lib.hid (HX.out k _ acc cells _ _ HL.out (.inl (by omega)) HBK.out)
        case rest =>
          rename World => wd5
          have HM6 : Hid (DSt wA R (w.heap.size + 1) 30 zs stateS st 6 wd5) := hcut
          clear hcut HL HX hwn5 hn5
          go_wp2_with (go_at_call 56; refine halt_here ?_)
          refine go_on ((DSt.rows (k := 6) 48 6 HM6.out rfl (by rw [HZ.out]; rfl) len_contS).mono ?_)
          rintro e wu6 ⟨n6, st1, cs, rfl, hn6, HL, HX⟩
          clear HM6
          have hwn6 : IntKind.i64.wrap (n6 : Int) = (n6 : Int) := wrapI _ (by omega) (by omega)
          go_upto_block 8 with fail
          go_cut [] from 4 (fun wc => Hid (DSt wA R (w.heap.size + 1) 30 zs stateS st 7 wc))
          case first =>
            go_wp2_with fail
            go_loopw [9] (fun i wr => ∃ k : Nat, i = .int .i64 k ∧ Hid (DLoop (w.heap.size + 1) 30 cs 6 wu6 R 48 6 contS n6 st1 k wr)) (fun i _ => n6 - (intOf i).toNat)
            case atStart => exact ⟨0, rfl, HL⟩
            case round =>
              rename World => wr
              clear HL
              obtain ⟨k, rfl, HL⟩ := hrel
              obtain ⟨acc, cells, ov, stk, hl, hbk, hks⟩ := HL.out
              obtain ⟨ao, co, rfl⟩ := hl.slice
              replace HL := Lib.hid hl
              have HBK := Lib.hid hbk
              have HKS := Lib.hid hks
              clear hl hbk hks
              by_cases hlt : k < n6
              · obtain ⟨e, HE, he⟩ := err_read HL.out.rdr
                have HEE := Lib.hid HE
                clear HE
                rcases he with ⟨rfl, bk, rfl⟩ | ⟨he, rfl⟩
                · go_wp2_with (go_at_call 63; refine halt_here ?_)
                  refine go_on (HEE.out.mono ?_)
                  rintro x w9 ⟨rfl, rfl⟩
                  clear HEE HX
                  have HLD := Lib.hid (HL.out.later (drew_g0 wr))
                  have HBKD := Lib.hid (show wr.drew.heap[(w.heap.size + 1)]? = some (.cells (cs.setIfInBounds 6 (.slice ao k co)) 30 (0, 0)) from HBK.out)
                  have d0 : wr.drew.cell? ⟨(w.heap.size + 1), 6, none⟩ = some (.slice ao k co) := by rw [blk_cell HBKD.out]; exact set_get HKS.out
                  clear HL HBK
                  go_wp2_with fail
                  refine wp_region_plan [(0, none), (1, some none), (2, none), (3, some (some true)), (4, some (some true)), (5, some (some false)), (6, none), (7, some (some false))] (by kernel_rfl) (by kernel_rfl) ?_
                  generalize wr.drew = wd at d0 HLD HBKD
                  repeat (first | (refine plan_free (v := ?_) rfl rfl (fun _ => ?_) (fun K hK => ?_); rotate_left 1; (focus (go_simp <;> exact rfl)); go_simp; refine hK _ _ ?_; clear hK K) | (refine plan_held (v := ?_) rfl rfl ?_ (fun K hK => ?_); rotate_left 1; (focus (go_simp <;> exact rfl)); go_simp; refine hK _ _ ?_; clear hK K) | (refine plan_skip rfl rfl (fun K hK => ?_); go_simp; refine hK _ _ ?_; clear hK K))
                  refine plan_effH rfl rfl (fun K hK => ?_)
                  go_wp2_with (go_at_call 96; refine halt_here ?_)
                  refine go_on ((rcont_r R _ wd HLD.out.rdr HLD.out.small).mono ?_)
                  rintro e w2 ⟨us, rfl, hrow, hrd, hg⟩
                  have HBK2 := Lib.hid (show w2.heap[(w.heap.size + 1)]? = some (.cells (cs.setIfInBounds 6 (.slice ao k co)) 30 (0, 0)) by rw [hg.block _ (blk_lt HBKD.out) (fun e => by injection e with e; have := HLD.out.hW _ rfl; omega)]; exact HBKD.out)
                  have d2 : w2.cell? ⟨(w.heap.size + 1), 6, none⟩ = some (.slice ao k co) := by rw [blk_cell HBK2.out]; exact set_get HKS.out
                  have HROW := Lib.hid (show RowRep (fun k => wd.heap.size ≤ k) w2 contS _ us.toArray.toList by simpa using hrow)
                  have HRD := Lib.hid hrd
                  have HG := Lib.hid hg
                  have HU := Lib.hid (show us.toArray.size = 6 by rw [List.size_toArray, hrow.2.1]; exact len_contS)
                  obtain ⟨i0, z0, hi0, hz0, hz1, -, -⟩ := info_elem info48
                  have HI0 := Lib.hid hi0
                  have HZ0 := Lib.hid hz0
                  have HZ1 := Lib.hid hz1
                  clear hrow hrd hg d0 hi0 hz0 hz1
                  go_wp2_with fail
                  refine ⟨⟨by go_simp, trivial⟩, ?_⟩
                  refine plan_effH rfl rfl (fun K hK => ?_)
                  refine wp_build_one 27 48 (.tmp 113) rfl us.toArray i0 z0 6 Try.underlying27 HI0.out HZ0.out HZ1.out (by decide) (by decide) rfl HU.out ?_
                  have HG3 := Lib.hid (World.grownBy_alloc w2 (.cells us.toArray 48) none)
                  have HY3 := Lib.hid (heap_alloc_new w2 (.cells us.toArray 48))
                  have d3 : (w2.alloc (.cells us.toArray 48)).cell? ⟨(w.heap.size + 1), 6, none⟩ = some (.slice ao k co) := by rw [cell?_heap (p := ⟨(w.heap.size + 1), 6, none⟩) (HG3.out.block _ (blk_lt HBK2.out) (by simp))]; exact d2
                  generalize w2.alloc (.cells us.toArray 48) = w3 at HG3 HY3 d3
                  generalize w2.heap.size = Y at HY3
                  refine hK _ _ ⟨⟨by go_simp, trivial⟩, ?_⟩
                  clear hK K
                  refine plan_eff rfl rfl (fun K hK => ?_)
                  refine HLD.out.append (.tmp 111) (.tmp 114) 27 rfl Try.underlying27 info48 (by decide) (by decide) hlt HU.out HROW.out HRD.out HG.out HG3.out HY3.out rfl rfl ?_
                  intro a4 c4 w4 hstep hkeep
                  refine hK _ _ ?_
                  clear hK K
                  obtain ⟨old, hc, hf, HL2⟩ := DLoop.store HLD.out HBKD.out HKS.out hstep hkeep
                  clear hstep hkeep HLD HBKD HKS HG3 HY3 HROW HRD HG HU HI0 HZ0 HZ1 HBK2 d2 d3
                  repeat (first | (refine plan_free (v := ?_) rfl rfl (fun _ => ?_) (fun K hK => ?_); rotate_left 1; (focus (go_simp <;> exact rfl)); go_simp; refine hK _ _ ?_; clear hK K) | (refine plan_held (v := ?_) rfl rfl ?_ (fun K hK => ?_); rotate_left 1; (focus (go_simp <;> exact rfl)); go_simp; refine hK _ _ ?_; clear hK K) | (refine plan_skip rfl rfl (fun K hK => ?_); go_simp; refine hK _ _ ?_; clear hK K))
                  refine plan_eff rfl rfl (fun K hK => ?_)
                  go_wp2_with fail
                  refine plan_nil ?_
                  go_wp2_with fail
                  go_roundw
                  case rel => exact ⟨k + 1, by go_num, HL2⟩
                  case measure => simp [intOf]; omega
                · have p1 : ((e : Int) == 0) = false := by simp; omega
                  clear he
                  go_wp2_with (go_at_call 63; refine halt_here ?_)
                  refine go_on (HEE.out.mono ?_)
                  rintro x w9 ⟨rfl, rfl⟩
                  clear HEE
                  go_wp2_with fail
                  go_meet
                  case rel => exact Lib.hid (HX.out k _ acc cells _ _ HL.out (.inr ⟨e, rfl⟩) HBK.out)
              · go_wp2_with fail
                go_meet
                case rel => exact Lib.hid (HX.out k _ acc cells _ _ HL.out (.inl (by omega)) HBK.out)
          case rest =>
            rename World => wd6
            have HM7 : Hid (DSt wA R (w.heap.size + 1) 30 zs stateS st 7 wd6) := hcut
            clear hcut HL HX hwn6 hn6
            go_wp2_with (go_at_call 57; refine halt_here ?_)
            refine go_on ((DSt.int (k := 7) HM7.out rfl).mono ?_)
            rintro e w8 ⟨z, old, rfl, hc8, hf8, HM8⟩
            clear HM7
            go_wp2_with (go_at_call 57; refine halt_here ?_)
            refine go_on ((DSt.int (k := 8) HM8.out rfl).mono ?_)
            rintro e w9 ⟨z, old, rfl, hc9, hf9, HM9⟩
            clear hc8 hf8 HM8
            go_wp2_with (go_at_call 57; refine halt_here ?_)
            refine go_on ((DSt.int (k := 9) HM9.out rfl).mono ?_)
            rintro e w10 ⟨z, old, rfl, hc10, hf10, HM10⟩
            clear hc9 hf9 HM9
            go_wp2_with (go_at_call 58; refine halt_here ?_)
            refine go_on ((DSt.bool (k := 10) HM10.out rfl).mono ?_)
            rintro e w11 ⟨z, old, rfl, hc11, hf11, HM11⟩
            clear hc10 hf10 HM10
            go_wp2_with (go_at_call 57; refine halt_here ?_)
            refine go_on ((DSt.int (k := 11) HM11.out rfl).mono ?_)
            rintro e w12 ⟨z, old, rfl, hc12, hf12, HM12⟩
            clear hc11 hf11 HM11
            go_wp2_with (go_at_call 57; refine halt_here ?_)
            refine go_on ((DSt.int (k := 12) HM12.out rfl).mono ?_)
            rintro e w13 ⟨z, old, rfl, hc13, hf13, HM13⟩
            clear hc12 hf12 HM12
            go_wp2_with (go_at_call 57; refine halt_here ?_)
            refine go_on ((DSt.int (k := 13) HM13.out rfl).mono ?_)
            rintro e w14 ⟨z, old, rfl, hc14, hf14, HM14⟩
            clear hc13 hf13 HM13
            go_wp2_with (go_at_call 57; refine halt_here ?_)
            refine go_on ((DSt.int (k := 14) HM14.out rfl).mono ?_)
            rintro e w15 ⟨z, old, rfl, hc15, hf15, HM15⟩
            clear hc14 hf14 HM14
            go_wp2_with (go_at_call 56; refine halt_here ?_)
            refine go_on ((DSt.num (k := 15) HM15.out rfl).mono ?_)
            rintro e w16 ⟨z, old, rfl, hc16, hf16, HM16⟩
            clear hc15 hf15 HM15
            go_wp2_with (go_at_call 61; refine halt_here ?_)
            refine go_on ((DSt.ints (k := 16) HM16.out rfl).mono ?_)
            rintro e w17 ⟨za, zn, zc, old, rfl, hc17, hf17, HM17⟩
            clear hc16 hf16 HM16
            go_wp2_with (go_at_call 57; refine halt_here ?_)
            refine go_on ((DSt.int (k := 17) HM17.out rfl).mono ?_)
            rintro e w18 ⟨z, old, rfl, hc18, hf18, HM18⟩
            clear hc17 hf17 HM17
            go_wp2_with (go_at_call 57; refine halt_here ?_)
            refine go_on ((DSt.int (k := 18) HM18.out rfl).mono ?_)
            rintro e w19 ⟨z, old, rfl, hc19, hf19, HM19⟩
            clear hc18 hf18 HM18
            go_wp2_with (with_reducible refine wpList_halt_load 30 _ ?_)
            clear hc19 hf19
            obtain ⟨us, HB, HU, HROW, HRD, HK⟩ := HM19.out.done (k := 19) len_stateS
            have HI := Lib.hid (show (Try.prog.info? 30).map (·.size) = some us.size by rw [HU.out]; exact size30)
            have HONE := Lib.hid (show us.all (·.oneCell') = true by have h := all_oneCell_toArray (row_one HROW.out); simpa using h)
            obtain ⟨Z, HZS, HZC⟩ := HRET.out.kept HR.out.lt HK.out
            generalize (w19.setCell ⟨(w.heap.size + 1), 18, none⟩ (.int .i64 z)) = wz at HB HROW HRD HK HZC
            clear HM19
            refine go_on (wpList_load_row rfl 30 (.tmp 3) rfl (w.heap.size + 1) rfl 30 us (0, 0) _ HB.out Try.underlying30 rfl HI.out ?_)
            go_wp2_with (with_reducible refine wpList_halt_store 30 _ _ ?_)
            refine go_on (wpList_store_row rfl 30 (.tmp 2) (.tmp 153) rfl w.heap.size us rfl rfl 30 Z HZC.out HI.out (by rw [HZS.out, HU.out]; exact len_stateS) HONE.out ?_)
            go_wp2_with fail
            refine bodyPost_ret (results_one rfl rfl (setRow_heap wz _ Z us 30 (0, 0) HZC.out) Try.underlying30 rfl HI.out) rfl ?_
            exact RRead.of rfl HRET.out.grown HRET.out.size HR.out.lt HROW.out HRD.out HK.out

theorem results_state37 {w : World} {tmps : Array Value} {g : Nat} {cs : Array Value} {e : Value} (hp : tmps.getD 2 undef = .pointer (some ⟨g, 0, none⟩)) (hv : tmps.getD 3 undef = e) (hg : w.heap[g]? = some (.cells cs 30 (0, 0))) (hs : cs.size = 19) :
    (results Try.f37 tmps).run Try.prog w = .ok (.tuple #[.agg cs, e]) w := by
  rw [results_cell_tmp (fn := Try.f37) rfl, hp, hv]
  simp [asAddr, Result.andThen, run_loadVar_row (P := Try.prog) w g 30 30 cs (0, 0) _ hg Try.underlying30 rfl (by rw [hs]; exact size30)]

set_option maxRecDepth 100000 in
set_option maxHeartbeats 4000000 in
theorem RDecode_any (a : Option Addr) (n c : Nat) (bs : Bytes) (w : World) (h : CellsAt w a (bc bs)) (hnil : a = none → n = 0 ∧ c = 0) (hl : bs.length = n) (hb : n ≤ 17592186044415) : Calls Try.prog 37 #[.slice a n c] w (DecPost w bs) := by
  have HB0 := Lib.hid (show Below w.heap.size w (w.alloc (.cells zeroS 30)) from (Below.refl _ _).alloc (Nat.le_refl _) _)
  have HC := Lib.hid (h.below HB0.out)
  have HN := Lib.hid hnil
  have HL := Lib.hid hl
  have HZ0 := Lib.hid (heap_alloc_new w (.cells zeroS 30))
  have HS0 := Lib.hid (show (w.alloc (.cells zeroS 30)).heap.size = w.heap.size + 1 by simp)
  have HBD := Lib.hid hb
  clear h hnil hl hb
  go_enter Try.func37, Try.ntmps37
  go_wp2_with (go_at_call 29; refine halt_here ?_)
  refine go_on ((RNew_any a n c bs (w.alloc (.cells zeroS 30)) HC.out HN.out HL.out (by have := HBD.out; omega)).mono ?_)
  rintro e w1 ⟨R, a2, n2, c2, rfl, hR, hrd, hb1⟩
  have HR := Lib.hid (show w.heap.size + 1 ≤ R by have := HS0.out; omega)
  have HZ1 := Lib.hid (show w1.heap[w.heap.size]? = some (.cells zeroS 30 (0, 0)) by rw [hb1.block _ (blk_lt HZ0.out)]; exact HZ0.out)
  have HB1 := Lib.hid (HB0.out.trans (hb1.mono HB0.out.size))
  have HRD := Lib.hid (show RDec w1 R (.ok bs) from ⟨bs, 0, a2, n2, c2, hrd, stR_ok bs⟩)
  have HSM := Lib.hid (show Small (.ok bs) from fun b hb => by cases hb; have := HL.out; have := HBD.out; omega)
  clear hR hrd hb1 HZ0 HB0 HC HN HS0
  go_wp2_with (go_at_call 70; refine halt_here ?_)
  refine go_on ((rstate_r R (.ok bs) w1 HRD.out HSM.out).mono ?_)
  rintro e w2 ⟨us, rfl, hrow, hrd2, hg2⟩
  have hal : w2.grownBy (w2.alloc (.cells us.toArray 30)) none := World.grownBy_alloc _ _ _
  have HRlt := Lib.hid HRD.out.lt
  have HZ3 := Lib.hid (show (w2.alloc (.cells us.toArray 30)).heap[w.heap.size]? = some (.cells zeroS 30 (0, 0)) by
    have h0 := blk_lt HZ1.out
    rw [hal.block _ (Nat.lt_of_lt_of_le h0 hg2.size) (by simp), hg2.block _ h0 (fun e => by injection e with e; have := HR.out; omega)]
    exact HZ1.out)
  have HB3 := Lib.hid (show Below w.heap.size w (w2.alloc (.cells us.toArray 30)) from (HB1.out.grown hg2 HB1.out.size (fun k hk => by injection hk with hk; have := HR.out; omega)).grown hal (Nat.le_trans HB1.out.size hg2.size) (fun k hk => by cases hk))
  have HROW := Lib.hid (hrow.mono (A' := fun k => w1.heap.size ≤ k) (w' := w2.alloc (.cells us.toArray 30)) (fun _ h => h) hal.size (fun k _ hk => hal.block k hk (by simp)))
  have HX3 := Lib.hid (heap_alloc_new w2 (.cells us.toArray 30))
  have HUS := Lib.hid (show us.toArray.size = 19 by rw [List.size_toArray, hrow.2.1]; exact len_stateS)
  have HI := Lib.hid (show (Try.prog.info? 30).map (·.size) = some us.toArray.size by rw [HUS.out]; exact size30)
  have HONE := Lib.hid (all_oneCell_toArray (row_one hrow))
  have HRD3 := Lib.hid (hrd2.keep (w' := w2.alloc (.cells us.toArray 30)) (fun j hj => hal.block j (by have := hrd2.lt; omega) (by simp)))
  have HSZ := Lib.hid (show w1.heap.size ≤ w2.heap.size from hg2.size)
  clear hal hrow hrd2 hg2 HZ1 HRD
  go_wp2_with (with_reducible refine wpList_halt_store 30 _ _ ?_)
  refine go_on (wpList_store_new rfl 30 (.tmp 5) (.tmp 9) rfl _ us.toArray rfl rfl HI.out (by rw [HUS.out]; rfl) HONE.out ?_)
  generalize w2.alloc (.cells us.toArray 30) = w3 at HZ3 HB3 HROW HX3 HRD3
  obtain ⟨X, hX⟩ : ∃ X, w2.heap.size = X := ⟨_, rfl⟩
  rw [hX] at HX3 HSZ
  rw [hX]
  clear hX
  have HXne := Lib.hid (show X ≠ w.heap.size by have := HSZ.out; have := HRlt.out; have := HR.out; omega)
  obtain ⟨bs4, e4, a4, n4, c4, hrd4, hst4⟩ := HRD3.out
  have HRD4 := Lib.hid hrd4
  have HST4 := Lib.hid hst4
  clear hrd4 hst4 HRD3
  by_cases he : e4 = 0
  · subst he
    have HER := Lib.hid (show (rdRow stateS (.ok bs)).2 = .ok bs4 by rw [← HST4.out, stR_ok])
    have HLL := Lib.hid (show leftS (stR bs4 0) = bs4.length by rw [stR_ok]; rfl)
    go_wp2_with (go_at_call 63; refine halt_here ?_)
    refine go_on ((RErr_any R bs4 0 a4 n4 c4 w3 HRD4.out).mono ?_)
    rintro x w4 ⟨rfl, rfl⟩
    go_wp2_with (go_at_call 62; refine halt_here ?_)
    refine go_on ((RLeft_any R bs4 0 a4 n4 c4 w3 HRD4.out).mono ?_)
    rw [HLL.out]
    rintro x w5 ⟨rfl, rfl⟩
    clear HRD4 HST4 HLL
    cases bs4 with
    | nil =>
      go_wp2_with (first | (refine wpList_load_row rfl 30 (.tmp 5) rfl X rfl 30 us.toArray (0, 0) _ HX3.out Try.underlying30 rfl HI.out ?_) | (refine wpList_store_rowTo rfl 30 (.tmp 2) (.tmp 20) rfl rfl w.heap.size us.toArray rfl rfl 30 zeroS HZ3.out HI.out (by rw [HUS.out]; rfl) HONE.out ?_))
      refine bodyPost_ret (results_state37 rfl rfl (setRow_heap w3 _ zeroS us.toArray 30 (0, 0) HZ3.out) HUS.out) rfl ?_
      refine ⟨HB3.out.trans (below_setRow w3 _ us.toArray), ?_⟩
      rw [HER.out]
      simp only [if_true]
      exact ⟨us, rfl, HROW.out.mono (fun k hk => by have := HB1.out.size; omega) (by simp [World.setRow]) (fun k hk _ => setRow_other _ _ _ _ (by have := HR.out; have := HRlt.out; omega))⟩
    | cons x t =>
      have q1 : decide ((0 : Int) < ((x :: t).length : Int)) = true := by simp
      have q2 : decide (0 < (x :: t).length) = true := by simp
      go_wp2_with (refine wpList_store_rowTo rfl 30 (.tmp 2) (.tmp 19) rfl rfl w.heap.size zeroS rfl rfl 30 zeroS HZ3.out size_zeroS rfl one_zeroS ?_)
      refine bodyPost_ret (results_state37 rfl rfl (setRow_heap w3 _ zeroS zeroS 30 (0, 0) HZ3.out) (by decide)) rfl ?_
      exact ⟨HB3.out.trans (below_setRow w3 _ zeroS), by rw [HER.out]; simp⟩
  · have p1 : ((e4 : Int) == 0) = false := by simp; omega
    have HER := Lib.hid (show (rdRow stateS (.ok bs)).2 = .error e4 by rw [← HST4.out, stR_er _ _ he])
    clear he
    go_wp2_with (go_at_call 63; refine halt_here ?_)
    refine go_on ((RErr_any R bs4 e4 a4 n4 c4 w3 HRD4.out).mono ?_)
    rintro x w4 ⟨rfl, rfl⟩
    go_wp2_with (go_at_call 63; refine halt_here ?_)
    refine go_on ((RErr_any R bs4 e4 a4 n4 c4 w3 HRD4.out).mono ?_)
    rintro x w4 ⟨rfl, rfl⟩
    go_wp2_with (refine wpList_store_rowTo rfl 30 (.tmp 2) (.tmp 13) rfl rfl w.heap.size zeroS rfl rfl 30 zeroS HZ3.out size_zeroS rfl one_zeroS ?_)
    refine bodyPost_ret (results_state37 rfl rfl (setRow_heap w3 _ zeroS zeroS 30 (0, 0) HZ3.out) (by decide)) rfl ?_
    exact ⟨HB3.out.trans (below_setRow w3 _ zeroS), by rw [HER.out]; rfl⟩
end Go.Proofs.Ytbcpdjhpceimlaa
