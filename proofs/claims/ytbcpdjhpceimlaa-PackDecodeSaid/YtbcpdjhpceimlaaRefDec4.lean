/-
  The reference's readers of layer 27: a state.
-/
import Derived.Test.YtbcpdjhpceimlaaRefDec
import Derived.Test.YtbcpdjhpceimlaaRefDec3
namespace Go.Proofs.Ytbcpdjhpceimlaa
open Go.ChangeShapes Go.WideShapes Go.ChangeAt Go.RowKit
set_option linter.unusedVariables false

set_option maxRecDepth 100000 in
set_option maxHeartbeats 8000000 in
theorem rstate_r : RReader 70 stateS := by
  intro R st w hR hs
  have HR := Lib.hid hR
  have HS := Lib.hid hs
  clear hR hs
  go_enter Try.func70, Try.ntmps70
  go_wp2_with (with_reducible refine wpList_halt_store 30 _ _ ?_)
  refine go_on (wpList_begin (s := stateS) HR.out HS.out rfl (.tmp 3) (.tmp 10) rfl rfl rfl rfl rfl rfl (by kernel_rfl) (by kernel_rfl) (fun wA w0 zs HZ HRET HM0 => ?_))
  go_wp2_with (go_at_call 56; refine halt_here ?_)
  refine go_on ((DSt.rows (k := 0) 78 14 HM0.out rfl (by rw [HZ.out]; rfl) len_playerS).mono ?_)
  rintro e wu0 ⟨n0, st1, cs, rfl, hn0, HL, HX⟩
  clear HM0
  have hwn0 : IntKind.i64.wrap (n0 : Int) = (n0 : Int) := wrapI _ (by omega) (by omega)
  go_upto_block 0 with fail
  go_cut [] from 4 (fun wc => Hid (DSt wA R (w.heap.size + 1) 30 zs stateS st 1 wc))
  case first =>
    go_wp2_with fail
    go_loopw [5] (fun i wr => ∃ k : Nat, i = .int .i64 k ∧ Hid (DLoop (w.heap.size + 1) 30 cs 0 wu0 R 78 14 playerS n0 st1 k wr)) (fun i _ => n0 - (intOf i).toNat)
    case atStart => exact ⟨0, rfl, HL⟩
    case round =>
      rename World => wr
      clear HL
      obtain ⟨k, rfl, HL⟩ := hrel
      obtain ⟨acc, cells, ov, stk, hl, hbk, hks⟩ := HL.out
      obtain ⟨ao, co, rfl⟩ := hl.slice
      replace HL := Lib.hid hl
      have HBK := Lib.hid hbk
      have HKS := Lib.hid hks
      clear hl hbk hks
      by_cases hlt : k < n0
      · obtain ⟨e, HE, he⟩ := err_read HL.out.rdr
        have HEE := Lib.hid HE
        clear HE
        rcases he with ⟨rfl, bk, rfl⟩ | ⟨he, rfl⟩
        · go_wp2_with (go_at_call 63; refine halt_here ?_)
          refine go_on (HEE.out.mono ?_)
          rintro x w9 ⟨rfl, rfl⟩
          clear HEE HX
          have HLD := Lib.hid (HL.out.later (drew_g0 wr))
          have HBKD := Lib.hid (show wr.drew.heap[(w.heap.size + 1)]? = some (.cells (cs.setIfInBounds 0 (.slice ao k co)) 30 (0, 0)) from HBK.out)
          have d0 : wr.drew.cell? ⟨(w.heap.size + 1), 0, none⟩ = some (.slice ao k co) := by rw [blk_cell HBKD.out]; exact set_get HKS.out
          clear HL HBK
          go_wp2_with fail
          refine wp_region_plan [(0, none), (1, some none), (2, none), (3, some (some true)), (4, some (some true)), (5, some (some false)), (6, none), (7, some (some false))] (by kernel_rfl) (by kernel_rfl) ?_
          generalize wr.drew = wd at d0 HLD HBKD
          repeat (first | (refine plan_free (v := ?_) rfl rfl (fun _ => ?_) (fun K hK => ?_); rotate_left 1; (focus (go_simp <;> exact rfl)); go_simp; refine hK _ _ ?_; clear hK K) | (refine plan_held (v := ?_) rfl rfl ?_ (fun K hK => ?_); rotate_left 1; (focus (go_simp <;> exact rfl)); go_simp; refine hK _ _ ?_; clear hK K) | (refine plan_skip rfl rfl (fun K hK => ?_); go_simp; refine hK _ _ ?_; clear hK K))
          refine plan_effH rfl rfl (fun K hK => ?_)
          go_wp2_with (go_at_call 92; refine halt_here ?_)
          refine go_on ((rplayer_r R _ wd HLD.out.rdr HLD.out.small).mono ?_)
          rintro e w2 ⟨us, rfl, hrow, hrd, hg⟩
          have HBK2 := Lib.hid (show w2.heap[(w.heap.size + 1)]? = some (.cells (cs.setIfInBounds 0 (.slice ao k co)) 30 (0, 0)) by rw [hg.block _ (blk_lt HBKD.out) (fun e => by injection e with e; have := HLD.out.hW _ rfl; omega)]; exact HBKD.out)
          have d2 : w2.cell? ⟨(w.heap.size + 1), 0, none⟩ = some (.slice ao k co) := by rw [blk_cell HBK2.out]; exact set_get HKS.out
          have HROW := Lib.hid (show RowRep (fun k => wd.heap.size ≤ k) w2 playerS _ us.toArray.toList by simpa using hrow)
          have HRD := Lib.hid hrd
          have HG := Lib.hid hg
          have HU := Lib.hid (show us.toArray.size = 14 by rw [List.size_toArray, hrow.2.1]; exact len_playerS)
          obtain ⟨i0, z0, hi0, hz0, hz1, -, -⟩ := info_elem info78
          have HI0 := Lib.hid hi0
          have HZ0 := Lib.hid hz0
          have HZ1 := Lib.hid hz1
          clear hrow hrd hg d0 hi0 hz0 hz1
          go_wp2_with fail
          refine ⟨⟨by go_simp, trivial⟩, ?_⟩
          refine plan_effH rfl rfl (fun K hK => ?_)
          refine wp_build_one 22 78 (.tmp 27) rfl us.toArray i0 z0 14 Try.underlying22 HI0.out HZ0.out HZ1.out (by decide) (by decide) rfl HU.out ?_
          have HG3 := Lib.hid (World.grownBy_alloc w2 (.cells us.toArray 78) none)
          have HY3 := Lib.hid (heap_alloc_new w2 (.cells us.toArray 78))
          have d3 : (w2.alloc (.cells us.toArray 78)).cell? ⟨(w.heap.size + 1), 0, none⟩ = some (.slice ao k co) := by rw [cell?_heap (p := ⟨(w.heap.size + 1), 0, none⟩) (HG3.out.block _ (blk_lt HBK2.out) (by simp))]; exact d2
          generalize w2.alloc (.cells us.toArray 78) = w3 at HG3 HY3 d3
          generalize w2.heap.size = Y at HY3
          refine hK _ _ ⟨⟨by go_simp, trivial⟩, ?_⟩
          clear hK K
          refine plan_eff rfl rfl (fun K hK => ?_)
          refine HLD.out.append (.tmp 25) (.tmp 28) 22 rfl Try.underlying22 info78 (by decide) (by decide) hlt HU.out HROW.out HRD.out HG.out HG3.out HY3.out rfl rfl ?_
          intro a4 c4 w4 hstep hkeep
          refine hK _ _ ?_
          clear hK K
          obtain ⟨old, hc, hf, HL2⟩ := DLoop.store HLD.out HBKD.out HKS.out hstep hkeep
          clear hstep hkeep HLD HBKD HKS HG3 HY3 HROW HRD HG HU HI0 HZ0 HZ1 HBK2 d2 d3
          repeat (first | (refine plan_free (v := ?_) rfl rfl (fun _ => ?_) (fun K hK => ?_); rotate_left 1; (focus (go_simp <;> exact rfl)); go_simp; refine hK _ _ ?_; clear hK K) | (refine plan_held (v := ?_) rfl rfl ?_ (fun K hK => ?_); rotate_left 1; (focus (go_simp <;> exact rfl)); go_simp; refine hK _ _ ?_; clear hK K) | (refine plan_skip rfl rfl (fun K hK => ?_); go_simp; refine hK _ _ ?_; clear hK K))
          refine plan_eff rfl rfl (fun K hK => ?_)
          go_wp2_with fail
          refine plan_nil ?_
          go_wp2_with fail
          go_roundw
          case rel => exact ⟨k + 1, by go_num, HL2⟩
          case measure => simp [intOf]; omega
        · have p1 : ((e : Int) == 0) = false := by simp; omega
          clear he
          go_wp2_with (go_at_call 63; refine halt_here ?_)
          refine go_on (HEE.out.mono ?_)
          rintro x w9 ⟨rfl, rfl⟩
          clear HEE
          go_wp2_with fail
          go_meet
          case rel => exact Lib.hid (HX.out k _ acc cells _ _ HL.out (.inr ⟨e, rfl⟩) HBK.out)
      · go_wp2_with fail
        go_meet
        case rel => exact Lib.hid (HX.out k _ acc cells _ _ HL.out (.inl (by omega)) HBK.out)
  case rest =>
    rename World => wd0
    have HM1 : Hid (DSt wA R (w.heap.size + 1) 30 zs stateS st 1 wd0) := hcut
    clear hcut HL HX hwn0 hn0
    go_wp2_with (go_at_call 56; refine halt_here ?_)
    refine go_on ((DSt.rows (k := 1) 125 19 HM1.out rfl (by rw [HZ.out]; rfl) len_objectS).mono ?_)
    rintro e wu1 ⟨n1, st1, cs, rfl, hn1, HL, HX⟩
    clear HM1
    have hwn1 : IntKind.i64.wrap (n1 : Int) = (n1 : Int) := wrapI _ (by omega) (by omega)
    go_upto_block 2 with fail
    go_cut [] from 4 (fun wc => Hid (DSt wA R (w.heap.size + 1) 30 zs stateS st 2 wc))
    case first =>
      go_wp2_with fail
      go_loopw [6] (fun i wr => ∃ k : Nat, i = .int .i64 k ∧ Hid (DLoop (w.heap.size + 1) 30 cs 1 wu1 R 125 19 objectS n1 st1 k wr)) (fun i _ => n1 - (intOf i).toNat)
      case atStart => exact ⟨0, rfl, HL⟩
      case round =>
        rename World => wr
        clear HL
        obtain ⟨k, rfl, HL⟩ := hrel
        obtain ⟨acc, cells, ov, stk, hl, hbk, hks⟩ := HL.out
        obtain ⟨ao, co, rfl⟩ := hl.slice
        replace HL := Lib.hid hl
        have HBK := Lib.hid hbk
        have HKS := Lib.hid hks
        clear hl hbk hks
        by_cases hlt : k < n1
        · obtain ⟨e, HE, he⟩ := err_read HL.out.rdr
          have HEE := Lib.hid HE
          clear HE
          rcases he with ⟨rfl, bk, rfl⟩ | ⟨he, rfl⟩
          · go_wp2_with (go_at_call 63; refine halt_here ?_)
            refine go_on (HEE.out.mono ?_)
            rintro x w9 ⟨rfl, rfl⟩
            clear HEE HX
            have HLD := Lib.hid (HL.out.later (drew_g0 wr))
            have HBKD := Lib.hid (show wr.drew.heap[(w.heap.size + 1)]? = some (.cells (cs.setIfInBounds 1 (.slice ao k co)) 30 (0, 0)) from HBK.out)
            have d0 : wr.drew.cell? ⟨(w.heap.size + 1), 1, none⟩ = some (.slice ao k co) := by rw [blk_cell HBKD.out]; exact set_get HKS.out
            clear HL HBK
            go_wp2_with fail
            refine wp_region_plan [(0, none), (1, some none), (2, none), (3, some (some true)), (4, some (some true)), (5, some (some false)), (6, none), (7, some (some false))] (by kernel_rfl) (by kernel_rfl) ?_
            generalize wr.drew = wd at d0 HLD HBKD
            repeat (first | (refine plan_free (v := ?_) rfl rfl (fun _ => ?_) (fun K hK => ?_); rotate_left 1; (focus (go_simp <;> exact rfl)); go_simp; refine hK _ _ ?_; clear hK K) | (refine plan_held (v := ?_) rfl rfl ?_ (fun K hK => ?_); rotate_left 1; (focus (go_simp <;> exact rfl)); go_simp; refine hK _ _ ?_; clear hK K) | (refine plan_skip rfl rfl (fun K hK => ?_); go_simp; refine hK _ _ ?_; clear hK K))
            refine plan_effH rfl rfl (fun K hK => ?_)
            go_wp2_with (go_at_call 93; refine halt_here ?_)
            refine go_on ((robject_r R _ wd HLD.out.rdr HLD.out.small).mono ?_)
            rintro e w2 ⟨us, rfl, hrow, hrd, hg⟩
            have HBK2 := Lib.hid (show w2.heap[(w.heap.size + 1)]? = some (.cells (cs.setIfInBounds 1 (.slice ao k co)) 30 (0, 0)) by rw [hg.block _ (blk_lt HBKD.out) (fun e => by injection e with e; have := HLD.out.hW _ rfl; omega)]; exact HBKD.out)
            have d2 : w2.cell? ⟨(w.heap.size + 1), 1, none⟩ = some (.slice ao k co) := by rw [blk_cell HBK2.out]; exact set_get HKS.out
            have HROW := Lib.hid (show RowRep (fun k => wd.heap.size ≤ k) w2 objectS _ us.toArray.toList by simpa using hrow)
            have HRD := Lib.hid hrd
            have HG := Lib.hid hg
            have HU := Lib.hid (show us.toArray.size = 19 by rw [List.size_toArray, hrow.2.1]; exact len_objectS)
            obtain ⟨i0, z0, hi0, hz0, hz1, -, -⟩ := info_elem info125
            have HI0 := Lib.hid hi0
            have HZ0 := Lib.hid hz0
            have HZ1 := Lib.hid hz1
            clear hrow hrd hg d0 hi0 hz0 hz1
            go_wp2_with fail
            refine ⟨⟨by go_simp, trivial⟩, ?_⟩
            refine plan_effH rfl rfl (fun K hK => ?_)
            refine wp_build_one 23 125 (.tmp 47) rfl us.toArray i0 z0 19 Try.underlying23 HI0.out HZ0.out HZ1.out (by decide) (by decide) rfl HU.out ?_
            have HG3 := Lib.hid (World.grownBy_alloc w2 (.cells us.toArray 125) none)
            have HY3 := Lib.hid (heap_alloc_new w2 (.cells us.toArray 125))
            have d3 : (w2.alloc (.cells us.toArray 125)).cell? ⟨(w.heap.size + 1), 1, none⟩ = some (.slice ao k co) := by rw [cell?_heap (p := ⟨(w.heap.size + 1), 1, none⟩) (HG3.out.block _ (blk_lt HBK2.out) (by simp))]; exact d2
            generalize w2.alloc (.cells us.toArray 125) = w3 at HG3 HY3 d3
            generalize w2.heap.size = Y at HY3
            refine hK _ _ ⟨⟨by go_simp, trivial⟩, ?_⟩
            clear hK K
            refine plan_eff rfl rfl (fun K hK => ?_)
            refine HLD.out.append (.tmp 45) (.tmp 48) 23 rfl Try.underlying23 info125 (by decide) (by decide) hlt HU.out HROW.out HRD.out HG.out HG3.out HY3.out rfl rfl ?_
            intro a4 c4 w4 hstep hkeep
            refine hK _ _ ?_
            clear hK K
            obtain ⟨old, hc, hf, HL2⟩ := DLoop.store HLD.out HBKD.out HKS.out hstep hkeep
            clear hstep hkeep HLD HBKD HKS HG3 HY3 HROW HRD HG HU HI0 HZ0 HZ1 HBK2 d2 d3
            repeat (first | (refine plan_free (v := ?_) rfl rfl (fun _ => ?_) (fun K hK => ?_); rotate_left 1; (focus (go_simp <;> exact rfl)); go_simp; refine hK _ _ ?_; clear hK K) | (refine plan_held (v := ?_) rfl rfl ?_ (fun K hK => ?_); rotate_left 1; (focus (go_simp <;> exact rfl)); go_simp; refine hK _ _ ?_; clear hK K) | (refine plan_skip rfl rfl (fun K hK => ?_); go_simp; refine hK _ _ ?_; clear hK K))
            refine plan_eff rfl rfl (fun K hK => ?_)
            go_wp2_with fail
            refine plan_nil ?_
            go_wp2_with fail
            go_roundw
            case rel => exact ⟨k + 1, by go_num, HL2⟩
            case measure => simp [intOf]; omega
          · have p1 : ((e : Int) == 0) = false := by simp; omega
            clear he
            go_wp2_with (go_at_call 63; refine halt_here ?_)
            refine go_on (HEE.out.mono ?_)
            rintro x w9 ⟨rfl, rfl⟩
            clear HEE
            go_wp2_with fail
            go_meet
            case rel => exact Lib.hid (HX.out k _ acc cells _ _ HL.out (.inr ⟨e, rfl⟩) HBK.out)
        · go_wp2_with fail
          go_meet
          case rel => exact Lib.hid (HX.out k _ acc cells _ _ HL.out (.inl (by omega)) HBK.out)
    case rest =>
      rename World => wd1
      have HM2 : Hid (DSt wA R (w.heap.size + 1) 30 zs stateS st 2 wd1) := hcut
      clear hcut HL HX hwn1 hn1
      go_wp2_with (go_at_call 61; refine halt_here ?_)
      refine go_on ((DSt.ints (k := 2) HM2.out rfl).mono ?_)
      rintro e w3 ⟨za, zn, zc, old, rfl, hc3, hf3, HM3⟩
      clear HM2
      go_wp2_with (go_at_call 61; refine halt_here ?_)
      refine go_on ((DSt.ints (k := 3) HM3.out rfl).mono ?_)
      rintro e w4 ⟨za, zn, zc, old, rfl, hc4, hf4, HM4⟩
      clear hc3 hf3 HM3
      go_wp2_with (go_at_call 56; refine halt_here ?_)
      refine go_on ((DSt.rows (k := 4) 97 94 HM4.out rfl (by rw [HZ.out]; rfl) len_itemS).mono ?_)
      rintro e wu4 ⟨n4, st1, cs, rfl, hn4, HL, HX⟩
      clear hc4 hf4 HM4
      have hwn4 : IntKind.i64.wrap (n4 : Int) = (n4 : Int) := wrapI _ (by omega) (by omega)
      go_upto_block 4 with fail
      go_cut [] from 4 (fun wc => Hid (DSt wA R (w.heap.size + 1) 30 zs stateS st 5 wc))
      case first =>
        go_wp2_with fail
        go_loopw [7] (fun i wr => ∃ k : Nat, i = .int .i64 k ∧ Hid (DLoop (w.heap.size + 1) 30 cs 4 wu4 R 97 94 itemS n4 st1 k wr)) (fun i _ => n4 - (intOf i).toNat)
        case atStart => exact ⟨0, rfl, HL⟩
        case round =>
          rename World => wr
          clear HL
          obtain ⟨k, rfl, HL⟩ := hrel
          obtain ⟨acc, cells, ov, stk, hl, hbk, hks⟩ := HL.out
          obtain ⟨ao, co, rfl⟩ := hl.slice
          replace HL := Lib.hid hl
          have HBK := Lib.hid hbk
          have HKS := Lib.hid hks
          clear hl hbk hks
          by_cases hlt : k < n4
          · obtain ⟨e, HE, he⟩ := err_read HL.out.rdr
            have HEE := Lib.hid HE
            clear HE
            rcases he with ⟨rfl, bk, rfl⟩ | ⟨he, rfl⟩
            · go_wp2_with (go_at_call 63; refine halt_here ?_)
              refine go_on (HEE.out.mono ?_)
              rintro x w9 ⟨rfl, rfl⟩
              clear HEE HX
              have HLD := Lib.hid (HL.out.later (drew_g0 wr))
              have HBKD := Lib.hid (show wr.drew.heap[(w.heap.size + 1)]? = some (.cells (cs.setIfInBounds 4 (.slice ao k co)) 30 (0, 0)) from HBK.out)
              have d0 : wr.drew.cell? ⟨(w.heap.size + 1), 4, none⟩ = some (.slice ao k co) := by rw [blk_cell HBKD.out]; exact set_get HKS.out
              clear HL HBK
              go_wp2_with fail
              refine wp_region_plan [(0, none), (1, some none), (2, none), (3, some (some true)), (4, some (some true)), (5, some (some false)), (6, none), (7, some (some false))] (by kernel_rfl) (by kernel_rfl) ?_
              generalize wr.drew = wd at d0 HLD HBKD
              repeat (first | (refine plan_free (v := ?_) rfl rfl (fun _ => ?_) (fun K hK => ?_); rotate_left 1; (focus (go_simp <;> exact rfl)); go_simp; refine hK _ _ ?_; clear hK K) | (refine plan_held (v := ?_) rfl rfl ?_ (fun K hK => ?_); rotate_left 1; (focus (go_simp <;> exact rfl)); go_simp; refine hK _ _ ?_; clear hK K) | (refine plan_skip rfl rfl (fun K hK => ?_); go_simp; refine hK _ _ ?_; clear hK K))
              refine plan_effH rfl rfl (fun K hK => ?_)
              go_wp2_with (go_at_call 94; refine halt_here ?_)
              refine go_on ((ritem_r R _ wd HLD.out.rdr HLD.out.small).mono ?_)
              rintro e w2 ⟨us, rfl, hrow, hrd, hg⟩
              have HBK2 := Lib.hid (show w2.heap[(w.heap.size + 1)]? = some (.cells (cs.setIfInBounds 4 (.slice ao k co)) 30 (0, 0)) by rw [hg.block _ (blk_lt HBKD.out) (fun e => by injection e with e; have := HLD.out.hW _ rfl; omega)]; exact HBKD.out)
              have d2 : w2.cell? ⟨(w.heap.size + 1), 4, none⟩ = some (.slice ao k co) := by rw [blk_cell HBK2.out]; exact set_get HKS.out
              have HROW := Lib.hid (show RowRep (fun k => wd.heap.size ≤ k) w2 itemS _ us.toArray.toList by simpa using hrow)
              have HRD := Lib.hid hrd
              have HG := Lib.hid hg
              have HU := Lib.hid (show us.toArray.size = 94 by rw [List.size_toArray, hrow.2.1]; exact len_itemS)
              obtain ⟨i0, z0, hi0, hz0, hz1, -, -⟩ := info_elem info97
              have HI0 := Lib.hid hi0
              have HZ0 := Lib.hid hz0
              have HZ1 := Lib.hid hz1
              clear hrow hrd hg d0 hi0 hz0 hz1
              go_wp2_with fail
              refine ⟨⟨by go_simp, trivial⟩, ?_⟩
              refine plan_effH rfl rfl (fun K hK => ?_)
              refine wp_build_one 25 97 (.tmp 73) rfl us.toArray i0 z0 94 Try.underlying25 HI0.out HZ0.out HZ1.out (by decide) (by decide) rfl HU.out ?_
              have HG3 := Lib.hid (World.grownBy_alloc w2 (.cells us.toArray 97) none)
              have HY3 := Lib.hid (heap_alloc_new w2 (.cells us.toArray 97))
              have d3 : (w2.alloc (.cells us.toArray 97)).cell? ⟨(w.heap.size + 1), 4, none⟩ = some (.slice ao k co) := by rw [cell?_heap (p := ⟨(w.heap.size + 1), 4, none⟩) (HG3.out.block _ (blk_lt HBK2.out) (by simp))]; exact d2
              generalize w2.alloc (.cells us.toArray 97) = w3 at HG3 HY3 d3
              generalize w2.heap.size = Y at HY3
              refine hK _ _ ⟨⟨by go_simp, trivial⟩, ?_⟩
              clear hK K
              refine plan_eff rfl rfl (fun K hK => ?_)
              refine HLD.out.append (.tmp 71) (.tmp 74) 25 rfl Try.underlying25 info97 (by decide) (by decide) hlt HU.out HROW.out HRD.out HG.out HG3.out HY3.out rfl rfl ?_
              intro a4 c4 w4 hstep hkeep
              refine hK _ _ ?_
              clear hK K
              obtain ⟨old, hc, hf, HL2⟩ := DLoop.store HLD.out HBKD.out HKS.out hstep hkeep
              clear hstep hkeep HLD HBKD HKS HG3 HY3 HROW HRD HG HU HI0 HZ0 HZ1 HBK2 d2 d3
              repeat (first | (refine plan_free (v := ?_) rfl rfl (fun _ => ?_) (fun K hK => ?_); rotate_left 1; (focus (go_simp <;> exact rfl)); go_simp; refine hK _ _ ?_; clear hK K) | (refine plan_held (v := ?_) rfl rfl ?_ (fun K hK => ?_); rotate_left 1; (focus (go_simp <;> exact rfl)); go_simp; refine hK _ _ ?_; clear hK K) | (refine plan_skip rfl rfl (fun K hK => ?_); go_simp; refine hK _ _ ?_; clear hK K))
              refine plan_eff rfl rfl (fun K hK => ?_)
              go_wp2_with fail
              refine plan_nil ?_
              go_wp2_with fail
              go_roundw
              case rel => exact ⟨k + 1, by go_num, HL2⟩
              case measure => simp [intOf]; omega
            · have p1 : ((e : Int) == 0) = false := by simp; omega
              clear he
              go_wp2_with (go_at_call 63; refine halt_here ?_)
              refine go_on (HEE.out.mono ?_)
              rintro x w9 ⟨rfl, rfl⟩
              clear HEE
              go_wp2_with fail
              go_meet
              case rel => exact Lib.hid (HX.out k _ acc cells _ _ HL.out (.inr ⟨e, rfl⟩) HBK.out)
          · go_wp2_with fail
            go_meet
            case rel => exact Lib.hid (HX.out k _ acc cells _ _ HL.out (.inl (by omega)) HBK.out)
      case rest =>
        rename World => wd4
        have HM5 : Hid (DSt wA R (w.heap.size + 1) 30 zs stateS st 5 wd4) := hcut
        clear hcut HL HX hwn4 hn4
        go_wp2_with (go_at_call 56; refine halt_here ?_)
        refine go_on ((DSt.rows (k := 5) 100 89 HM5.out rfl (by rw [HZ.out]; rfl) len_waitingS).mono ?_)
        rintro e wu5 ⟨n5, st1, cs, rfl, hn5, HL, HX⟩
        clear HM5
        have hwn5 : IntKind.i64.wrap (n5 : Int) = (n5 : Int) := wrapI _ (by omega) (by omega)
        go_upto_block 6 with fail
        go_cut [] from 4 (fun wc => Hid (DSt wA R (w.heap.size + 1) 30 zs stateS st 6 wc))
        case first =>
          go_wp2_with fail
          go_loopw [8] (fun i wr => ∃ k : Nat, i = .int .i64 k ∧ Hid (DLoop (w.heap.size + 1) 30 cs 5 wu5 R 100 89 waitingS n5 st1 k wr)) (fun i _ => n5 - (intOf i).toNat)
          case atStart => exact ⟨0, rfl, HL⟩
          case round =>
            rename World => wr
            clear HL
            obtain ⟨k, rfl, HL⟩ := hrel
            obtain ⟨acc, cells, ov, stk, hl, hbk, hks⟩ := HL.out
            obtain ⟨ao, co, rfl⟩ := hl.slice
            replace HL := Lib.hid hl
            have HBK := Lib.hid hbk
            have HKS := Lib.hid hks
            clear hl hbk hks
            by_cases hlt : k < n5
            · obtain ⟨e, HE, he⟩ := err_read HL.out.rdr
              have HEE := Lib.hid HE
              clear HE
              rcases he with ⟨rfl, bk, rfl⟩ | ⟨he, rfl⟩
              · go_wp2_with (go_at_call 63; refine halt_here ?_)
                refine go_on (HEE.out.mono ?_)
                rintro x w9 ⟨rfl, rfl⟩
                clear HEE HX
                have HLD := Lib.hid (HL.out.later (drew_g0 wr))
                have HBKD := Lib.hid (show wr.drew.heap[(w.heap.size + 1)]? = some (.cells (cs.setIfInBounds 5 (.slice ao k co)) 30 (0, 0)) from HBK.out)
                have d0 : wr.drew.cell? ⟨(w.heap.size + 1), 5, none⟩ = some (.slice ao k co) := by rw [blk_cell HBKD.out]; exact set_get HKS.out
                clear HL HBK
                go_wp2_with fail
                refine wp_region_plan [(0, none), (1, some none), (2, none), (3, some (some true)), (4, some (some true)), (5, some (some false)), (6, none), (7, some (some false))] (by kernel_rfl) (by kernel_rfl) ?_
                generalize wr.drew = wd at d0 HLD HBKD
                repeat (first | (refine plan_free (v := ?_) rfl rfl (fun _ => ?_) (fun K hK => ?_); rotate_left 1; (focus (go_simp <;> exact rfl)); go_simp; refine hK _ _ ?_; clear hK K) | (refine plan_held (v := ?_) rfl rfl ?_ (fun K hK => ?_); rotate_left 1; (focus (go_simp <;> exact rfl)); go_simp; refine hK _ _ ?_; clear hK K) | (refine plan_skip rfl rfl (fun K hK => ?_); go_simp; refine hK _ _ ?_; clear hK K))
                refine plan_effH rfl rfl (fun K hK => ?_)
                go_wp2_with (go_at_call 95; refine halt_here ?_)
                refine go_on ((rwaiting_r R _ wd HLD.out.rdr HLD.out.small).mono ?_)
                rintro e w2 ⟨us, rfl, hrow, hrd, hg⟩
                have HBK2 := Lib.hid (show w2.heap[(w.heap.size + 1)]? = some (.cells (cs.setIfInBounds 5 (.slice ao k co)) 30 (0, 0)) by rw [hg.block _ (blk_lt HBKD.out) (fun e => by injection e with e; have := HLD.out.hW _ rfl; omega)]; exact HBKD.out)
                have d2 : w2.cell? ⟨(w.heap.size + 1), 5, none⟩ = some (.slice ao k co) := by rw [blk_cell HBK2.out]; exact set_get HKS.out
                have HROW := Lib.hid (show RowRep (fun k => wd.heap.size ≤ k) w2 waitingS _ us.toArray.toList by simpa using hrow)
                have HRD := Lib.hid hrd
                have HG := Lib.hid hg
                have HU := Lib.hid (show us.toArray.size = 89 by rw [List.size_toArray, hrow.2.1]; exact len_waitingS)
                obtain ⟨i0, z0, hi0, hz0, hz1, -, -⟩ := info_elem info100
                have HI0 := Lib.hid hi0
                have HZ0 := Lib.hid hz0
                have HZ1 := Lib.hid hz1
                clear hrow hrd hg d0 hi0 hz0 hz1
                go_wp2_with fail
                refine ⟨⟨by go_simp, trivial⟩, ?_⟩
                refine plan_effH rfl rfl (fun K hK => ?_)
                refine wp_build_one 26 100 (.tmp 93) rfl us.toArray i0 z0 89 Try.underlying26 HI0.out HZ0.out HZ1.out (by decide) (by decide) rfl HU.out ?_
                have HG3 := Lib.hid (World.grownBy_alloc w2 (.cells us.toArray 100) none)
                have HY3 := Lib.hid (heap_alloc_new w2 (.cells us.toArray 100))
                have d3 : (w2.alloc (.cells us.toArray 100)).cell? ⟨(w.heap.size + 1), 5, none⟩ = some (.slice ao k co) := by rw [cell?_heap (p := ⟨(w.heap.size + 1), 5, none⟩) (HG3.out.block _ (blk_lt HBK2.out) (by simp))]; exact d2
                generalize w2.alloc (.cells us.toArray 100) = w3 at HG3 HY3 d3
                generalize w2.heap.size = Y at HY3
                refine hK _ _ ⟨⟨by go_simp, trivial⟩, ?_⟩
                clear hK K
                refine plan_eff rfl rfl (fun K hK => ?_)
                refine HLD.out.append (.tmp 91) (.tmp 94) 26 rfl Try.underlying26 info100 (by decide) (by decide) hlt HU.out HROW.out HRD.out HG.out HG3.out HY3.out rfl rfl ?_
                intro a4 c4 w4 hstep hkeep
                refine hK _ _ ?_
                clear hK K
                obtain ⟨old, hc, hf, HL2⟩ := DLoop.store HLD.out HBKD.out HKS.out hstep hkeep
                clear hstep hkeep HLD HBKD HKS HG3 HY3 HROW HRD HG HU HI0 HZ0 HZ1 HBK2 d2 d3
                repeat (first | (refine plan_free (v := ?_) rfl rfl (fun _ => ?_) (fun K hK => ?_); rotate_left 1; (focus (go_simp <;> exact rfl)); go_simp; refine hK _ _ ?_; clear hK K) | (refine plan_held (v := ?_) rfl rfl ?_ (fun K hK => ?_); rotate_left 1; (focus (go_simp <;> exact rfl)); go_simp; refine hK _ _ ?_; clear hK K) | (refine plan_skip rfl rfl (fun K hK => ?_); go_simp; refine hK _ _ ?_; clear hK K))
                refine plan_eff rfl rfl (fun K hK => ?_)
                go_wp2_with fail
                refine plan_nil ?_
                go_wp2_with fail
                go_roundw
                case rel => exact ⟨k + 1, by go_num, HL2⟩
                case measure => simp [intOf]; omega
              · have p1 : ((e : Int) == 0) = false := by simp; omega
                clear he
                go_wp2_with (go_at_call 63; refine halt_here ?_)
                refine go_on (HEE.out.mono ?_)
                rintro x w9 ⟨rfl, rfl⟩
                clear HEE
                go_wp2_with fail
                go_meet
                case rel => exact Lib.hid (HX.out k _ acc cells _ _ HL.out (.inr ⟨e, rfl⟩) HBK.out)
            · go_wp2_with fail
              go_meet
              case rel => exact Lib.hid (HX.out k _ acc cells _ _ HL.out (.inl (by omega)) HBK.out)
        case rest =>
          rename World => wd5
          have HM6 : Hid (DSt wA R (w.heap.size + 1) 30 zs stateS st 6 wd5) := hcut
          clear hcut HL HX hwn5 hn5
          go_wp2_with (go_at_call 56; refine halt_here ?_)
          refine go_on ((DSt.rows (k := 6) 48 6 HM6.out rfl (by rw [HZ.out]; rfl) len_contS).mono ?_)
          rintro e wu6 ⟨n6, st1, cs, rfl, hn6, HL, HX⟩
          clear HM6
          have hwn6 : IntKind.i64.wrap (n6 : Int) = (n6 : Int) := wrapI _ (by omega) (by omega)
          go_upto_block 8 with fail
          go_cut [] from 4 (fun wc => Hid (DSt wA R (w.heap.size + 1) 30 zs stateS st 7 wc))
          case first =>
            go_wp2_with fail
            go_loopw [9] (fun i wr => ∃ k : Nat, i = .int .i64 k ∧ Hid (DLoop (w.heap.size + 1) 30 cs 6 wu6 R 48 6 contS n6 st1 k wr)) (fun i _ => n6 - (intOf i).toNat)
            case atStart => exact ⟨0, rfl, HL⟩
            case round =>
              rename World => wr
              clear HL
              obtain ⟨k, rfl, HL⟩ := hrel
              obtain ⟨acc, cells, ov, stk, hl, hbk, hks⟩ := HL.out
              obtain ⟨ao, co, rfl⟩ := hl.slice
              replace HL := Lib.hid hl
              have HBK := Lib.hid hbk
              have HKS := Lib.hid hks
              clear hl hbk hks
              by_cases hlt : k < n6
              · obtain ⟨e, HE, he⟩ := err_read HL.out.rdr
                have HEE := Lib.hid HE
                clear HE
                rcases he with ⟨rfl, bk, rfl⟩ | ⟨he, rfl⟩
                · go_wp2_with (go_at_call 63; refine halt_here ?_)
                  refine go_on (HEE.out.mono ?_)
                  rintro x w9 ⟨rfl, rfl⟩
                  clear HEE HX
                  have HLD := Lib.hid (HL.out.later (drew_g0 wr))
                  have HBKD := Lib.hid (show wr.drew.heap[(w.heap.size + 1)]? = some (.cells (cs.setIfInBounds 6 (.slice ao k co)) 30 (0, 0)) from HBK.out)
                  have d0 : wr.drew.cell? ⟨(w.heap.size + 1), 6, none⟩ = some (.slice ao k co) := by rw [blk_cell HBKD.out]; exact set_get HKS.out
                  clear HL HBK
                  go_wp2_with fail
                  refine wp_region_plan [(0, none), (1, some none), (2, none), (3, some (some true)), (4, some (some true)), (5, some (some false)), (6, none), (7, some (some false))] (by kernel_rfl) (by kernel_rfl) ?_
                  generalize wr.drew = wd at d0 HLD HBKD
                  repeat (first | (refine plan_free (v := ?_) rfl rfl (fun _ => ?_) (fun K hK => ?_); rotate_left 1; (focus (go_simp <;> exact rfl)); go_simp; refine hK _ _ ?_; clear hK K) | (refine plan_held (v := ?_) rfl rfl ?_ (fun K hK => ?_); rotate_left 1; (focus (go_simp <;> exact rfl)); go_simp; refine hK _ _ ?_; clear hK K) | (refine plan_skip rfl rfl (fun K hK => ?_); go_simp; refine hK _ _ ?_; clear hK K))
                  refine plan_effH rfl rfl (fun K hK => ?_)
                  go_wp2_with (go_at_call 96; refine halt_here ?_)
                  refine go_on ((rcont_r R _ wd HLD.out.rdr HLD.out.small).mono ?_)
                  rintro e w2 ⟨us, rfl, hrow, hrd, hg⟩
                  have HBK2 := Lib.hid (show w2.heap[(w.heap.size + 1)]? = some (.cells (cs.setIfInBounds 6 (.slice ao k co)) 30 (0, 0)) by rw [hg.block _ (blk_lt HBKD.out) (fun e => by injection e with e; have := HLD.out.hW _ rfl; omega)]; exact HBKD.out)
                  have d2 : w2.cell? ⟨(w.heap.size + 1), 6, none⟩ = some (.slice ao k co) := by rw [blk_cell HBK2.out]; exact set_get HKS.out
                  have HROW := Lib.hid (show RowRep (fun k => wd.heap.size ≤ k) w2 contS _ us.toArray.toList by simpa using hrow)
                  have HRD := Lib.hid hrd
                  have HG := Lib.hid hg
                  have HU := Lib.hid (show us.toArray.size = 6 by rw [List.size_toArray, hrow.2.1]; exact len_contS)
                  obtain ⟨i0, z0, hi0, hz0, hz1, -, -⟩ := info_elem info48
                  have HI0 := Lib.hid hi0
                  have HZ0 := Lib.hid hz0
                  have HZ1 := Lib.hid hz1
                  clear hrow hrd hg d0 hi0 hz0 hz1
                  go_wp2_with fail
                  refine ⟨⟨by go_simp, trivial⟩, ?_⟩
                  refine plan_effH rfl rfl (fun K hK => ?_)
                  refine wp_build_one 27 48 (.tmp 113) rfl us.toArray i0 z0 6 Try.underlying27 HI0.out HZ0.out HZ1.out (by decide) (by decide) rfl HU.out ?_
                  have HG3 := Lib.hid (World.grownBy_alloc w2 (.cells us.toArray 48) none)
                  have HY3 := Lib.hid (heap_alloc_new w2 (.cells us.toArray 48))
                  have d3 : (w2.alloc (.cells us.toArray 48)).cell? ⟨(w.heap.size + 1), 6, none⟩ = some (.slice ao k co) := by rw [cell?_heap (p := ⟨(w.heap.size + 1), 6, none⟩) (HG3.out.block _ (blk_lt HBK2.out) (by simp))]; exact d2
                  generalize w2.alloc (.cells us.toArray 48) = w3 at HG3 HY3 d3
                  generalize w2.heap.size = Y at HY3
                  refine hK _ _ ⟨⟨by go_simp, trivial⟩, ?_⟩
                  clear hK K
                  refine plan_eff rfl rfl (fun K hK => ?_)
                  refine HLD.out.append (.tmp 111) (.tmp 114) 27 rfl Try.underlying27 info48 (by decide) (by decide) hlt HU.out HROW.out HRD.out HG.out HG3.out HY3.out rfl rfl ?_
                  intro a4 c4 w4 hstep hkeep
                  refine hK _ _ ?_
                  clear hK K
                  obtain ⟨old, hc, hf, HL2⟩ := DLoop.store HLD.out HBKD.out HKS.out hstep hkeep
                  clear hstep hkeep HLD HBKD HKS HG3 HY3 HROW HRD HG HU HI0 HZ0 HZ1 HBK2 d2 d3
                  repeat (first | (refine plan_free (v := ?_) rfl rfl (fun _ => ?_) (fun K hK => ?_); rotate_left 1; (focus (go_simp <;> exact rfl)); go_simp; refine hK _ _ ?_; clear hK K) | (refine plan_held (v := ?_) rfl rfl ?_ (fun K hK => ?_); rotate_left 1; (focus (go_simp <;> exact rfl)); go_simp; refine hK _ _ ?_; clear hK K) | (refine plan_skip rfl rfl (fun K hK => ?_); go_simp; refine hK _ _ ?_; clear hK K))
                  refine plan_eff rfl rfl (fun K hK => ?_)
                  go_wp2_with fail
                  refine plan_nil ?_
                  go_wp2_with fail
                  go_roundw
                  case rel => exact ⟨k + 1, by go_num, HL2⟩
                  case measure => simp [intOf]; omega
                · have p1 : ((e : Int) == 0) = false := by simp; omega
                  clear he
                  go_wp2_with (go_at_call 63; refine halt_here ?_)
                  refine go_on (HEE.out.mono ?_)
                  rintro x w9 ⟨rfl, rfl⟩
                  clear HEE
                  go_wp2_with fail
                  go_meet
                  case rel => exact Lib.hid (HX.out k _ acc cells _ _ HL.out (.inr ⟨e, rfl⟩) HBK.out)
              · go_wp2_with fail
                go_meet
                case rel => exact Lib.hid (HX.out k _ acc cells _ _ HL.out (.inl (by omega)) HBK.out)
          case rest =>
            rename World => wd6
            have HM7 : Hid (DSt wA R (w.heap.size + 1) 30 zs stateS st 7 wd6) := hcut
            clear hcut HL HX hwn6 hn6
            go_wp2_with (go_at_call 57; refine halt_here ?_)
            refine go_on ((DSt.int (k := 7) HM7.out rfl).mono ?_)
            rintro e w8 ⟨z, old, rfl, hc8, hf8, HM8⟩
            clear HM7
            go_wp2_with (go_at_call 57; refine halt_here ?_)
            refine go_on ((DSt.int (k := 8) HM8.out rfl).mono ?_)
            rintro e w9 ⟨z, old, rfl, hc9, hf9, HM9⟩
            clear hc8 hf8 HM8
            go_wp2_with (go_at_call 57; refine halt_here ?_)
            refine go_on ((DSt.int (k := 9) HM9.out rfl).mono ?_)
            rintro e w10 ⟨z, old, rfl, hc10, hf10, HM10⟩
            clear hc9 hf9 HM9
            go_wp2_with (go_at_call 58; refine halt_here ?_)
            refine go_on ((DSt.bool (k := 10) HM10.out rfl).mono ?_)
            rintro e w11 ⟨z, old, rfl, hc11, hf11, HM11⟩
            clear hc10 hf10 HM10
            go_wp2_with (go_at_call 57; refine halt_here ?_)
            refine go_on ((DSt.int (k := 11) HM11.out rfl).mono ?_)
            rintro e w12 ⟨z, old, rfl, hc12, hf12, HM12⟩
            clear hc11 hf11 HM11
            go_wp2_with (go_at_call 57; refine halt_here ?_)
            refine go_on ((DSt.int (k := 12) HM12.out rfl).mono ?_)
            rintro e w13 ⟨z, old, rfl, hc13, hf13, HM13⟩
            clear hc12 hf12 HM12
            go_wp2_with (go_at_call 57; refine halt_here ?_)
            refine go_on ((DSt.int (k := 13) HM13.out rfl).mono ?_)
            rintro e w14 ⟨z, old, rfl, hc14, hf14, HM14⟩
            clear hc13 hf13 HM13
            go_wp2_with (go_at_call 57; refine halt_here ?_)
            refine go_on ((DSt.int (k := 14) HM14.out rfl).mono ?_)
            rintro e w15 ⟨z, old, rfl, hc15, hf15, HM15⟩
            clear hc14 hf14 HM14
            go_wp2_with (go_at_call 56; refine halt_here ?_)
            refine go_on ((DSt.num (k := 15) HM15.out rfl).mono ?_)
            rintro e w16 ⟨z, old, rfl, hc16, hf16, HM16⟩
            clear hc15 hf15 HM15
            go_wp2_with (go_at_call 61; refine halt_here ?_)
            refine go_on ((DSt.ints (k := 16) HM16.out rfl).mono ?_)
            rintro e w17 ⟨za, zn, zc, old, rfl, hc17, hf17, HM17⟩
            clear hc16 hf16 HM16
            go_wp2_with (go_at_call 57; refine halt_here ?_)
            refine go_on ((DSt.int (k := 17) HM17.out rfl).mono ?_)
            rintro e w18 ⟨z, old, rfl, hc18, hf18, HM18⟩
            clear hc17 hf17 HM17
            go_wp2_with (go_at_call 57; refine halt_here ?_)
            refine go_on ((DSt.int (k := 18) HM18.out rfl).mono ?_)
            rintro e w19 ⟨z, old, rfl, hc19, hf19, HM19⟩
            clear hc18 hf18 HM18
            go_wp2_with (with_reducible refine wpList_halt_load 30 _ ?_)
            clear hc19 hf19
            obtain ⟨us, HB, HU, HROW, HRD, HK⟩ := HM19.out.done (k := 19) len_stateS
            have HI := Lib.hid (show (Try.prog.info? 30).map (·.size) = some us.size by rw [HU.out]; exact size30)
            have HONE := Lib.hid (show us.all (·.oneCell') = true by have h := all_oneCell_toArray (row_one HROW.out); simpa using h)
            obtain ⟨Z, HZS, HZC⟩ := HRET.out.kept HR.out.lt HK.out
            generalize (w19.setCell ⟨(w.heap.size + 1), 18, none⟩ (.int .i64 z)) = wz at HB HROW HRD HK HZC
            clear HM19
            refine go_on (wpList_load_row rfl 30 (.tmp 3) rfl (w.heap.size + 1) rfl 30 us (0, 0) _ HB.out Try.underlying30 rfl HI.out ?_)
            go_wp2_with (with_reducible refine wpList_halt_store 30 _ _ ?_)
            refine go_on (wpList_store_row rfl 30 (.tmp 2) (.tmp 153) rfl w.heap.size us rfl rfl 30 Z HZC.out HI.out (by rw [HZS.out, HU.out]; exact len_stateS) HONE.out ?_)
            go_wp2_with fail
            refine bodyPost_ret (results_one rfl rfl (setRow_heap wz _ Z us 30 (0, 0) HZC.out) Try.underlying30 rfl HI.out) rfl ?_
            exact RRead.of rfl HRET.out.grown HRET.out.size HR.out.lt HROW.out HRD.out HK.out
end Go.Proofs.Ytbcpdjhpceimlaa
