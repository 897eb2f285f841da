/-
  Comparison of states (layer 26 of the reference). What reads as the same state is the same.
-/
import Derived.Test.YtbcpdjhpceimlaaSameC
import Derived.Test.YtbcpdjhpceimlaaEncDec
namespace Go.Proofs.Ytbcpdjhpceimlaa
open Go.ChangeShapes Go.WideShapes Go.ChangeAt Go.RowKit
set_option linter.unusedVariables false

set_option maxRecDepth 100000 in
set_option maxHeartbeats 4000000 in
theorem sameLists_any {A A' : Nat → Prop} (v : List V) (c1 c2 : Array Value) (w : World) (h1 : RowRep A w stateS v c1.toList) (h2 : RowRep A' w stateS v c2.toList) :
    Calls Try.prog 71 #[.agg c1, .agg c2] w (SameAns w) := by
  obtain ⟨x0, ux0, vx0, p0, q0, ra0, rb0⟩ := two_x h1 h2 (j := 0) rfl
  have RA0 := Lib.hid ra0
  have RB0 := Lib.hid rb0
  clear ra0 rb0
  obtain ⟨x1, ux1, vx1, p1, q1, ra1, rb1⟩ := two_x h1 h2 (j := 1) rfl
  have RA1 := Lib.hid ra1
  have RB1 := Lib.hid rb1
  clear ra1 rb1
  obtain ⟨x4, ux4, vx4, p4, q4, ra4, rb4⟩ := two_x h1 h2 (j := 4) rfl
  have RA4 := Lib.hid ra4
  have RB4 := Lib.hid rb4
  clear ra4 rb4
  obtain ⟨x5, ux5, vx5, p5, q5, ra5, rb5⟩ := two_x h1 h2 (j := 5) rfl
  have RA5 := Lib.hid ra5
  have RB5 := Lib.hid rb5
  clear ra5 rb5
  obtain ⟨x6, ux6, vx6, p6, q6, ra6, rb6⟩ := two_x h1 h2 (j := 6) rfl
  have RA6 := Lib.hid ra6
  have RB6 := Lib.hid rb6
  clear ra6 rb6
  have HK1 := Lib.hid (heap_alloc2_old w (.cells c1 30) (.cells c2 30))
  have HK2 := Lib.hid (heap_alloc2_new w (.cells c1 30) (.cells c2 30))
  have HB := Lib.hid (show Below w.heap.size w ((w.alloc (.cells c1 30)).alloc (.cells c2 30)) from ((Below.refl _ _).alloc (Nat.le_refl _) _).alloc (by simp) _)
  have H1 := Lib.hid h1
  have H2 := Lib.hid h2
  clear h1 h2
  obtain ⟨rows0, f0, aa0, cc0, rfl, rfl, hn0, hs, hx, hr⟩ := rows_open RA0.out
  obtain ⟨rows02, f02, aa02, cc02, he, rfl, -, -, hx2, hr2⟩ := rows_open RB0.out
  cases he
  have HS0 := Lib.hid hs
  have HX0 := Lib.hid hx
  have HR0 := Lib.hid hr
  have HX02 := Lib.hid hx2
  have HR02 := Lib.hid hr2
  obtain ⟨n0, hnl⟩ : ∃ n, rows0.length = n := ⟨_, rfl⟩
  have HL0 := Lib.hid hnl
  rw [hnl] at hn0 p0 q0
  clear hs hx hr hx2 hr2 hnl RA0 RB0
  obtain ⟨rows1, f1, aa1, cc1, rfl, rfl, hn1, hs, hx, hr⟩ := rows_open RA1.out
  obtain ⟨rows12, f12, aa12, cc12, he, rfl, -, -, hx2, hr2⟩ := rows_open RB1.out
  cases he
  have HS1 := Lib.hid hs
  have HX1 := Lib.hid hx
  have HR1 := Lib.hid hr
  have HX12 := Lib.hid hx2
  have HR12 := Lib.hid hr2
  obtain ⟨n1, hnl⟩ : ∃ n, rows1.length = n := ⟨_, rfl⟩
  have HL1 := Lib.hid hnl
  rw [hnl] at hn1 p1 q1
  clear hs hx hr hx2 hr2 hnl RA1 RB1
  obtain ⟨rows4, f4, aa4, cc4, rfl, rfl, hn4, hs, hx, hr⟩ := rows_open RA4.out
  obtain ⟨rows42, f42, aa42, cc42, he, rfl, -, -, hx2, hr2⟩ := rows_open RB4.out
  cases he
  have HS4 := Lib.hid hs
  have HX4 := Lib.hid hx
  have HR4 := Lib.hid hr
  have HX42 := Lib.hid hx2
  have HR42 := Lib.hid hr2
  obtain ⟨n4, hnl⟩ : ∃ n, rows4.length = n := ⟨_, rfl⟩
  have HL4 := Lib.hid hnl
  rw [hnl] at hn4 p4 q4
  clear hs hx hr hx2 hr2 hnl RA4 RB4
  obtain ⟨rows5, f5, aa5, cc5, rfl, rfl, hn5, hs, hx, hr⟩ := rows_open RA5.out
  obtain ⟨rows52, f52, aa52, cc52, he, rfl, -, -, hx2, hr2⟩ := rows_open RB5.out
  cases he
  have HS5 := Lib.hid hs
  have HX5 := Lib.hid hx
  have HR5 := Lib.hid hr
  have HX52 := Lib.hid hx2
  have HR52 := Lib.hid hr2
  obtain ⟨n5, hnl⟩ : ∃ n, rows5.length = n := ⟨_, rfl⟩
  have HL5 := Lib.hid hnl
  rw [hnl] at hn5 p5 q5
  clear hs hx hr hx2 hr2 hnl RA5 RB5
  obtain ⟨rows6, f6, aa6, cc6, rfl, rfl, hn6, hs, hx, hr⟩ := rows_open RA6.out
  obtain ⟨rows62, f62, aa62, cc62, he, rfl, -, -, hx2, hr2⟩ := rows_open RB6.out
  cases he
  have HS6 := Lib.hid hs
  have HX6 := Lib.hid hx
  have HR6 := Lib.hid hr
  have HX62 := Lib.hid hx2
  have HR62 := Lib.hid hr2
  obtain ⟨n6, hnl⟩ : ∃ n, rows6.length = n := ⟨_, rfl⟩
  have HL6 := Lib.hid hnl
  rw [hnl] at hn6 p6 q6
  clear hs hx hr hx2 hr2 hnl RA6 RB6
  have f0a := (blk_cell HK1.out 0).trans p0
  have g0a := (blk_cell HK2.out 0).trans q0
  have f1a := (blk_cell HK1.out 1).trans p1
  have g1a := (blk_cell HK2.out 1).trans q1
  have f4a := (blk_cell HK1.out 4).trans p4
  have g4a := (blk_cell HK2.out 4).trans q4
  have f5a := (blk_cell HK1.out 5).trans p5
  have g5a := (blk_cell HK2.out 5).trans q5
  have f6a := (blk_cell HK1.out 6).trans p6
  have g6a := (blk_cell HK2.out 6).trans q6
  go_enter Try.func71, Try.ntmps71
  go_wp2_with fail
  clear f0a g0a f1a g1a f4a g4a f5a g5a f6a g6a
  generalize hW : ((w.alloc (.cells c1 30)).alloc (.cells c2 30)) = w1 at HK1 HK2 HB
  clear hW
  have HBW := Lib.hid (Below.refl w1.heap.size w1)
  go_loopw [5] (fun i wr => ∃ k : Nat, i = .int .i64 k ∧ k ≤ n0 ∧ Hid (Below w1.heap.size w1 wr)) (fun i _ => n0 - (intOf i).toNat)
  case atStart => exact ⟨0, rfl, Nat.zero_le _, HBW⟩
  case round =>
    rename World => wr0
    clear HBW
    obtain ⟨k, rfl, hk, HBW⟩ := hrel
    have HKr1 := Lib.hid ((HBW.out.block _ (blk_lt HK1.out)).trans HK1.out)
    have HKr2 := Lib.hid ((HBW.out.block _ (blk_lt HK2.out)).trans HK2.out)
    have HBr := Lib.hid (HB.out.trans (HBW.out.mono HB.out.size))
    have f0b := (blk_cell HKr1.out 0).trans p0
    have g0b := (blk_cell HKr2.out 0).trans q0
    by_cases hlt : k < n0
    · obtain ⟨g1, o1, ce, rfl, -, -, hrow, hrg, hcl⟩ := row_open len_playerS HS0.out HX0.out HR0.out (k := k) (by rw [HL0.out]; exact hlt) HBr.out
      obtain ⟨g2, o2, ce2, rfl, -, -, hrow2, hrg2, hcl2⟩ := row_open len_playerS HS0.out HX02.out HR02.out (k := k) (by rw [HL0.out]; exact hlt) HBr.out
      have HRG := Lib.hid hrg
      have HRG2 := Lib.hid hrg2
      have HI := Lib.hid (show (Try.prog.info? 78).map (·.size) = some ce.length by rw [hcl]; exact siz78)
      have HI2 := Lib.hid (show (Try.prog.info? 78).map (·.size) = some ce2.length by rw [hcl2]; exact siz78)
      have HROW := Lib.hid hrow
      have HROW2 := Lib.hid hrow2
      clear hrow hrow2 hrg hrg2 hcl hcl2
      go_wp2_with fail
      refine wp_region_plan [(0, none), (1, some none), (2, none), (3, none), (4, some none), (5, none), (6, some none), (7, none), (8, none), (9, some none), (10, some (some false)), (11, none)] (by kernel_rfl) (by kernel_rfl) ?_
      repeat (first | (refine plan_free (v := ?_) rfl rfl (fun _ => ?_) (fun K hK => ?_); rotate_left 1; (focus (go_simp <;> exact rfl)); go_simp; refine hK _ _ ?_; clear hK K) | (refine plan_held (v := ?_) rfl rfl ?_ (fun K hK => ?_); rotate_left 1; (focus (go_simp <;> exact rfl)); go_simp; refine hK _ _ ?_; clear hK K))
      refine plan_held (v := .agg ce.toArray) rfl rfl (exec_load_mid 78 (.tmp 63) rfl g1 (o1 + k * 14) rfl ce _ HRG.out Try.underlying78 rfl HI.out) (fun K hK => ?_)
      refine hK _ _ ?_
      clear hK K
      repeat (first | (refine plan_free (v := ?_) rfl rfl (fun _ => ?_) (fun K hK => ?_); rotate_left 1; (focus (go_simp <;> exact rfl)); go_simp; refine hK _ _ ?_; clear hK K) | (refine plan_held (v := ?_) rfl rfl ?_ (fun K hK => ?_); rotate_left 1; (focus (go_simp <;> exact rfl)); go_simp; refine hK _ _ ?_; clear hK K))
      refine plan_held (v := .agg ce2.toArray) rfl rfl (exec_load_mid 78 (.tmp 68) rfl g2 (o2 + k * 14) rfl ce2 _ HRG2.out Try.underlying78 rfl HI2.out) (fun K hK => ?_)
      refine hK _ _ ?_
      clear hK K
      refine plan_eff rfl rfl (fun K hK => ?_)
      go_wp2_with (go_at_call 97; refine halt_here ?_)
      refine go_on ((same78_any _ ce.toArray ce2.toArray _ (HROW.out.under HBr.out.drew) (HROW2.out.under HBr.out.drew)).mono ?_)
      rintro e wc ⟨rfl, hbc⟩
      go_wp2_with fail
      repeat (first | (refine plan_free (v := ?_) rfl rfl (fun _ => ?_) (fun K hK => ?_); rotate_left 1; (focus (go_simp <;> exact rfl)); go_simp; refine hK _ _ ?_; clear hK K) | (refine plan_held (v := ?_) rfl rfl ?_ (fun K hK => ?_); rotate_left 1; (focus (go_simp <;> exact rfl)); go_simp; refine hK _ _ ?_; clear hK K))
      refine plan_nil ?_
      go_wp2_with fail
      go_roundw
      case rel => exact ⟨k + 1, by go_num, by omega, Lib.hid (HBW.out.drew.trans (hbc.mono HBW.out.size))⟩
      case measure => simp [intOf]; omega
    · go_wp2_with fail
      clear f0b g0b HKr1 HKr2 HBr hlt
      go_loopw [6] (fun i wr => ∃ k : Nat, i = .int .i64 k ∧ k ≤ n1 ∧ Hid (Below w1.heap.size w1 wr)) (fun i _ => n1 - (intOf i).toNat)
      case atStart => exact ⟨0, rfl, Nat.zero_le _, HBW⟩
      case round =>
        rename World => wr1
        clear HBW
        obtain ⟨k, rfl, hk, HBW⟩ := hrel
        have HKr1 := Lib.hid ((HBW.out.block _ (blk_lt HK1.out)).trans HK1.out)
        have HKr2 := Lib.hid ((HBW.out.block _ (blk_lt HK2.out)).trans HK2.out)
        have HBr := Lib.hid (HB.out.trans (HBW.out.mono HB.out.size))
        have f1b := (blk_cell HKr1.out 1).trans p1
        have g1b := (blk_cell HKr2.out 1).trans q1
        by_cases hlt : k < n1
        · obtain ⟨g1, o1, ce, rfl, -, -, hrow, hrg, hcl⟩ := row_open len_objectS HS1.out HX1.out HR1.out (k := k) (by rw [HL1.out]; exact hlt) HBr.out
          obtain ⟨g2, o2, ce2, rfl, -, -, hrow2, hrg2, hcl2⟩ := row_open len_objectS HS1.out HX12.out HR12.out (k := k) (by rw [HL1.out]; exact hlt) HBr.out
          obtain rfl := rows_same hrow hrow2 (by decide)
          have HRG := Lib.hid hrg
          have HRG2 := Lib.hid hrg2
          have HI := Lib.hid (show (Try.prog.info? 125).map (·.size) = some ce.length by rw [hcl]; exact siz125)
          have HEQ := Lib.hid (equal_self 5 flat125 (by decide) key125 (by omega) form125 hrow)
          clear hrow hrow2 hrg hrg2 hcl hcl2
          go_wp2_with fail
          refine wp_region_plan [(0, none), (1, some none), (2, none), (3, none), (4, some none), (5, none), (6, some none), (7, none), (8, none), (9, some none), (10, none)] (by kernel_rfl) (by kernel_rfl) ?_
          repeat (first | (refine plan_free (v := ?_) rfl rfl (fun _ => ?_) (fun K hK => ?_); rotate_left 1; (focus (go_simp <;> exact rfl)); go_simp; refine hK _ _ ?_; clear hK K) | (refine plan_held (v := ?_) rfl rfl ?_ (fun K hK => ?_); rotate_left 1; (focus (go_simp <;> exact rfl)); go_simp; refine hK _ _ ?_; clear hK K))
          refine plan_held (v := .agg ce.toArray) rfl rfl (exec_load_mid 125 (.tmp 82) rfl g1 (o1 + k * 19) rfl ce _ HRG.out Try.underlying125 rfl HI.out) (fun K hK => ?_)
          refine hK _ _ ?_
          clear hK K
          repeat (first | (refine plan_free (v := ?_) rfl rfl (fun _ => ?_) (fun K hK => ?_); rotate_left 1; (focus (go_simp <;> exact rfl)); go_simp; refine hK _ _ ?_; clear hK K) | (refine plan_held (v := ?_) rfl rfl ?_ (fun K hK => ?_); rotate_left 1; (focus (go_simp <;> exact rfl)); go_simp; refine hK _ _ ?_; clear hK K))
          refine plan_held (v := .agg ce.toArray) rfl rfl (exec_load_mid 125 (.tmp 87) rfl g2 (o2 + k * 19) rfl ce _ HRG2.out Try.underlying125 rfl HI.out) (fun K hK => ?_)
          refine hK _ _ ?_
          clear hK K
          refine plan_free (v := .bool false) rfl rfl (fun w' => exec_neq_self 125 125 (.tmp 83) (.tmp 88) rfl ce.toArray rfl rfl guard125 (HEQ.out w')) (fun K hK => ?_)
          refine hK _ _ ?_
          clear hK K
          refine plan_nil ?_
          go_wp2_with fail
          go_roundw
          case rel => exact ⟨k + 1, by go_num, by omega, Lib.hid HBW.out.drew⟩
          case measure => simp [intOf]; omega
        · go_wp2_with fail
          clear f1b g1b HKr1 HKr2 HBr hlt
          go_loopw [7] (fun i wr => ∃ k : Nat, i = .int .i64 k ∧ k ≤ n4 ∧ Hid (Below w1.heap.size w1 wr)) (fun i _ => n4 - (intOf i).toNat)
          case atStart => exact ⟨0, rfl, Nat.zero_le _, HBW⟩
          case round =>
            rename World => wr2
            clear HBW
            obtain ⟨k, rfl, hk, HBW⟩ := hrel
            have HKr1 := Lib.hid ((HBW.out.block _ (blk_lt HK1.out)).trans HK1.out)
            have HKr2 := Lib.hid ((HBW.out.block _ (blk_lt HK2.out)).trans HK2.out)
            have HBr := Lib.hid (HB.out.trans (HBW.out.mono HB.out.size))
            have f4b := (blk_cell HKr1.out 4).trans p4
            have g4b := (blk_cell HKr2.out 4).trans q4
            by_cases hlt : k < n4
            · obtain ⟨g1, o1, ce, rfl, -, -, hrow, hrg, hcl⟩ := row_open len_itemS HS4.out HX4.out HR4.out (k := k) (by rw [HL4.out]; exact hlt) HBr.out
              obtain ⟨g2, o2, ce2, rfl, -, -, hrow2, hrg2, hcl2⟩ := row_open len_itemS HS4.out HX42.out HR42.out (k := k) (by rw [HL4.out]; exact hlt) HBr.out
              have HRG := Lib.hid hrg
              have HRG2 := Lib.hid hrg2
              have HI := Lib.hid (show (Try.prog.info? 97).map (·.size) = some ce.length by rw [hcl]; exact siz97)
              have HI2 := Lib.hid (show (Try.prog.info? 97).map (·.size) = some ce2.length by rw [hcl2]; exact siz97)
              have HROW := Lib.hid hrow
              have HROW2 := Lib.hid hrow2
              clear hrow hrow2 hrg hrg2 hcl hcl2
              go_wp2_with fail
              refine wp_region_plan [(0, none), (1, some none), (2, none), (3, none), (4, some none), (5, none), (6, some none), (7, none), (8, none), (9, some none), (10, some (some false)), (11, none)] (by kernel_rfl) (by kernel_rfl) ?_
              repeat (first | (refine plan_free (v := ?_) rfl rfl (fun _ => ?_) (fun K hK => ?_); rotate_left 1; (focus (go_simp <;> exact rfl)); go_simp; refine hK _ _ ?_; clear hK K) | (refine plan_held (v := ?_) rfl rfl ?_ (fun K hK => ?_); rotate_left 1; (focus (go_simp <;> exact rfl)); go_simp; refine hK _ _ ?_; clear hK K))
              refine plan_held (v := .agg ce.toArray) rfl rfl (exec_load_mid 97 (.tmp 100) rfl g1 (o1 + k * 94) rfl ce _ HRG.out Try.underlying97 rfl HI.out) (fun K hK => ?_)
              refine hK _ _ ?_
              clear hK K
              repeat (first | (refine plan_free (v := ?_) rfl rfl (fun _ => ?_) (fun K hK => ?_); rotate_left 1; (focus (go_simp <;> exact rfl)); go_simp; refine hK _ _ ?_; clear hK K) | (refine plan_held (v := ?_) rfl rfl ?_ (fun K hK => ?_); rotate_left 1; (focus (go_simp <;> exact rfl)); go_simp; refine hK _ _ ?_; clear hK K))
              refine plan_held (v := .agg ce2.toArray) rfl rfl (exec_load_mid 97 (.tmp 105) rfl g2 (o2 + k * 94) rfl ce2 _ HRG2.out Try.underlying97 rfl HI2.out) (fun K hK => ?_)
              refine hK _ _ ?_
              clear hK K
              refine plan_eff rfl rfl (fun K hK => ?_)
              go_wp2_with (go_at_call 98; refine halt_here ?_)
              refine go_on ((same97_any _ ce.toArray ce2.toArray _ (HROW.out.under HBr.out.drew) (HROW2.out.under HBr.out.drew)).mono ?_)
              rintro e wc ⟨rfl, hbc⟩
              go_wp2_with fail
              repeat (first | (refine plan_free (v := ?_) rfl rfl (fun _ => ?_) (fun K hK => ?_); rotate_left 1; (focus (go_simp <;> exact rfl)); go_simp; refine hK _ _ ?_; clear hK K) | (refine plan_held (v := ?_) rfl rfl ?_ (fun K hK => ?_); rotate_left 1; (focus (go_simp <;> exact rfl)); go_simp; refine hK _ _ ?_; clear hK K))
              refine plan_nil ?_
              go_wp2_with fail
              go_roundw
              case rel => exact ⟨k + 1, by go_num, by omega, Lib.hid (HBW.out.drew.trans (hbc.mono HBW.out.size))⟩
              case measure => simp [intOf]; omega
            · go_wp2_with fail
              clear f4b g4b HKr1 HKr2 HBr hlt
              go_loopw [8] (fun i wr => ∃ k : Nat, i = .int .i64 k ∧ k ≤ n5 ∧ Hid (Below w1.heap.size w1 wr)) (fun i _ => n5 - (intOf i).toNat)
              case atStart => exact ⟨0, rfl, Nat.zero_le _, HBW⟩
              case round =>
                rename World => wr3
                clear HBW
                obtain ⟨k, rfl, hk, HBW⟩ := hrel
                have HKr1 := Lib.hid ((HBW.out.block _ (blk_lt HK1.out)).trans HK1.out)
                have HKr2 := Lib.hid ((HBW.out.block _ (blk_lt HK2.out)).trans HK2.out)
                have HBr := Lib.hid (HB.out.trans (HBW.out.mono HB.out.size))
                have f5b := (blk_cell HKr1.out 5).trans p5
                have g5b := (blk_cell HKr2.out 5).trans q5
                by_cases hlt : k < n5
                · obtain ⟨g1, o1, ce, rfl, -, -, hrow, hrg, hcl⟩ := row_open len_waitingS HS5.out HX5.out HR5.out (k := k) (by rw [HL5.out]; exact hlt) HBr.out
                  obtain ⟨g2, o2, ce2, rfl, -, -, hrow2, hrg2, hcl2⟩ := row_open len_waitingS HS5.out HX52.out HR52.out (k := k) (by rw [HL5.out]; exact hlt) HBr.out
                  have HRG := Lib.hid hrg
                  have HRG2 := Lib.hid hrg2
                  have HI := Lib.hid (show (Try.prog.info? 100).map (·.size) = some ce.length by rw [hcl]; exact siz100)
                  have HI2 := Lib.hid (show (Try.prog.info? 100).map (·.size) = some ce2.length by rw [hcl2]; exact siz100)
                  have HROW := Lib.hid hrow
                  have HROW2 := Lib.hid hrow2
                  clear hrow hrow2 hrg hrg2 hcl hcl2
                  go_wp2_with fail
                  refine wp_region_plan [(0, none), (1, some none), (2, none), (3, none), (4, some none), (5, none), (6, some none), (7, none), (8, none), (9, some none), (10, some (some false)), (11, none)] (by kernel_rfl) (by kernel_rfl) ?_
                  repeat (first | (refine plan_free (v := ?_) rfl rfl (fun _ => ?_) (fun K hK => ?_); rotate_left 1; (focus (go_simp <;> exact rfl)); go_simp; refine hK _ _ ?_; clear hK K) | (refine plan_held (v := ?_) rfl rfl ?_ (fun K hK => ?_); rotate_left 1; (focus (go_simp <;> exact rfl)); go_simp; refine hK _ _ ?_; clear hK K))
                  refine plan_held (v := .agg ce.toArray) rfl rfl (exec_load_mid 100 (.tmp 119) rfl g1 (o1 + k * 89) rfl ce _ HRG.out Try.underlying100 rfl HI.out) (fun K hK => ?_)
                  refine hK _ _ ?_
                  clear hK K
                  repeat (first | (refine plan_free (v := ?_) rfl rfl (fun _ => ?_) (fun K hK => ?_); rotate_left 1; (focus (go_simp <;> exact rfl)); go_simp; refine hK _ _ ?_; clear hK K) | (refine plan_held (v := ?_) rfl rfl ?_ (fun K hK => ?_); rotate_left 1; (focus (go_simp <;> exact rfl)); go_simp; refine hK _ _ ?_; clear hK K))
                  refine plan_held (v := .agg ce2.toArray) rfl rfl (exec_load_mid 100 (.tmp 124) rfl g2 (o2 + k * 89) rfl ce2 _ HRG2.out Try.underlying100 rfl HI2.out) (fun K hK => ?_)
                  refine hK _ _ ?_
                  clear hK K
                  refine plan_eff rfl rfl (fun K hK => ?_)
                  go_wp2_with (go_at_call 99; refine halt_here ?_)
                  refine go_on ((same100_any _ ce.toArray ce2.toArray _ (HROW.out.under HBr.out.drew) (HROW2.out.under HBr.out.drew)).mono ?_)
                  rintro e wc ⟨rfl, hbc⟩
                  go_wp2_with fail
                  repeat (first | (refine plan_free (v := ?_) rfl rfl (fun _ => ?_) (fun K hK => ?_); rotate_left 1; (focus (go_simp <;> exact rfl)); go_simp; refine hK _ _ ?_; clear hK K) | (refine plan_held (v := ?_) rfl rfl ?_ (fun K hK => ?_); rotate_left 1; (focus (go_simp <;> exact rfl)); go_simp; refine hK _ _ ?_; clear hK K))
                  refine plan_nil ?_
                  go_wp2_with fail
                  go_roundw
                  case rel => exact ⟨k + 1, by go_num, by omega, Lib.hid (HBW.out.drew.trans (hbc.mono HBW.out.size))⟩
                  case measure => simp [intOf]; omega
                · go_wp2_with fail
                  clear f5b g5b HKr1 HKr2 HBr hlt
                  go_loopw [9] (fun i wr => ∃ k : Nat, i = .int .i64 k ∧ k ≤ n6 ∧ Hid (Below w1.heap.size w1 wr)) (fun i _ => n6 - (intOf i).toNat)
                  case atStart => exact ⟨0, rfl, Nat.zero_le _, HBW⟩
                  case round =>
                    rename World => wr4
                    clear HBW
                    obtain ⟨k, rfl, hk, HBW⟩ := hrel
                    have HKr1 := Lib.hid ((HBW.out.block _ (blk_lt HK1.out)).trans HK1.out)
                    have HKr2 := Lib.hid ((HBW.out.block _ (blk_lt HK2.out)).trans HK2.out)
                    have HBr := Lib.hid (HB.out.trans (HBW.out.mono HB.out.size))
                    have f6b := (blk_cell HKr1.out 6).trans p6
                    have g6b := (blk_cell HKr2.out 6).trans q6
                    by_cases hlt : k < n6
                    · obtain ⟨g1, o1, ce, rfl, -, -, hrow, hrg, hcl⟩ := row_open len_contS HS6.out HX6.out HR6.out (k := k) (by rw [HL6.out]; exact hlt) HBr.out
                      obtain ⟨g2, o2, ce2, rfl, -, -, hrow2, hrg2, hcl2⟩ := row_open len_contS HS6.out HX62.out HR62.out (k := k) (by rw [HL6.out]; exact hlt) HBr.out
                      have HRG := Lib.hid hrg
                      have HRG2 := Lib.hid hrg2
                      have HI := Lib.hid (show (Try.prog.info? 48).map (·.size) = some ce.length by rw [hcl]; exact siz48)
                      have HI2 := Lib.hid (show (Try.prog.info? 48).map (·.size) = some ce2.length by rw [hcl2]; exact siz48)
                      have HROW := Lib.hid hrow
                      have HROW2 := Lib.hid hrow2
                      clear hrow hrow2 hrg hrg2 hcl hcl2
                      go_wp2_with fail
                      refine wp_region_plan [(0, none), (1, some none), (2, none), (3, none), (4, some none), (5, none), (6, some none), (7, none), (8, none), (9, some none), (10, some (some false)), (11, none)] (by kernel_rfl) (by kernel_rfl) ?_
                      repeat (first | (refine plan_free (v := ?_) rfl rfl (fun _ => ?_) (fun K hK => ?_); rotate_left 1; (focus (go_simp <;> exact rfl)); go_simp; refine hK _ _ ?_; clear hK K) | (refine plan_held (v := ?_) rfl rfl ?_ (fun K hK => ?_); rotate_left 1; (focus (go_simp <;> exact rfl)); go_simp; refine hK _ _ ?_; clear hK K))
                      refine plan_held (v := .agg ce.toArray) rfl rfl (exec_load_mid 48 (.tmp 138) rfl g1 (o1 + k * 6) rfl ce _ HRG.out Try.underlying48 rfl HI.out) (fun K hK => ?_)
                      refine hK _ _ ?_
                      clear hK K
                      repeat (first | (refine plan_free (v := ?_) rfl rfl (fun _ => ?_) (fun K hK => ?_); rotate_left 1; (focus (go_simp <;> exact rfl)); go_simp; refine hK _ _ ?_; clear hK K) | (refine plan_held (v := ?_) rfl rfl ?_ (fun K hK => ?_); rotate_left 1; (focus (go_simp <;> exact rfl)); go_simp; refine hK _ _ ?_; clear hK K))
                      refine plan_held (v := .agg ce2.toArray) rfl rfl (exec_load_mid 48 (.tmp 143) rfl g2 (o2 + k * 6) rfl ce2 _ HRG2.out Try.underlying48 rfl HI2.out) (fun K hK => ?_)
                      refine hK _ _ ?_
                      clear hK K
                      refine plan_eff rfl rfl (fun K hK => ?_)
                      go_wp2_with (go_at_call 100; refine halt_here ?_)
                      refine go_on ((same48_any _ ce.toArray ce2.toArray _ (HROW.out.under HBr.out.drew) (HROW2.out.under HBr.out.drew)).mono ?_)
                      rintro e wc ⟨rfl, hbc⟩
                      go_wp2_with fail
                      repeat (first | (refine plan_free (v := ?_) rfl rfl (fun _ => ?_) (fun K hK => ?_); rotate_left 1; (focus (go_simp <;> exact rfl)); go_simp; refine hK _ _ ?_; clear hK K) | (refine plan_held (v := ?_) rfl rfl ?_ (fun K hK => ?_); rotate_left 1; (focus (go_simp <;> exact rfl)); go_simp; refine hK _ _ ?_; clear hK K))
                      refine plan_nil ?_
                      go_wp2_with fail
                      go_roundw
                      case rel => exact ⟨k + 1, by go_num, by omega, Lib.hid (HBW.out.drew.trans (hbc.mono HBW.out.size))⟩
                      case measure => simp [intOf]; omega
                    · go_wp2_with fail
                      go_ret
                      exact ⟨rfl, HBr.out⟩

set_option maxRecDepth 100000 in
set_option maxHeartbeats 4000000 in
theorem sameS_any {A A' : Nat → Prop} (v : List V) (c1 c2 : Array Value) (w : World) (h1 : RowRep A w stateS v c1.toList) (h2 : RowRep A' w stateS v c2.toList) :
    Calls Try.prog 38 #[.agg c1, .agg c2] w (SameAns w) := by
  obtain ⟨x0, ux0, vx0, p0, q0, ra0, rb0⟩ := two_x h1 h2 (j := 0) rfl
  have RA0 := Lib.hid ra0
  have RB0 := Lib.hid rb0
  clear ra0 rb0
  obtain ⟨x1, ux1, vx1, p1, q1, ra1, rb1⟩ := two_x h1 h2 (j := 1) rfl
  have RA1 := Lib.hid ra1
  have RB1 := Lib.hid rb1
  clear ra1 rb1
  obtain ⟨x2, ux2, vx2, p2, q2, ra2, rb2⟩ := two_x h1 h2 (j := 2) rfl
  have RA2 := Lib.hid ra2
  have RB2 := Lib.hid rb2
  clear ra2 rb2
  obtain ⟨x3, ux3, vx3, p3, q3, ra3, rb3⟩ := two_x h1 h2 (j := 3) rfl
  have RA3 := Lib.hid ra3
  have RB3 := Lib.hid rb3
  clear ra3 rb3
  obtain ⟨x4, ux4, vx4, p4, q4, ra4, rb4⟩ := two_x h1 h2 (j := 4) rfl
  have RA4 := Lib.hid ra4
  have RB4 := Lib.hid rb4
  clear ra4 rb4
  obtain ⟨x5, ux5, vx5, p5, q5, ra5, rb5⟩ := two_x h1 h2 (j := 5) rfl
  have RA5 := Lib.hid ra5
  have RB5 := Lib.hid rb5
  clear ra5 rb5
  obtain ⟨x6, ux6, vx6, p6, q6, ra6, rb6⟩ := two_x h1 h2 (j := 6) rfl
  have RA6 := Lib.hid ra6
  have RB6 := Lib.hid rb6
  clear ra6 rb6
  obtain ⟨n7, p7, q7⟩ := two_i h1 h2 (j := 7) rfl
  obtain ⟨n8, p8, q8⟩ := two_i h1 h2 (j := 8) rfl
  obtain ⟨n9, p9, q9⟩ := two_i h1 h2 (j := 9) rfl
  obtain ⟨n10, p10, q10⟩ := two_b h1 h2 (j := 10) rfl
  obtain ⟨n11, p11, q11⟩ := two_i h1 h2 (j := 11) rfl
  obtain ⟨n12, p12, q12⟩ := two_i h1 h2 (j := 12) rfl
  obtain ⟨n13, p13, q13⟩ := two_i h1 h2 (j := 13) rfl
  obtain ⟨n14, p14, q14⟩ := two_i h1 h2 (j := 14) rfl
  obtain ⟨n15, p15, q15⟩ := two_u h1 h2 (j := 15) rfl
  obtain ⟨x16, ux16, vx16, p16, q16, ra16, rb16⟩ := two_x h1 h2 (j := 16) rfl
  have RA16 := Lib.hid ra16
  have RB16 := Lib.hid rb16
  clear ra16 rb16
  obtain ⟨n17, p17, q17⟩ := two_i h1 h2 (j := 17) rfl
  obtain ⟨n18, p18, q18⟩ := two_i h1 h2 (j := 18) rfl
  have HK1 := Lib.hid (heap_alloc2_old w (.cells c1 30) (.cells c2 30))
  have HK2 := Lib.hid (heap_alloc2_new w (.cells c1 30) (.cells c2 30))
  have HB := Lib.hid (show Below w.heap.size w ((w.alloc (.cells c1 30)).alloc (.cells c2 30)) from ((Below.refl _ _).alloc (Nat.le_refl _) _).alloc (by simp) _)
  have H1 := Lib.hid h1
  have H2 := Lib.hid h2
  clear h1 h2
  have HI1 := Lib.hid (show (Try.prog.info? 30).map (·.size) = some c1.size by have h := H1.out.2.1; rw [len_stateS] at h; rw [Array.length_toList] at h; rw [h]; exact size30)
  have HI2 := Lib.hid (show (Try.prog.info? 30).map (·.size) = some c2.size by have h := H2.out.2.1; rw [len_stateS] at h; rw [Array.length_toList] at h; rw [h]; exact size30)
  have f2a := (blk_cell HK1.out 2).trans p2
  have g2a := (blk_cell HK2.out 2).trans q2
  have f3a := (blk_cell HK1.out 3).trans p3
  have g3a := (blk_cell HK2.out 3).trans q3
  have f7a := (blk_cell HK1.out 7).trans p7
  have g7a := (blk_cell HK2.out 7).trans q7
  have f8a := (blk_cell HK1.out 8).trans p8
  have g8a := (blk_cell HK2.out 8).trans q8
  have f9a := (blk_cell HK1.out 9).trans p9
  have g9a := (blk_cell HK2.out 9).trans q9
  have f10a := (blk_cell HK1.out 10).trans p10
  have g10a := (blk_cell HK2.out 10).trans q10
  have f11a := (blk_cell HK1.out 11).trans p11
  have g11a := (blk_cell HK2.out 11).trans q11
  have f12a := (blk_cell HK1.out 12).trans p12
  have g12a := (blk_cell HK2.out 12).trans q12
  have f13a := (blk_cell HK1.out 13).trans p13
  have g13a := (blk_cell HK2.out 13).trans q13
  have f14a := (blk_cell HK1.out 14).trans p14
  have g14a := (blk_cell HK2.out 14).trans q14
  have f15a := (blk_cell HK1.out 15).trans p15
  have g15a := (blk_cell HK2.out 15).trans q15
  have f16a := (blk_cell HK1.out 16).trans p16
  have g16a := (blk_cell HK2.out 16).trans q16
  have f17a := (blk_cell HK1.out 17).trans p17
  have g17a := (blk_cell HK2.out 17).trans q17
  have f18a := (blk_cell HK1.out 18).trans p18
  have g18a := (blk_cell HK2.out 18).trans q18
  go_enter Try.func38, Try.ntmps38
  go_wp2_with (with_reducible refine wpList_stop_load 30 _ ?_)
  refine go_on (wpList_load_whole rfl 30 (.tmp 2) rfl w.heap.size rfl c1 _ HK1.out Try.underlying30 rfl HI1.out ?_)
  go_wp2_with (with_reducible refine wpList_stop_load 30 _ ?_)
  refine go_on (wpList_load_whole rfl 30 (.tmp 3) rfl (w.heap.size + 1) rfl c2 _ HK2.out Try.underlying30 rfl HI2.out ?_)
  go_wp2_with (go_at_call 71; refine halt_here ?_)
  refine go_on ((sameLists_any v c1 c2 ((w.alloc (.cells c1 30)).alloc (.cells c2 30)) (H1.out.under HB.out) (H2.out.under HB.out)).mono ?_)
  rintro e w2 ⟨rfl, hb⟩
  have HK1' := Lib.hid ((hb.block _ (blk_lt HK1.out)).trans HK1.out)
  have HK2' := Lib.hid ((hb.block _ (blk_lt HK2.out)).trans HK2.out)
  have HB' := Lib.hid (HB.out.trans (hb.mono HB.out.size))
  clear f2a g2a
  clear f3a g3a
  clear f7a g7a
  clear f8a g8a
  clear f9a g9a
  clear f10a g10a
  clear f11a g11a
  clear f12a g12a
  clear f13a g13a
  clear f14a g14a
  clear f15a g15a
  clear f16a g16a
  clear f17a g17a
  clear f18a g18a
  clear hb HK1 HK2 HB
  have HK1 := HK1'
  have HK2 := HK2'
  have HB := HB'
  clear HK1' HK2' HB'
  have f2b := (blk_cell HK1.out 2).trans p2
  have g2b := (blk_cell HK2.out 2).trans q2
  have f3b := (blk_cell HK1.out 3).trans p3
  have g3b := (blk_cell HK2.out 3).trans q3
  have f16b := (blk_cell HK1.out 16).trans p16
  have g16b := (blk_cell HK2.out 16).trans q16
  go_wp2_with (go_at_call 72; refine halt_here ?_)
  refine go_on ((sameInts_any x2 ux2 vx2 w2 (RA2.out.under HB.out) (RB2.out.under HB.out)).mono ?_)
  rintro e w3 ⟨rfl, hb⟩
  have HK1' := Lib.hid ((hb.block _ (blk_lt HK1.out)).trans HK1.out)
  have HK2' := Lib.hid ((hb.block _ (blk_lt HK2.out)).trans HK2.out)
  have HB' := Lib.hid (HB.out.trans (hb.mono HB.out.size))
  clear f2b g2b
  clear f3b g3b
  clear f16b g16b
  clear hb HK1 HK2 HB
  have HK1 := HK1'
  have HK2 := HK2'
  have HB := HB'
  clear HK1' HK2' HB'
  have f3c := (blk_cell HK1.out 3).trans p3
  have g3c := (blk_cell HK2.out 3).trans q3
  have f16c := (blk_cell HK1.out 16).trans p16
  have g16c := (blk_cell HK2.out 16).trans q16
  go_wp2_with (go_at_call 72; refine halt_here ?_)
  refine go_on ((sameInts_any x3 ux3 vx3 w3 (RA3.out.under HB.out) (RB3.out.under HB.out)).mono ?_)
  rintro e w4 ⟨rfl, hb⟩
  have HK1' := Lib.hid ((hb.block _ (blk_lt HK1.out)).trans HK1.out)
  have HK2' := Lib.hid ((hb.block _ (blk_lt HK2.out)).trans HK2.out)
  have HB' := Lib.hid (HB.out.trans (hb.mono HB.out.size))
  clear f3c g3c
  clear f16c g16c
  clear hb HK1 HK2 HB
  have HK1 := HK1'
  have HK2 := HK2'
  have HB := HB'
  clear HK1' HK2' HB'
  have f16d := (blk_cell HK1.out 16).trans p16
  have g16d := (blk_cell HK2.out 16).trans q16
  go_wp2_with (go_at_call 72; refine halt_here ?_)
  refine go_on ((sameInts_any x16 ux16 vx16 w4 (RA16.out.under HB.out) (RB16.out.under HB.out)).mono ?_)
  rintro e w5 ⟨rfl, hb⟩
  have HK1' := Lib.hid ((hb.block _ (blk_lt HK1.out)).trans HK1.out)
  have HK2' := Lib.hid ((hb.block _ (blk_lt HK2.out)).trans HK2.out)
  have HB' := Lib.hid (HB.out.trans (hb.mono HB.out.size))
  clear f16d g16d
  clear hb HK1 HK2 HB
  have HK1 := HK1'
  have HK2 := HK2'
  have HB := HB'
  clear HK1' HK2' HB'
  go_wp2_with fail
  go_ret
  exact ⟨rfl, HB.out⟩
end Go.Proofs.Ytbcpdjhpceimlaa
