/-
  Comparisons of layers 17, 20, 26 of the reference: lists of effects, abilities, items, waiting abilities. What reads as the same value is the same.
-/
import Derived.Test.YtbcpdjhpceimlaaSameB
namespace Go.Proofs.Ytbcpdjhpceimlaa
open Go.ChangeShapes Go.WideShapes Go.ChangeAt Go.RowKit
set_option linter.unusedVariables false

theorem siz138 : (Try.prog.info? 138).map (·.size) = some 64 := by kernel_rfl
theorem siz132 : (Try.prog.info? 132).map (·.size) = some 18 := by kernel_rfl
theorem siz164 : (Try.prog.info? 164).map (·.size) = some 2 := by kernel_rfl
theorem siz91 : (Try.prog.info? 91).map (·.size) = some 72 := by kernel_rfl
theorem siz97 : (Try.prog.info? 97).map (·.size) = some 94 := by kernel_rfl
theorem siz100 : (Try.prog.info? 100).map (·.size) = some 89 := by kernel_rfl
theorem siz78 : (Try.prog.info? 78).map (·.size) = some 14 := by kernel_rfl
theorem siz125 : (Try.prog.info? 125).map (·.size) = some 19 := by kernel_rfl
theorem siz48 : (Try.prog.info? 48).map (·.size) = some 6 := by kernel_rfl
theorem flat132 : flat Try.prog 5 132 = some (specS) := by kernel_rfl
theorem key132 : Try.prog.keyTypeAt 5 132 = true := by kernel_rfl
theorem form132 : (match Try.prog.underlying 132 with | some (.struct _) | some (.array _ _) => (specS : List Fld).length == Try.prog.cellsOf 132 | _ => false) = true := by kernel_rfl
theorem guard132 : Try.prog.eqGuardType Try.prog.depth 132 = false := by kernel_rfl
theorem flat164 : flat Try.prog 5 164 = some (targetS) := by kernel_rfl
theorem key164 : Try.prog.keyTypeAt 5 164 = true := by kernel_rfl
theorem form164 : (match Try.prog.underlying 164 with | some (.struct _) | some (.array _ _) => (targetS : List Fld).length == Try.prog.cellsOf 164 | _ => false) = true := by kernel_rfl
theorem guard164 : Try.prog.eqGuardType Try.prog.depth 164 = false := by kernel_rfl
theorem flat125 : flat Try.prog 5 125 = some (objectS) := by kernel_rfl
theorem key125 : Try.prog.keyTypeAt 5 125 = true := by kernel_rfl
theorem form125 : (match Try.prog.underlying 125 with | some (.struct _) | some (.array _ _) => (objectS : List Fld).length == Try.prog.cellsOf 125 | _ => false) = true := by kernel_rfl
theorem guard125 : Try.prog.eqGuardType Try.prog.depth 125 = false := by kernel_rfl

set_option maxRecDepth 100000 in
set_option maxHeartbeats 4000000 in
theorem sameEffects_any {A A' : Nat → Prop} (x : V) (u1 u2 : Value) (w : World) (h1 : Rep A w (.e effectS) x u1) (h2 : Rep A' w (.e effectS) x u2) : Calls Try.prog 123 #[u1, u2] w (SameAns w) := by
  have RA0 := Lib.hid h1
  have RB0 := Lib.hid h2
  clear h1 h2
  obtain ⟨rows0, f0, a0, c0, rfl, rfl, hn0, hs, hx, hr⟩ := rows_open RA0.out
  obtain ⟨rows02, f02, a02, c02, he, rfl, -, -, hx2, hr2⟩ := rows_open RB0.out
  cases he
  have HS0 := Lib.hid hs
  have HX0 := Lib.hid hx
  have HR0 := Lib.hid hr
  have HX02 := Lib.hid hx2
  have HR02 := Lib.hid hr2
  obtain ⟨n0, hnl⟩ : ∃ n, rows0.length = n := ⟨_, rfl⟩
  have HL0 := Lib.hid hnl
  rw [hnl] at hn0
  rw [hnl]
  clear hs hx hr hx2 hr2 hnl RA0 RB0
  go_enter Try.func123, Try.ntmps123
  go_wp2_with fail
  go_loopw [5] (fun i wr => ∃ k : Nat, i = .int .i64 k ∧ k ≤ n0 ∧ Hid (Below w.heap.size w wr)) (fun i _ => n0 - (intOf i).toNat)
  case atStart => exact ⟨0, rfl, Nat.zero_le _, Lib.hid (Below.refl _ _)⟩
  case round =>
    rename World => wr
    obtain ⟨k, rfl, hk, HBW⟩ := hrel
    by_cases hlt : k < n0
    · obtain ⟨g1, o1, ce, rfl, -, -, hrow, hrg, hcl⟩ := row_open len_effectS HS0.out HX0.out HR0.out (k := k) (by rw [HL0.out]; exact hlt) HBW.out
      obtain ⟨g2, o2, ce2, rfl, -, -, hrow2, hrg2, hcl2⟩ := row_open len_effectS HS0.out HX02.out HR02.out (k := k) (by rw [HL0.out]; exact hlt) HBW.out
      have HRG := Lib.hid hrg
      have HRG2 := Lib.hid hrg2
      have HI := Lib.hid (show (Try.prog.info? 138).map (·.size) = some ce.length by rw [hcl]; exact siz138)
      have HI2 := Lib.hid (show (Try.prog.info? 138).map (·.size) = some ce2.length by rw [hcl2]; exact siz138)
      have HROW := Lib.hid hrow
      have HROW2 := Lib.hid hrow2
      clear hrow hrow2 hrg hrg2 hcl hcl2
      go_wp2_with fail
      refine wp_region_plan [(0, none), (1, none), (2, none), (3, some none), (4, none), (5, none), (6, none), (7, some none), (8, some (some false)), (9, none)] (by kernel_rfl) (by kernel_rfl) ?_
      repeat (first | (refine plan_free (v := ?_) rfl rfl (fun _ => ?_) (fun K hK => ?_); rotate_left 1; (focus (go_simp <;> exact rfl)); go_simp; refine hK _ _ ?_; clear hK K) | (refine plan_held (v := ?_) rfl rfl ?_ (fun K hK => ?_); rotate_left 1; (focus (go_simp <;> exact rfl)); go_simp; refine hK _ _ ?_; clear hK K))
      refine plan_held (v := .agg ce.toArray) rfl rfl (exec_load_mid 138 (.tmp 19) rfl g1 (o1 + k * 64) rfl ce _ HRG.out Try.underlying138 rfl HI.out) (fun K hK => ?_)
      refine hK _ _ ?_
      clear hK K
      repeat (first | (refine plan_free (v := ?_) rfl rfl (fun _ => ?_) (fun K hK => ?_); rotate_left 1; (focus (go_simp <;> exact rfl)); go_simp; refine hK _ _ ?_; clear hK K) | (refine plan_held (v := ?_) rfl rfl ?_ (fun K hK => ?_); rotate_left 1; (focus (go_simp <;> exact rfl)); go_simp; refine hK _ _ ?_; clear hK K))
      refine plan_held (v := .agg ce2.toArray) rfl rfl (exec_load_mid 138 (.tmp 23) rfl g2 (o2 + k * 64) rfl ce2 _ HRG2.out Try.underlying138 rfl HI2.out) (fun K hK => ?_)
      refine hK _ _ ?_
      clear hK K
      refine plan_eff rfl rfl (fun K hK => ?_)
      go_wp2_with (go_at_call 124; refine halt_here ?_)
      refine go_on ((same138_any _ ce.toArray ce2.toArray _ (HROW.out.under HBW.out.drew) (HROW2.out.under HBW.out.drew)).mono ?_)
      rintro e wc ⟨rfl, hbc⟩
      go_wp2_with fail
      repeat (first | (refine plan_free (v := ?_) rfl rfl (fun _ => ?_) (fun K hK => ?_); rotate_left 1; (focus (go_simp <;> exact rfl)); go_simp; refine hK _ _ ?_; clear hK K) | (refine plan_held (v := ?_) rfl rfl ?_ (fun K hK => ?_); rotate_left 1; (focus (go_simp <;> exact rfl)); go_simp; refine hK _ _ ?_; clear hK K))
      refine plan_nil ?_
      go_wp2_with fail
      go_roundw
      case rel => exact ⟨k + 1, by go_num, by omega, Lib.hid (HBW.out.drew.trans (hbc.mono HBW.out.size))⟩
      case measure => simp [intOf]; omega
    · go_wp2_with fail
      go_ret
      exact ⟨rfl, HBW.out⟩

set_option maxRecDepth 100000 in
set_option maxHeartbeats 4000000 in
theorem same91_any {A A' : Nat → Prop} (v : List V) (c1 c2 : Array Value) (w : World) (h1 : RowRep A w abilityS v c1.toList) (h2 : RowRep A' w abilityS v c2.toList) :
    Calls Try.prog 112 #[.agg c1, .agg c2] w (SameAns w) := by
  obtain ⟨n0, p0, q0⟩ := two_i h1 h2 (j := 0) rfl
  obtain ⟨s1, l1, p1, q1, r1⟩ := two_sub h1 h2 (o := 1) (m := 16) (t := filterS) (by rfl) (by rfl) (by decide)
  have I1 := Lib.hid (show (Try.prog.info? 43).map (·.size) = some s1.length by rw [l1]; exact siz43)
  have E1 := Lib.hid (equal_self 5 flat43 (by decide) key43 (by omega) form43 r1)
  clear l1 r1
  obtain ⟨x17, ux17, vx17, p17, q17, ra17, rb17⟩ := two_x h1 h2 (j := 17) rfl
  have RA17 := Lib.hid ra17
  have RB17 := Lib.hid rb17
  clear ra17 rb17
  obtain ⟨s18, l18, p18, q18, r18⟩ := two_sub h1 h2 (o := 18) (m := 10) (t := List.replicate 7 .i ++ (List.replicate 2 .b ++ [.i])) (by rfl) (by rfl) (by decide)
  have I18 := Lib.hid (show (Try.prog.info? 83).map (·.size) = some s18.length by rw [l18]; exact siz83)
  have E18 := Lib.hid (equal_self 5 flat83 (by decide) key83 (by omega) form83 r18)
  clear l18 r18
  obtain ⟨n28, p28, q28⟩ := two_b h1 h2 (j := 28) rfl
  obtain ⟨s29, l29, p29, q29, r29⟩ := two_sub h1 h2 (o := 29) (m := 18) (t := List.replicate 2 .i ++ filterS) (by rfl) (by rfl) (by decide)
  have I29 := Lib.hid (show (Try.prog.info? 85).map (·.size) = some s29.length by rw [l29]; exact siz85)
  have E29 := Lib.hid (equal_self 5 flat85 (by decide) key85 (by omega) form85 r29)
  clear l29 r29
  obtain ⟨n47, p47, q47⟩ := two_b h1 h2 (j := 47) rfl
  obtain ⟨x48, ux48, vx48, p48, q48, ra48, rb48⟩ := two_x h1 h2 (j := 48) rfl
  have RA48 := Lib.hid ra48
  have RB48 := Lib.hid rb48
  clear ra48 rb48
  obtain ⟨x49, ux49, vx49, p49, q49, ra49, rb49⟩ := two_x h1 h2 (j := 49) rfl
  have RA49 := Lib.hid ra49
  have RB49 := Lib.hid rb49
  clear ra49 rb49
  obtain ⟨s50, l50, p50, q50, r50⟩ := two_sub h1 h2 (o := 50) (m := 22) (t := List.replicate 2 .i ++ (filterS ++ List.replicate 4 .i)) (by rfl) (by rfl) (by decide)
  have I50 := Lib.hid (show (Try.prog.info? 89).map (·.size) = some s50.length by rw [l50]; exact siz89)
  have E50 := Lib.hid (equal_self 5 flat89 (by decide) key89 (by omega) form89 r50)
  clear l50 r50
  have HK1 := Lib.hid (heap_alloc2_old w (.cells c1 91) (.cells c2 91))
  have HK2 := Lib.hid (heap_alloc2_new w (.cells c1 91) (.cells c2 91))
  have HB := Lib.hid (show Below w.heap.size w ((w.alloc (.cells c1 91)).alloc (.cells c2 91)) from ((Below.refl _ _).alloc (Nat.le_refl _) _).alloc (by simp) _)
  have H1 := Lib.hid h1
  have H2 := Lib.hid h2
  clear h1 h2
  obtain ⟨rows48, f48, a48, c48, rfl, rfl, hn48, hs, hx, hr⟩ := rows_open RA48.out
  obtain ⟨rows482, f482, a482, c482, he, rfl, -, -, hx2, hr2⟩ := rows_open RB48.out
  cases he
  have HS48 := Lib.hid hs
  have HX48 := Lib.hid hx
  have HR48 := Lib.hid hr
  have HX482 := Lib.hid hx2
  have HR482 := Lib.hid hr2
  obtain ⟨n48, hnl⟩ : ∃ n, rows48.length = n := ⟨_, rfl⟩
  have HL48 := Lib.hid hnl
  rw [hnl] at hn48 p48 q48
  clear hs hx hr hx2 hr2 hnl RA48 RB48
  have f48a := (blk_cell HK1.out 48).trans p48
  have g48a := (blk_cell HK2.out 48).trans q48
  go_enter Try.func112, Try.ntmps112
  go_wp2_with fail
  generalize hW : ((w.alloc (.cells c1 91)).alloc (.cells c2 91)) = w1 at HK1 HK2 HB f48a g48a
  clear hW
  go_loopw [5] (fun i wr => ∃ k : Nat, i = .int .i64 k ∧ k ≤ n48 ∧ Hid (Below w1.heap.size w1 wr)) (fun i _ => n48 - (intOf i).toNat)
  case atStart => exact ⟨0, rfl, Nat.zero_le _, Lib.hid (Below.refl _ _)⟩
  case round =>
    rename World => wr
    obtain ⟨k, rfl, hk, HBW⟩ := hrel
    have HK1' := Lib.hid ((HBW.out.block _ (blk_lt HK1.out)).trans HK1.out)
    have HK2' := Lib.hid ((HBW.out.block _ (blk_lt HK2.out)).trans HK2.out)
    have HB' := Lib.hid (HB.out.trans (HBW.out.mono HB.out.size))
    clear f48a g48a HK1 HK2 HB
    have HK1 := HK1'
    have HK2 := HK2'
    have HB := HB'
    clear HK1' HK2' HB'
    have f48b := (blk_cell HK1.out 48).trans p48
    have g48b := (blk_cell HK2.out 48).trans q48
    by_cases hlt : k < n48
    · obtain ⟨g1, o1, ce, rfl, -, -, hrow, hrg, hcl⟩ := row_open len_specS HS48.out HX48.out HR48.out (k := k) (by rw [HL48.out]; exact hlt) HB.out
      obtain ⟨g2, o2, ce2, rfl, -, -, hrow2, hrg2, hcl2⟩ := row_open len_specS HS48.out HX482.out HR482.out (k := k) (by rw [HL48.out]; exact hlt) HB.out
      obtain rfl := rows_same hrow hrow2 (by decide)
      have HRG := Lib.hid hrg
      have HRG2 := Lib.hid hrg2
      have HI := Lib.hid (show (Try.prog.info? 132).map (·.size) = some ce.length by rw [hcl]; exact siz132)
      have HEQ := Lib.hid (equal_self 5 flat132 (by decide) key132 (by omega) form132 hrow)
      clear hrow hrow2 hrg hrg2 hcl hcl2
      go_wp2_with fail
      refine wp_region_plan [(0, none), (1, some none), (2, none), (3, none), (4, some none), (5, none), (6, some none), (7, none), (8, none), (9, some none), (10, none)] (by kernel_rfl) (by kernel_rfl) ?_
      repeat (first | (refine plan_free (v := ?_) rfl rfl (fun _ => ?_) (fun K hK => ?_); rotate_left 1; (focus (go_simp <;> exact rfl)); go_simp; refine hK _ _ ?_; clear hK K) | (refine plan_held (v := ?_) rfl rfl ?_ (fun K hK => ?_); rotate_left 1; (focus (go_simp <;> exact rfl)); go_simp; refine hK _ _ ?_; clear hK K))
      refine plan_held (v := .agg ce.toArray) rfl rfl (exec_load_mid 132 (.tmp 23) rfl g1 (o1 + k * 18) rfl ce _ HRG.out Try.underlying132 rfl HI.out) (fun K hK => ?_)
      refine hK _ _ ?_
      clear hK K
      repeat (first | (refine plan_free (v := ?_) rfl rfl (fun _ => ?_) (fun K hK => ?_); rotate_left 1; (focus (go_simp <;> exact rfl)); go_simp; refine hK _ _ ?_; clear hK K) | (refine plan_held (v := ?_) rfl rfl ?_ (fun K hK => ?_); rotate_left 1; (focus (go_simp <;> exact rfl)); go_simp; refine hK _ _ ?_; clear hK K))
      refine plan_held (v := .agg ce.toArray) rfl rfl (exec_load_mid 132 (.tmp 28) rfl g2 (o2 + k * 18) rfl ce _ HRG2.out Try.underlying132 rfl HI.out) (fun K hK => ?_)
      refine hK _ _ ?_
      clear hK K
      refine plan_free (v := .bool false) rfl rfl (fun w' => exec_neq_self 132 132 (.tmp 24) (.tmp 29) rfl ce.toArray rfl rfl guard132 (HEQ.out w')) (fun K hK => ?_)
      refine hK _ _ ?_
      clear hK K
      refine plan_nil ?_
      go_wp2_with fail
      go_roundw
      case rel => exact ⟨k + 1, by go_num, by omega, Lib.hid HBW.out.drew⟩
      case measure => simp [intOf]; omega
    · clear HBW
      have f0c := (blk_cell HK1.out 0).trans p0
      have g0c := (blk_cell HK2.out 0).trans q0
      have X1c := Lib.hid (range_sub HK1.out p1)
      have Y1c := Lib.hid (range_sub HK2.out q1)
      have f17c := (blk_cell HK1.out 17).trans p17
      have g17c := (blk_cell HK2.out 17).trans q17
      have X18c := Lib.hid (range_sub HK1.out p18)
      have Y18c := Lib.hid (range_sub HK2.out q18)
      have f28c := (blk_cell HK1.out 28).trans p28
      have g28c := (blk_cell HK2.out 28).trans q28
      have X29c := Lib.hid (range_sub HK1.out p29)
      have Y29c := Lib.hid (range_sub HK2.out q29)
      have f47c := (blk_cell HK1.out 47).trans p47
      have g47c := (blk_cell HK2.out 47).trans q47
      have f49c := (blk_cell HK1.out 49).trans p49
      have g49c := (blk_cell HK2.out 49).trans q49
      have X50c := Lib.hid (range_sub HK1.out p50)
      have Y50c := Lib.hid (range_sub HK2.out q50)
      go_wp2_with (with_reducible refine wpList_stop_load 43 _ ?_)
      refine go_on (wpList_load_sub rfl 43 (.tmp 37) rfl w.heap.size 1 rfl s1 _ X1c.out Try.underlying43 rfl I1.out ?_)
      go_wp2_with (with_reducible refine wpList_stop_load 43 _ ?_)
      refine go_on (wpList_load_sub rfl 43 (.tmp 39) rfl (w.heap.size + 1) 1 rfl s1 _ Y1c.out Try.underlying43 rfl I1.out ?_)
      go_wp2_with (with_reducible refine wpList_stop_bin .eql 43 _ _ _ ?_)
      refine go_on (wpList_eql_self rfl 43 43 (.tmp 38) (.tmp 40) rfl s1.toArray rfl rfl guard43 (E1.out _) ?_)
      go_wp2_with (go_at_call 122; refine halt_here ?_)
      refine go_on ((sameMods17_any x17 ux17 vx17 wr (RA17.out.under HB.out) (RB17.out.under HB.out)).mono ?_)
      rintro e w2 ⟨rfl, hb⟩
      have HK1' := Lib.hid ((hb.block _ (blk_lt HK1.out)).trans HK1.out)
      have HK2' := Lib.hid ((hb.block _ (blk_lt HK2.out)).trans HK2.out)
      have HB' := Lib.hid (HB.out.trans (hb.mono HB.out.size))
      clear f0c g0c
      clear X1c Y1c
      clear f17c g17c
      clear X18c Y18c
      clear f28c g28c
      clear X29c Y29c
      clear f47c g47c
      clear f49c g49c
      clear X50c Y50c
      clear hb HK1 HK2 HB
      have HK1 := HK1'
      have HK2 := HK2'
      have HB := HB'
      clear HK1' HK2' HB'
      have X18d := Lib.hid (range_sub HK1.out p18)
      have Y18d := Lib.hid (range_sub HK2.out q18)
      have f28d := (blk_cell HK1.out 28).trans p28
      have g28d := (blk_cell HK2.out 28).trans q28
      have X29d := Lib.hid (range_sub HK1.out p29)
      have Y29d := Lib.hid (range_sub HK2.out q29)
      have f47d := (blk_cell HK1.out 47).trans p47
      have g47d := (blk_cell HK2.out 47).trans q47
      have f49d := (blk_cell HK1.out 49).trans p49
      have g49d := (blk_cell HK2.out 49).trans q49
      have X50d := Lib.hid (range_sub HK1.out p50)
      have Y50d := Lib.hid (range_sub HK2.out q50)
      go_wp2_with (with_reducible refine wpList_stop_load 83 _ ?_)
      refine go_on (wpList_load_sub rfl 83 (.tmp 51) rfl w.heap.size 18 rfl s18 _ X18d.out Try.underlying83 rfl I18.out ?_)
      go_wp2_with (with_reducible refine wpList_stop_load 83 _ ?_)
      refine go_on (wpList_load_sub rfl 83 (.tmp 53) rfl (w.heap.size + 1) 18 rfl s18 _ Y18d.out Try.underlying83 rfl I18.out ?_)
      go_wp2_with (with_reducible refine wpList_stop_bin .eql 83 _ _ _ ?_)
      refine go_on (wpList_eql_self rfl 83 83 (.tmp 52) (.tmp 54) rfl s18.toArray rfl rfl guard83 (E18.out _) ?_)
      go_wp2_with (with_reducible refine wpList_stop_load 85 _ ?_)
      refine go_on (wpList_load_sub rfl 85 (.tmp 65) rfl w.heap.size 29 rfl s29 _ X29d.out Try.underlying85 rfl I29.out ?_)
      go_wp2_with (with_reducible refine wpList_stop_load 85 _ ?_)
      refine go_on (wpList_load_sub rfl 85 (.tmp 67) rfl (w.heap.size + 1) 29 rfl s29 _ Y29d.out Try.underlying85 rfl I29.out ?_)
      go_wp2_with (with_reducible refine wpList_stop_bin .eql 85 _ _ _ ?_)
      refine go_on (wpList_eql_self rfl 85 85 (.tmp 66) (.tmp 68) rfl s29.toArray rfl rfl guard85 (E29.out _) ?_)
      go_wp2_with (go_at_call 123; refine halt_here ?_)
      refine go_on ((sameEffects_any x49 ux49 vx49 w2 (RA49.out.under HB.out) (RB49.out.under HB.out)).mono ?_)
      rintro e w3 ⟨rfl, hb⟩
      have HK1' := Lib.hid ((hb.block _ (blk_lt HK1.out)).trans HK1.out)
      have HK2' := Lib.hid ((hb.block _ (blk_lt HK2.out)).trans HK2.out)
      have HB' := Lib.hid (HB.out.trans (hb.mono HB.out.size))
      clear X18d Y18d
      clear f28d g28d
      clear X29d Y29d
      clear f47d g47d
      clear f49d g49d
      clear X50d Y50d
      clear hb HK1 HK2 HB
      have HK1 := HK1'
      have HK2 := HK2'
      have HB := HB'
      clear HK1' HK2' HB'
      have X50e := Lib.hid (range_sub HK1.out p50)
      have Y50e := Lib.hid (range_sub HK2.out q50)
      go_wp2_with (with_reducible refine wpList_stop_load 89 _ ?_)
      refine go_on (wpList_load_sub rfl 89 (.tmp 86) rfl w.heap.size 50 rfl s50 _ X50e.out Try.underlying89 rfl I50.out ?_)
      go_wp2_with (with_reducible refine wpList_stop_load 89 _ ?_)
      refine go_on (wpList_load_sub rfl 89 (.tmp 88) rfl (w.heap.size + 1) 50 rfl s50 _ Y50e.out Try.underlying89 rfl I50.out ?_)
      go_wp2_with (with_reducible refine wpList_stop_bin .eql 89 _ _ _ ?_)
      refine go_on (wpList_eql_self rfl 89 89 (.tmp 87) (.tmp 89) rfl s50.toArray rfl rfl guard89 (E50.out _) ?_)
      go_wp2_with fail
      go_ret
      exact ⟨rfl, HB.out⟩

set_option maxRecDepth 100000 in
set_option maxHeartbeats 4000000 in
theorem same100_any {A A' : Nat → Prop} (v : List V) (c1 c2 : Array Value) (w : World) (h1 : RowRep A w waitingS v c1.toList) (h2 : RowRep A' w waitingS v c2.toList) :
    Calls Try.prog 99 #[.agg c1, .agg c2] w (SameAns w) := by
  obtain ⟨n0, p0, q0⟩ := two_i h1 h2 (j := 0) rfl
  obtain ⟨n1, p1, q1⟩ := two_i h1 h2 (j := 1) rfl
  have ra2 := Lib.hid (show RowRep A w abilityS ((v.drop 2).take 72) ((c1.toList.drop 2).take 72).toArray.toList from h1.sub (by rfl) (by rfl))
  have rb2 := Lib.hid (show RowRep A' w abilityS ((v.drop 2).take 72) ((c2.toList.drop 2).take 72).toArray.toList from h2.sub (by rfl) (by rfl))
  have I2 := Lib.hid (show (Try.prog.info? 91).map (·.size) = some ((c1.toList.drop 2).take 72).length by have h := ra2.out.2.1; rw [List.toList_toArray] at h; rw [h]; exact siz91)
  have J2 := Lib.hid (show (Try.prog.info? 91).map (·.size) = some ((c2.toList.drop 2).take 72).length by have h := rb2.out.2.1; rw [List.toList_toArray] at h; rw [h]; exact siz91)
  have p2 : (c1.toList.drop 2).take 72 = (c1.toList.drop 2).take 72 := rfl
  have q2 : (c2.toList.drop 2).take 72 = (c2.toList.drop 2).take 72 := rfl
  obtain ⟨sa2, esa2⟩ : ∃ l, (c1.toList.drop 2).take 72 = l := ⟨_, rfl⟩
  obtain ⟨sb2, esb2⟩ : ∃ l, (c2.toList.drop 2).take 72 = l := ⟨_, rfl⟩
  rw [esa2] at ra2 I2
  rw [esb2] at rb2 J2
  clear p2 q2
  obtain ⟨s74, l74, p74, q74, r74⟩ := two_sub h1 h2 (o := 74) (m := 15) (t := eventS) (by rfl) (by rfl) (by decide)
  have I74 := Lib.hid (show (Try.prog.info? 95).map (·.size) = some s74.length by rw [l74]; exact siz95)
  have E74 := Lib.hid (equal_self 5 flat95 (by decide) key95 (by omega) form95 r74)
  clear l74 r74
  have HK1 := Lib.hid (heap_alloc2_old w (.cells c1 100) (.cells c2 100))
  have HK2 := Lib.hid (heap_alloc2_new w (.cells c1 100) (.cells c2 100))
  have HB := Lib.hid (show Below w.heap.size w ((w.alloc (.cells c1 100)).alloc (.cells c2 100)) from ((Below.refl _ _).alloc (Nat.le_refl _) _).alloc (by simp) _)
  have H1 := Lib.hid h1
  have H2 := Lib.hid h2
  clear h1 h2
  have f0a := (blk_cell HK1.out 0).trans p0
  have g0a := (blk_cell HK2.out 0).trans q0
  have f1a := (blk_cell HK1.out 1).trans p1
  have g1a := (blk_cell HK2.out 1).trans q1
  have X2a := Lib.hid (range_sub HK1.out esa2)
  have Y2a := Lib.hid (range_sub HK2.out esb2)
  have X74a := Lib.hid (range_sub HK1.out p74)
  have Y74a := Lib.hid (range_sub HK2.out q74)
  go_enter Try.func99, Try.ntmps99
  go_wp2_with (with_reducible refine wpList_stop_load 91 _ ?_)
  refine go_on (wpList_load_sub rfl 91 (.tmp 18) rfl w.heap.size 2 rfl sa2 _ X2a.out Try.underlying91 rfl I2.out ?_)
  go_wp2_with (with_reducible refine wpList_stop_load 91 _ ?_)
  refine go_on (wpList_load_sub rfl 91 (.tmp 20) rfl (w.heap.size + 1) 2 rfl sb2 _ Y2a.out Try.underlying91 rfl J2.out ?_)
  go_wp2_with (go_at_call 112; refine halt_here ?_)
  refine go_on ((same91_any _ sa2.toArray sb2.toArray ((w.alloc (.cells c1 100)).alloc (.cells c2 100)) (ra2.out.under HB.out) (rb2.out.under HB.out)).mono ?_)
  rintro e w2 ⟨rfl, hb⟩
  have HK1' := Lib.hid ((hb.block _ (blk_lt HK1.out)).trans HK1.out)
  have HK2' := Lib.hid ((hb.block _ (blk_lt HK2.out)).trans HK2.out)
  have HB' := Lib.hid (HB.out.trans (hb.mono HB.out.size))
  clear f0a g0a
  clear f1a g1a
  clear X2a Y2a
  clear X74a Y74a
  clear hb HK1 HK2 HB
  have HK1 := HK1'
  have HK2 := HK2'
  have HB := HB'
  clear HK1' HK2' HB'
  have X74b := Lib.hid (range_sub HK1.out p74)
  have Y74b := Lib.hid (range_sub HK2.out q74)
  go_wp2_with (with_reducible refine wpList_stop_load 95 _ ?_)
  refine go_on (wpList_load_sub rfl 95 (.tmp 25) rfl w.heap.size 74 rfl s74 _ X74b.out Try.underlying95 rfl I74.out ?_)
  go_wp2_with (with_reducible refine wpList_stop_load 95 _ ?_)
  refine go_on (wpList_load_sub rfl 95 (.tmp 27) rfl (w.heap.size + 1) 74 rfl s74 _ Y74b.out Try.underlying95 rfl I74.out ?_)
  go_wp2_with (with_reducible refine wpList_stop_bin .eql 95 _ _ _ ?_)
  refine go_on (wpList_eql_self rfl 95 95 (.tmp 26) (.tmp 28) rfl s74.toArray rfl rfl guard95 (E74.out _) ?_)
  go_wp2_with fail
  go_ret
  exact ⟨rfl, HB.out⟩

set_option maxRecDepth 100000 in
set_option maxHeartbeats 4000000 in
theorem same97_any {A A' : Nat → Prop} (v : List V) (c1 c2 : Array Value) (w : World) (h1 : RowRep A w itemS v c1.toList) (h2 : RowRep A' w itemS v c2.toList) :
    Calls Try.prog 98 #[.agg c1, .agg c2] w (SameAns w) := by
  obtain ⟨n0, p0, q0⟩ := two_i h1 h2 (j := 0) rfl
  obtain ⟨n1, p1, q1⟩ := two_i h1 h2 (j := 1) rfl
  obtain ⟨n2, p2, q2⟩ := two_i h1 h2 (j := 2) rfl
  obtain ⟨n3, p3, q3⟩ := two_i h1 h2 (j := 3) rfl
  obtain ⟨n4, p4, q4⟩ := two_i h1 h2 (j := 4) rfl
  obtain ⟨n5, p5, q5⟩ := two_b h1 h2 (j := 5) rfl
  have ra6 := Lib.hid (show RowRep A w abilityS ((v.drop 6).take 72) ((c1.toList.drop 6).take 72).toArray.toList from h1.sub (by rfl) (by rfl))
  have rb6 := Lib.hid (show RowRep A' w abilityS ((v.drop 6).take 72) ((c2.toList.drop 6).take 72).toArray.toList from h2.sub (by rfl) (by rfl))
  have I6 := Lib.hid (show (Try.prog.info? 91).map (·.size) = some ((c1.toList.drop 6).take 72).length by have h := ra6.out.2.1; rw [List.toList_toArray] at h; rw [h]; exact siz91)
  have J6 := Lib.hid (show (Try.prog.info? 91).map (·.size) = some ((c2.toList.drop 6).take 72).length by have h := rb6.out.2.1; rw [List.toList_toArray] at h; rw [h]; exact siz91)
  have p6 : (c1.toList.drop 6).take 72 = (c1.toList.drop 6).take 72 := rfl
  have q6 : (c2.toList.drop 6).take 72 = (c2.toList.drop 6).take 72 := rfl
  obtain ⟨sa6, esa6⟩ : ∃ l, (c1.toList.drop 6).take 72 = l := ⟨_, rfl⟩
  obtain ⟨sb6, esb6⟩ : ∃ l, (c2.toList.drop 6).take 72 = l := ⟨_, rfl⟩
  rw [esa6] at ra6 I6
  rw [esb6] at rb6 J6
  clear p6 q6
  obtain ⟨x78, ux78, vx78, p78, q78, ra78, rb78⟩ := two_x h1 h2 (j := 78) rfl
  have RA78 := Lib.hid ra78
  have RB78 := Lib.hid rb78
  clear ra78 rb78
  obtain ⟨s79, l79, p79, q79, r79⟩ := two_sub h1 h2 (o := 79) (m := 15) (t := eventS) (by rfl) (by rfl) (by decide)
  have I79 := Lib.hid (show (Try.prog.info? 95).map (·.size) = some s79.length by rw [l79]; exact siz95)
  have E79 := Lib.hid (equal_self 5 flat95 (by decide) key95 (by omega) form95 r79)
  clear l79 r79
  have HK1 := Lib.hid (heap_alloc2_old w (.cells c1 97) (.cells c2 97))
  have HK2 := Lib.hid (heap_alloc2_new w (.cells c1 97) (.cells c2 97))
  have HB := Lib.hid (show Below w.heap.size w ((w.alloc (.cells c1 97)).alloc (.cells c2 97)) from ((Below.refl _ _).alloc (Nat.le_refl _) _).alloc (by simp) _)
  have H1 := Lib.hid h1
  have H2 := Lib.hid h2
  clear h1 h2
  obtain ⟨rows78, f78, a78, c78, rfl, rfl, hn78, hs, hx, hr⟩ := rows_open RA78.out
  obtain ⟨rows782, f782, a782, c782, he, rfl, -, -, hx2, hr2⟩ := rows_open RB78.out
  cases he
  have HS78 := Lib.hid hs
  have HX78 := Lib.hid hx
  have HR78 := Lib.hid hr
  have HX782 := Lib.hid hx2
  have HR782 := Lib.hid hr2
  obtain ⟨n78, hnl⟩ : ∃ n, rows78.length = n := ⟨_, rfl⟩
  have HL78 := Lib.hid hnl
  rw [hnl] at hn78 p78 q78
  clear hs hx hr hx2 hr2 hnl RA78 RB78
  have f78a := (blk_cell HK1.out 78).trans p78
  have g78a := (blk_cell HK2.out 78).trans q78
  go_enter Try.func98, Try.ntmps98
  go_wp2_with fail
  generalize hW : ((w.alloc (.cells c1 97)).alloc (.cells c2 97)) = w1 at HK1 HK2 HB f78a g78a
  clear hW
  go_loopw [5] (fun i wr => ∃ k : Nat, i = .int .i64 k ∧ k ≤ n78 ∧ Hid (Below w1.heap.size w1 wr)) (fun i _ => n78 - (intOf i).toNat)
  case atStart => exact ⟨0, rfl, Nat.zero_le _, Lib.hid (Below.refl _ _)⟩
  case round =>
    rename World => wr
    obtain ⟨k, rfl, hk, HBW⟩ := hrel
    have HK1' := Lib.hid ((HBW.out.block _ (blk_lt HK1.out)).trans HK1.out)
    have HK2' := Lib.hid ((HBW.out.block _ (blk_lt HK2.out)).trans HK2.out)
    have HB' := Lib.hid (HB.out.trans (HBW.out.mono HB.out.size))
    clear f78a g78a HK1 HK2 HB
    have HK1 := HK1'
    have HK2 := HK2'
    have HB := HB'
    clear HK1' HK2' HB'
    have f78b := (blk_cell HK1.out 78).trans p78
    have g78b := (blk_cell HK2.out 78).trans q78
    by_cases hlt : k < n78
    · obtain ⟨g1, o1, ce, rfl, -, -, hrow, hrg, hcl⟩ := row_open len_targetS HS78.out HX78.out HR78.out (k := k) (by rw [HL78.out]; exact hlt) HB.out
      obtain ⟨g2, o2, ce2, rfl, -, -, hrow2, hrg2, hcl2⟩ := row_open len_targetS HS78.out HX782.out HR782.out (k := k) (by rw [HL78.out]; exact hlt) HB.out
      obtain rfl := rows_same hrow hrow2 (by decide)
      have HRG := Lib.hid hrg
      have HRG2 := Lib.hid hrg2
      have HI := Lib.hid (show (Try.prog.info? 164).map (·.size) = some ce.length by rw [hcl]; exact siz164)
      have HEQ := Lib.hid (equal_self 5 flat164 (by decide) key164 (by omega) form164 hrow)
      clear hrow hrow2 hrg hrg2 hcl hcl2
      go_wp2_with fail
      refine wp_region_plan [(0, none), (1, some none), (2, none), (3, none), (4, some none), (5, none), (6, some none), (7, none), (8, none), (9, some none), (10, none)] (by kernel_rfl) (by kernel_rfl) ?_
      repeat (first | (refine plan_free (v := ?_) rfl rfl (fun _ => ?_) (fun K hK => ?_); rotate_left 1; (focus (go_simp <;> exact rfl)); go_simp; refine hK _ _ ?_; clear hK K) | (refine plan_held (v := ?_) rfl rfl ?_ (fun K hK => ?_); rotate_left 1; (focus (go_simp <;> exact rfl)); go_simp; refine hK _ _ ?_; clear hK K))
      refine plan_held (v := .agg ce.toArray) rfl rfl (exec_load_mid 164 (.tmp 23) rfl g1 (o1 + k * 2) rfl ce _ HRG.out Try.underlying164 rfl HI.out) (fun K hK => ?_)
      refine hK _ _ ?_
      clear hK K
      repeat (first | (refine plan_free (v := ?_) rfl rfl (fun _ => ?_) (fun K hK => ?_); rotate_left 1; (focus (go_simp <;> exact rfl)); go_simp; refine hK _ _ ?_; clear hK K) | (refine plan_held (v := ?_) rfl rfl ?_ (fun K hK => ?_); rotate_left 1; (focus (go_simp <;> exact rfl)); go_simp; refine hK _ _ ?_; clear hK K))
      refine plan_held (v := .agg ce.toArray) rfl rfl (exec_load_mid 164 (.tmp 28) rfl g2 (o2 + k * 2) rfl ce _ HRG2.out Try.underlying164 rfl HI.out) (fun K hK => ?_)
      refine hK _ _ ?_
      clear hK K
      refine plan_free (v := .bool false) rfl rfl (fun w' => exec_neq_self 164 164 (.tmp 24) (.tmp 29) rfl ce.toArray rfl rfl guard164 (HEQ.out w')) (fun K hK => ?_)
      refine hK _ _ ?_
      clear hK K
      refine plan_nil ?_
      go_wp2_with fail
      go_roundw
      case rel => exact ⟨k + 1, by go_num, by omega, Lib.hid HBW.out.drew⟩
      case measure => simp [intOf]; omega
    · clear HBW
      have f0c := (blk_cell HK1.out 0).trans p0
      have g0c := (blk_cell HK2.out 0).trans q0
      have f1c := (blk_cell HK1.out 1).trans p1
      have g1c := (blk_cell HK2.out 1).trans q1
      have f2c := (blk_cell HK1.out 2).trans p2
      have g2c := (blk_cell HK2.out 2).trans q2
      have f3c := (blk_cell HK1.out 3).trans p3
      have g3c := (blk_cell HK2.out 3).trans q3
      have f4c := (blk_cell HK1.out 4).trans p4
      have g4c := (blk_cell HK2.out 4).trans q4
      have f5c := (blk_cell HK1.out 5).trans p5
      have g5c := (blk_cell HK2.out 5).trans q5
      have X6c := Lib.hid (range_sub HK1.out esa6)
      have Y6c := Lib.hid (range_sub HK2.out esb6)
      have X79c := Lib.hid (range_sub HK1.out p79)
      have Y79c := Lib.hid (range_sub HK2.out q79)
      go_wp2_with (with_reducible refine wpList_stop_load 91 _ ?_)
      refine go_on (wpList_load_sub rfl 91 (.tmp 72) rfl w.heap.size 6 rfl sa6 _ X6c.out Try.underlying91 rfl I6.out ?_)
      go_wp2_with (with_reducible refine wpList_stop_load 91 _ ?_)
      refine go_on (wpList_load_sub rfl 91 (.tmp 74) rfl (w.heap.size + 1) 6 rfl sb6 _ Y6c.out Try.underlying91 rfl J6.out ?_)
      go_wp2_with (go_at_call 112; refine halt_here ?_)
      refine go_on ((same91_any _ sa6.toArray sb6.toArray wr (ra6.out.under HB.out) (rb6.out.under HB.out)).mono ?_)
      rintro e w2 ⟨rfl, hb⟩
      have HK1' := Lib.hid ((hb.block _ (blk_lt HK1.out)).trans HK1.out)
      have HK2' := Lib.hid ((hb.block _ (blk_lt HK2.out)).trans HK2.out)
      have HB' := Lib.hid (HB.out.trans (hb.mono HB.out.size))
      clear f0c g0c
      clear f1c g1c
      clear f2c g2c
      clear f3c g3c
      clear f4c g4c
      clear f5c g5c
      clear X6c Y6c
      clear X79c Y79c
      clear hb HK1 HK2 HB
      have HK1 := HK1'
      have HK2 := HK2'
      have HB := HB'
      clear HK1' HK2' HB'
      have X79d := Lib.hid (range_sub HK1.out p79)
      have Y79d := Lib.hid (range_sub HK2.out q79)
      go_wp2_with (with_reducible refine wpList_stop_load 95 _ ?_)
      refine go_on (wpList_load_sub rfl 95 (.tmp 79) rfl w.heap.size 79 rfl s79 _ X79d.out Try.underlying95 rfl I79.out ?_)
      go_wp2_with (with_reducible refine wpList_stop_load 95 _ ?_)
      refine go_on (wpList_load_sub rfl 95 (.tmp 81) rfl (w.heap.size + 1) 79 rfl s79 _ Y79d.out Try.underlying95 rfl I79.out ?_)
      go_wp2_with (with_reducible refine wpList_stop_bin .eql 95 _ _ _ ?_)
      refine go_on (wpList_eql_self rfl 95 95 (.tmp 80) (.tmp 82) rfl s79.toArray rfl rfl guard95 (E79.out _) ?_)
      go_wp2_with fail
      go_ret
      exact ⟨rfl, HB.out⟩
end Go.Proofs.Ytbcpdjhpceimlaa
