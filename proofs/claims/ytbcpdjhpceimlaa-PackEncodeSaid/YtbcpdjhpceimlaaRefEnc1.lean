/-
  The reference's writers of layer 27: filters, modifications, events, players, objects.
-/
import Derived.Test.YtbcpdjhpceimlaaRefEnc
namespace Go.Proofs.Ytbcpdjhpceimlaa
open Go.ChangeShapes Go.WideShapes Go.ChangeAt Go.RowKit
set_option linter.unusedVariables false
theorem len_filterS : (filterS : List Fld).length = 16 := by decide
theorem len_eventS : (eventS : List Fld).length = 15 := by decide

set_option maxRecDepth 100000 in
set_option maxHeartbeats 4000000 in
theorem rfilter_w : RWriter 90 filterS := by
  intro A a n c bs cs v w h hnil hl hr hb
  have HM0 := Lib.hid (WSt.start (T := 43) h hnil hl hr hb)
  clear h hnil hl hr hb
  go_enter Try.func90, Try.ntmps90
  obtain ⟨x0, p0, hc⟩ := HM0.out.seei 0 rfl
  have f0 : (w.alloc (.cells cs 43)).cell? ⟨w.heap.size, 0, none⟩ = some (.int .i64 x0) := hc
  clear hc
  obtain ⟨x1, p1, hc⟩ := HM0.out.seei 1 rfl
  have f1 : (w.alloc (.cells cs 43)).cell? ⟨w.heap.size, 1, none⟩ = some (.int .i64 x1) := hc
  clear hc
  obtain ⟨x2, p2, hc⟩ := HM0.out.seei 2 rfl
  have f2 : (w.alloc (.cells cs 43)).cell? ⟨w.heap.size, 2, none⟩ = some (.int .i64 x2) := hc
  clear hc
  obtain ⟨x3, p3, hc⟩ := HM0.out.seei 3 rfl
  have f3 : (w.alloc (.cells cs 43)).cell? ⟨w.heap.size, 3, none⟩ = some (.int .i64 x3) := hc
  clear hc
  obtain ⟨x4, p4, hc⟩ := HM0.out.seei 4 rfl
  have f4 : (w.alloc (.cells cs 43)).cell? ⟨w.heap.size, 4, none⟩ = some (.int .i64 x4) := hc
  clear hc
  obtain ⟨x5, p5, hc⟩ := HM0.out.seei 5 rfl
  have f5 : (w.alloc (.cells cs 43)).cell? ⟨w.heap.size, 5, none⟩ = some (.int .i64 x5) := hc
  clear hc
  obtain ⟨x6, p6, hc⟩ := HM0.out.seei 6 rfl
  have f6 : (w.alloc (.cells cs 43)).cell? ⟨w.heap.size, 6, none⟩ = some (.int .i64 x6) := hc
  clear hc
  have HE := Lib.hid (show ∀ k, k < 7 → (#[.int .i64 x0, .int .i64 x1, .int .i64 x2, .int .i64 x3, .int .i64 x4, .int .i64 x5, .int .i64 x6] : Array Value)[k]? = cs.toList[0 + k]? from fun k hk => match k, hk with | 0, _ => p0.symm | 1, _ => p1.symm | 2, _ => p2.symm | 3, _ => p3.symm | 4, _ => p4.symm | 5, _ => p5.symm | 6, _ => p6.symm | k + 7, hk => absurd hk (by omega))
  clear p0 p1 p2 p3 p4 p5 p6
  have HMg := Lib.hid (HM0.out.grown (show Below (w.alloc (.cells cs 43)).heap.size (w.alloc (.cells cs 43)) ((w.alloc (.cells cs 43)).alloc (.cells #[.int .i64 x0, .int .i64 x1, .int .i64 x2, .int .i64 x3, .int .i64 x4, .int .i64 x5, .int .i64 x6] 3)) from (Below.refl _ _).alloc (Nat.le_refl _) _))
  have HG := Lib.hid (show ((w.alloc (.cells cs 43)).alloc (.cells #[.int .i64 x0, .int .i64 x1, .int .i64 x2, .int .i64 x3, .int .i64 x4, .int .i64 x5, .int .i64 x6] 3)).heap[w.heap.size + 1]? = some (.cells #[.int .i64 x0, .int .i64 x1, .int .i64 x2, .int .i64 x3, .int .i64 x4, .int .i64 x5, .int .i64 x6] 3 (0, 0)) from heap_alloc2_new w _ _)
  clear HM0
  go_wp2_with fail
  clear f0 f1 f2 f3 f4 f5 f6
  generalize ((w.alloc (.cells cs 43)).alloc (.cells #[.int .i64 x0, .int .i64 x1, .int .i64 x2, .int .i64 x3, .int .i64 x4, .int .i64 x5, .int .i64 x6] 3)) = W0 at HMg HG
  go_loopw [0, 25] (fun b i wr => ∃ (k : Nat) (a : Option Addr) (n c : Nat), b = .slice a n c ∧ i = .int .i64 k ∧ k ≤ 7 ∧ Hid (WSt A w w.heap.size 0 cs.toList filterS v bs (0 + k) wr a n c) ∧ Hid (wr.heap[w.heap.size + 1]? = some (.cells #[.int .i64 x0, .int .i64 x1, .int .i64 x2, .int .i64 x3, .int .i64 x4, .int .i64 x5, .int .i64 x6] 3 (0, 0)))) (fun _ i _ => 7 - (intOf i).toNat)
  case atStart => exact ⟨0, _, _, _, rfl, rfl, by omega, HMg, HG⟩
  case round =>
    rename World => wr1
    clear HMg HG
    obtain ⟨k, a1, n1, c1, rfl, rfl, hk, HM1, HG⟩ := hrel
    by_cases hlt : k < 7
    · obtain ⟨x, p, -, hcall⟩ := HM1.out.int (rep_at (o := 0) (m := 7) (j := k) rfl hlt)
      have fc : wr1.cell? ⟨w.heap.size + 1, k, none⟩ = some (.int .i64 x) := by rw [blk_cell HG.out, HE.out k hlt]; exact p
      have HC := Lib.hid hcall
      clear hcall p
      go_wp2_with (go_at_call 52; refine halt_here ?_)
      refine go_on (HC.out.mono ?_)
      rintro e w9 ⟨a9, n9, c9, rfl, HM9, HB9⟩
      have HG9 := Lib.hid ((HB9.out.block _ (blk_lt HG.out)).trans HG.out)
      clear fc HC HG
      go_wp2_with fail
      go_roundw
      case rel => exact ⟨k + 1, _, _, _, rfl, by go_num, by omega, HM9, HG9⟩
      case measure => simp [intOf]; omega
    · have ek : k = 7 := by omega
      clear HG HE
      replace HM1 : Hid (WSt A w w.heap.size 0 cs.toList filterS v bs 7 wr1 a1 n1 c1) := by subst ek; exact HM1
      clear ek hk
      obtain ⟨x, -, hc, hcall⟩ := HM1.out.text (k := 7) rfl
      have fc : wr1.cell? ⟨w.heap.size, 7, none⟩ = some (.string x) := hc
      have HC := Lib.hid hcall
      clear hc hcall
      go_wp2_with (go_at_call 54; refine halt_here ?_)
      refine go_on (HC.out.mono ?_)
      rintro e w2 ⟨a2, n2, c2, rfl, HM2, HB2⟩
      clear fc HC HM1
      obtain ⟨x8, p8, hc⟩ := HM2.out.seei 8 rfl
      have f8 : w2.cell? ⟨w.heap.size, 8, none⟩ = some (.int .i64 x8) := hc
      clear hc
      obtain ⟨x9, p9, hc⟩ := HM2.out.seei 9 rfl
      have f9 : w2.cell? ⟨w.heap.size, 9, none⟩ = some (.int .i64 x9) := hc
      clear hc
      obtain ⟨x10, p10, hc⟩ := HM2.out.seei 10 rfl
      have f10 : w2.cell? ⟨w.heap.size, 10, none⟩ = some (.int .i64 x10) := hc
      clear hc
      obtain ⟨x11, p11, hc⟩ := HM2.out.seei 11 rfl
      have f11 : w2.cell? ⟨w.heap.size, 11, none⟩ = some (.int .i64 x11) := hc
      clear hc
      obtain ⟨x12, p12, hc⟩ := HM2.out.seei 12 rfl
      have f12 : w2.cell? ⟨w.heap.size, 12, none⟩ = some (.int .i64 x12) := hc
      clear hc
      obtain ⟨x13, p13, hc⟩ := HM2.out.seei 13 rfl
      have f13 : w2.cell? ⟨w.heap.size, 13, none⟩ = some (.int .i64 x13) := hc
      clear hc
      obtain ⟨x14, p14, hc⟩ := HM2.out.seei 14 rfl
      have f14 : w2.cell? ⟨w.heap.size, 14, none⟩ = some (.int .i64 x14) := hc
      clear hc
      obtain ⟨x15, p15, hc⟩ := HM2.out.seei 15 rfl
      have f15 : w2.cell? ⟨w.heap.size, 15, none⟩ = some (.int .i64 x15) := hc
      clear hc
      have HE := Lib.hid (show ∀ k, k < 8 → (#[.int .i64 x8, .int .i64 x9, .int .i64 x10, .int .i64 x11, .int .i64 x12, .int .i64 x13, .int .i64 x14, .int .i64 x15] : Array Value)[k]? = cs.toList[8 + k]? from fun k hk => match k, hk with | 0, _ => p8.symm | 1, _ => p9.symm | 2, _ => p10.symm | 3, _ => p11.symm | 4, _ => p12.symm | 5, _ => p13.symm | 6, _ => p14.symm | 7, _ => p15.symm | k + 8, hk => absurd hk (by omega))
      clear p8 p9 p10 p11 p12 p13 p14 p15
      have HMg := Lib.hid (HM2.out.grown (show Below w2.heap.size w2 (w2.alloc (.cells #[.int .i64 x8, .int .i64 x9, .int .i64 x10, .int .i64 x11, .int .i64 x12, .int .i64 x13, .int .i64 x14, .int .i64 x15] 3)) from (Below.refl _ _).alloc (Nat.le_refl _) _))
      have HG := Lib.hid (heap_alloc_new w2 (.cells #[.int .i64 x8, .int .i64 x9, .int .i64 x10, .int .i64 x11, .int .i64 x12, .int .i64 x13, .int .i64 x14, .int .i64 x15] 3))
      clear HM2
      go_wp2_with fail
      clear f8 f9 f10 f11 f12 f13 f14 f15
      generalize (w2.alloc (.cells #[.int .i64 x8, .int .i64 x9, .int .i64 x10, .int .i64 x11, .int .i64 x12, .int .i64 x13, .int .i64 x14, .int .i64 x15] 3)) = W2 at HMg HG
      go_loopw [0, 61] (fun b i wr => ∃ (k : Nat) (a : Option Addr) (n c : Nat), b = .slice a n c ∧ i = .int .i64 k ∧ k ≤ 8 ∧ Hid (WSt A w w.heap.size 0 cs.toList filterS v bs (8 + k) wr a n c) ∧ Hid (wr.heap[w2.heap.size]? = some (.cells #[.int .i64 x8, .int .i64 x9, .int .i64 x10, .int .i64 x11, .int .i64 x12, .int .i64 x13, .int .i64 x14, .int .i64 x15] 3 (0, 0)))) (fun _ i _ => 8 - (intOf i).toNat)
      case atStart => exact ⟨0, _, _, _, rfl, rfl, by omega, HMg, HG⟩
      case round =>
        rename World => wr3
        clear HMg HG
        obtain ⟨k, a3, n3, c3, rfl, rfl, hk, HM3, HG⟩ := hrel
        by_cases hlt : k < 8
        · obtain ⟨x, p, -, hcall⟩ := HM3.out.int (rep_at (o := 8) (m := 8) (j := k) rfl hlt)
          have fc : wr3.cell? ⟨w2.heap.size, k, none⟩ = some (.int .i64 x) := by rw [blk_cell HG.out, HE.out k hlt]; exact p
          have HC := Lib.hid hcall
          clear hcall p
          go_wp2_with (go_at_call 52; refine halt_here ?_)
          refine go_on (HC.out.mono ?_)
          rintro e w9 ⟨a9, n9, c9, rfl, HM9, HB9⟩
          have HG9 := Lib.hid ((HB9.out.block _ (blk_lt HG.out)).trans HG.out)
          clear fc HC HG
          go_wp2_with fail
          go_roundw
          case rel => exact ⟨k + 1, _, _, _, rfl, by go_num, by omega, HM9, HG9⟩
          case measure => simp [intOf]; omega
        · have ek : k = 8 := by omega
          clear HG HE
          replace HM3 : Hid (WSt A w w.heap.size 0 cs.toList filterS v bs 16 wr3 a3 n3 c3) := by subst ek; exact HM3
          clear ek hk
          go_wp2_with fail
          go_ret
          exact HM3.out.last len_filterS

set_option maxRecDepth 100000 in
set_option maxHeartbeats 4000000 in
theorem rmods_w : RWriterE 69 modS := by
  intro A a n c bs x u w h hnil hl hr hb
  obtain ⟨rows, xa, m, xc, rfl, rfl, HLN, hm, HRW, hcall⟩ := rows_put h hnil hl hr hb
  have HC := Lib.hid hcall
  have hwn : IntKind.u64.wrap (m : Int) = (m : Int) := wrapU _ (by omega) (by omega)
  clear hcall h hnil hl hr hb HRW
  go_enter Try.func69, Try.ntmps69
  go_wp2_with (go_at_call 26; refine halt_here ?_)
  refine go_on (HC.out.mono ?_)
  rintro e wL ⟨aL, nL, cL, rfl, HL, HBL⟩
  clear HC hwn
  go_wp2_with fail
  go_loopw [0, 5] (fun b i wr => ∃ (k : Nat) (a : Option Addr) (n c : Nat), b = .slice a n c ∧ i = .int .i64 k ∧ k ≤ m ∧ Hid (LSt A w modS rows xa bs k wr a n c)) (fun _ i _ => m - (intOf i).toNat)
  case atStart => exact ⟨0, _, _, _, rfl, rfl, Nat.zero_le _, HL⟩
  case round =>
    rename World => wk0
    clear HL HBL
    obtain ⟨k, ak, nk, ck, rfl, rfl, hk, HL⟩ := hrel
    by_cases hlt : k < m
    · obtain ⟨g, o, ce, rfl, Hg, Hce, HM0r⟩ := HL.out.row (m := 20) len_modS (by rw [HLN.out]; exact hlt)
      obtain ⟨x, -, hc, hcall⟩ := HM0r.out.int (k := 0) rfl
      have fc : wk0.cell? ⟨g, o + k * 20, none⟩ = some (.int .i64 x) := hc
      have HC := Lib.hid hcall
      clear hc hcall
      go_wp2_with (go_at_call 52; refine halt_here ?_)
      refine go_on (HC.out.mono ?_)
      rintro e v1 ⟨ar1, nr1, cr1, rfl, HM1r, HBr1⟩
      clear HBr1
      clear fc HC HM0r
      obtain ⟨x, -, hc, hcall⟩ := HM1r.out.int (k := 1) rfl
      have fc : v1.cell? ⟨g, o + k * 20 + 1, none⟩ = some (.int .i64 x) := hc
      have HC := Lib.hid hcall
      clear hc hcall
      go_wp2_with (go_at_call 52; refine halt_here ?_)
      refine go_on (HC.out.mono ?_)
      rintro e v2 ⟨ar2, nr2, cr2, rfl, HM2r, HBr2⟩
      clear HBr2
      clear fc HC HM1r
      obtain ⟨x, -, hc, hcall⟩ := HM2r.out.int (k := 2) rfl
      have fc : v2.cell? ⟨g, o + k * 20 + 2, none⟩ = some (.int .i64 x) := hc
      have HC := Lib.hid hcall
      clear hc hcall
      go_wp2_with (go_at_call 52; refine halt_here ?_)
      refine go_on (HC.out.mono ?_)
      rintro e v3 ⟨ar3, nr3, cr3, rfl, HM3r, HBr3⟩
      clear HBr3
      clear fc HC HM2r
      obtain ⟨x, -, hc, hcall⟩ := HM3r.out.text (k := 3) rfl
      have fc : v3.cell? ⟨g, o + k * 20 + 3, none⟩ = some (.string x) := hc
      have HC := Lib.hid hcall
      clear hc hcall
      go_wp2_with (go_at_call 54; refine halt_here ?_)
      refine go_on (HC.out.mono ?_)
      rintro e v4 ⟨ar4, nr4, cr4, rfl, HM4r, HBr4⟩
      clear HBr4
      clear fc HC HM3r
      obtain ⟨ce, HL, HR, hcall⟩ := HM4r.out.sub (k := 4) (m := 16) rfilter_w rfl rfl
      have HC := Lib.hid hcall
      have HI := Lib.hid (show (Try.prog.info? 43).map (·.size) = some ce.length by rw [HL.out]; exact siz43)
      clear hcall
      go_wp2_with (with_reducible refine wpList_stop_load 43 _ ?_)
      refine go_on (wpList_load_sub rfl 43 (.tmp 50) rfl (g) (o + k * 20 + 4) rfl ce _ HR.out Try.underlying43 rfl HI.out ?_)
      go_wp2_with (go_at_call 90; refine halt_here ?_)
      refine go_on (HC.out.mono ?_)
      rintro e v5 ⟨ar5, nr5, cr5, rfl, HM5r, HBr5⟩
      clear HBr5
      clear HL HR HI HC HM4r
      have HL9 := Lib.hid (HL.out.step (by rw [HLN.out]; exact hlt) HM5r.out len_modS)
      clear HM5r
      go_wp2_with fail
      go_roundw
      case rel => exact ⟨k + 1, _, _, _, rfl, by go_num, by omega, HL9⟩
      case measure => simp [intOf]; omega
    · go_wp2_with fail
      go_ret
      exact HL.out.last (by rw [HLN.out]; omega)

set_option maxRecDepth 100000 in
set_option maxHeartbeats 4000000 in
theorem revent_w : RWriter 68 eventS := by
  intro A a n c bs cs v w h hnil hl hr hb
  have HM0 := Lib.hid (WSt.start (T := 95) h hnil hl hr hb)
  clear h hnil hl hr hb
  go_enter Try.func68, Try.ntmps68
  obtain ⟨x0, p0, hc⟩ := HM0.out.seei 0 rfl
  have f0 : (w.alloc (.cells cs 95)).cell? ⟨w.heap.size, 0, none⟩ = some (.int .i64 x0) := hc
  clear hc
  obtain ⟨x1, p1, hc⟩ := HM0.out.seei 1 rfl
  have f1 : (w.alloc (.cells cs 95)).cell? ⟨w.heap.size, 1, none⟩ = some (.int .i64 x1) := hc
  clear hc
  obtain ⟨x2, p2, hc⟩ := HM0.out.seei 2 rfl
  have f2 : (w.alloc (.cells cs 95)).cell? ⟨w.heap.size, 2, none⟩ = some (.int .i64 x2) := hc
  clear hc
  obtain ⟨x3, p3, hc⟩ := HM0.out.seei 3 rfl
  have f3 : (w.alloc (.cells cs 95)).cell? ⟨w.heap.size, 3, none⟩ = some (.int .i64 x3) := hc
  clear hc
  obtain ⟨x4, p4, hc⟩ := HM0.out.seei 4 rfl
  have f4 : (w.alloc (.cells cs 95)).cell? ⟨w.heap.size, 4, none⟩ = some (.int .i64 x4) := hc
  clear hc
  obtain ⟨x5, p5, hc⟩ := HM0.out.seei 5 rfl
  have f5 : (w.alloc (.cells cs 95)).cell? ⟨w.heap.size, 5, none⟩ = some (.int .i64 x5) := hc
  clear hc
  obtain ⟨x6, p6, hc⟩ := HM0.out.seei 6 rfl
  have f6 : (w.alloc (.cells cs 95)).cell? ⟨w.heap.size, 6, none⟩ = some (.int .i64 x6) := hc
  clear hc
  obtain ⟨x7, p7, hc⟩ := HM0.out.seei 7 rfl
  have f7 : (w.alloc (.cells cs 95)).cell? ⟨w.heap.size, 7, none⟩ = some (.int .i64 x7) := hc
  clear hc
  obtain ⟨x8, p8, hc⟩ := HM0.out.seei 8 rfl
  have f8 : (w.alloc (.cells cs 95)).cell? ⟨w.heap.size, 8, none⟩ = some (.int .i64 x8) := hc
  clear hc
  obtain ⟨x9, p9, hc⟩ := HM0.out.seei 9 rfl
  have f9 : (w.alloc (.cells cs 95)).cell? ⟨w.heap.size, 9, none⟩ = some (.int .i64 x9) := hc
  clear hc
  have HE := Lib.hid (show ∀ k, k < 10 → (#[.int .i64 x0, .int .i64 x1, .int .i64 x2, .int .i64 x3, .int .i64 x4, .int .i64 x5, .int .i64 x6, .int .i64 x7, .int .i64 x8, .int .i64 x9] : Array Value)[k]? = cs.toList[0 + k]? from fun k hk => match k, hk with | 0, _ => p0.symm | 1, _ => p1.symm | 2, _ => p2.symm | 3, _ => p3.symm | 4, _ => p4.symm | 5, _ => p5.symm | 6, _ => p6.symm | 7, _ => p7.symm | 8, _ => p8.symm | 9, _ => p9.symm | k + 10, hk => absurd hk (by omega))
  clear p0 p1 p2 p3 p4 p5 p6 p7 p8 p9
  have HMg := Lib.hid (HM0.out.grown (show Below (w.alloc (.cells cs 95)).heap.size (w.alloc (.cells cs 95)) ((w.alloc (.cells cs 95)).alloc (.cells #[.int .i64 x0, .int .i64 x1, .int .i64 x2, .int .i64 x3, .int .i64 x4, .int .i64 x5, .int .i64 x6, .int .i64 x7, .int .i64 x8, .int .i64 x9] 3)) from (Below.refl _ _).alloc (Nat.le_refl _) _))
  have HG := Lib.hid (show ((w.alloc (.cells cs 95)).alloc (.cells #[.int .i64 x0, .int .i64 x1, .int .i64 x2, .int .i64 x3, .int .i64 x4, .int .i64 x5, .int .i64 x6, .int .i64 x7, .int .i64 x8, .int .i64 x9] 3)).heap[w.heap.size + 1]? = some (.cells #[.int .i64 x0, .int .i64 x1, .int .i64 x2, .int .i64 x3, .int .i64 x4, .int .i64 x5, .int .i64 x6, .int .i64 x7, .int .i64 x8, .int .i64 x9] 3 (0, 0)) from heap_alloc2_new w _ _)
  clear HM0
  go_wp2_with fail
  clear f0 f1 f2 f3 f4 f5 f6 f7 f8 f9
  generalize ((w.alloc (.cells cs 95)).alloc (.cells #[.int .i64 x0, .int .i64 x1, .int .i64 x2, .int .i64 x3, .int .i64 x4, .int .i64 x5, .int .i64 x6, .int .i64 x7, .int .i64 x8, .int .i64 x9] 3)) = W0 at HMg HG
  go_loopw [0, 30] (fun b i wr => ∃ (k : Nat) (a : Option Addr) (n c : Nat), b = .slice a n c ∧ i = .int .i64 k ∧ k ≤ 10 ∧ Hid (WSt A w w.heap.size 0 cs.toList eventS v bs (0 + k) wr a n c) ∧ Hid (wr.heap[w.heap.size + 1]? = some (.cells #[.int .i64 x0, .int .i64 x1, .int .i64 x2, .int .i64 x3, .int .i64 x4, .int .i64 x5, .int .i64 x6, .int .i64 x7, .int .i64 x8, .int .i64 x9] 3 (0, 0)))) (fun _ i _ => 10 - (intOf i).toNat)
  case atStart => exact ⟨0, _, _, _, rfl, rfl, by omega, HMg, HG⟩
  case round =>
    rename World => wr1
    clear HMg HG
    obtain ⟨k, a1, n1, c1, rfl, rfl, hk, HM1, HG⟩ := hrel
    by_cases hlt : k < 10
    · obtain ⟨x, p, -, hcall⟩ := HM1.out.int (rep_at (o := 0) (m := 10) (j := k) rfl hlt)
      have fc : wr1.cell? ⟨w.heap.size + 1, k, none⟩ = some (.int .i64 x) := by rw [blk_cell HG.out, HE.out k hlt]; exact p
      have HC := Lib.hid hcall
      clear hcall p
      go_wp2_with (go_at_call 52; refine halt_here ?_)
      refine go_on (HC.out.mono ?_)
      rintro e w9 ⟨a9, n9, c9, rfl, HM9, HB9⟩
      have HG9 := Lib.hid ((HB9.out.block _ (blk_lt HG.out)).trans HG.out)
      clear fc HC HG
      go_wp2_with fail
      go_roundw
      case rel => exact ⟨k + 1, _, _, _, rfl, by go_num, by omega, HM9, HG9⟩
      case measure => simp [intOf]; omega
    · have ek : k = 10 := by omega
      clear HG HE
      replace HM1 : Hid (WSt A w w.heap.size 0 cs.toList eventS v bs 10 wr1 a1 n1 c1) := by subst ek; exact HM1
      clear ek hk
      obtain ⟨x, -, hc, hcall⟩ := HM1.out.bool (k := 10) rfl
      have fc : wr1.cell? ⟨w.heap.size, 10, none⟩ = some (.bool x) := hc
      have HC := Lib.hid hcall
      clear hc hcall
      go_wp2_with (go_at_call 53; refine halt_here ?_)
      refine go_on (HC.out.mono ?_)
      rintro e w2 ⟨a2, n2, c2, rfl, HM2, HB2⟩
      clear fc HC HM1
      obtain ⟨x, -, hc, hcall⟩ := HM2.out.bool (k := 11) rfl
      have fc : w2.cell? ⟨w.heap.size, 11, none⟩ = some (.bool x) := hc
      have HC := Lib.hid hcall
      clear hc hcall
      go_wp2_with (go_at_call 53; refine halt_here ?_)
      refine go_on (HC.out.mono ?_)
      rintro e w3 ⟨a3, n3, c3, rfl, HM3, HB3⟩
      clear fc HC HM2
      go_wp2_with fail
      have HMg := HM3
      clear HM3
      go_loopw [0, 7] (fun b i wr => ∃ (k : Nat) (a : Option Addr) (n c : Nat), b = .slice a n c ∧ i = .int .i64 k ∧ k ≤ 3 ∧ Hid (WSt A w w.heap.size 0 cs.toList eventS v bs (12 + k) wr a n c)) (fun _ i _ => 3 - (intOf i).toNat)
      case atStart => exact ⟨0, _, _, _, rfl, rfl, by omega, HMg⟩
      case round =>
        rename World => wr4
        clear HMg
        obtain ⟨k, a4, n4, c4, rfl, rfl, hk, HM4⟩ := hrel
        by_cases hlt : k < 3
        · obtain ⟨x, -, hc, hcall⟩ := HM4.out.int (rep_at (o := 12) (m := 3) (j := k) rfl hlt)
          have fc : wr4.cell? ⟨w.heap.size, 12 + k, none⟩ = some (.int .i64 x) := by rw [Nat.zero_add] at hc; exact hc
          have HC := Lib.hid hcall
          clear hcall hc
          go_wp2_with (go_at_call 52; refine halt_here ?_)
          refine go_on (HC.out.mono ?_)
          rintro e w9 ⟨a9, n9, c9, rfl, HM9, HB9⟩
          clear fc HC
          go_wp2_with fail
          go_roundw
          case rel => exact ⟨k + 1, _, _, _, rfl, by go_num, by omega, HM9⟩
          case measure => simp [intOf]; omega
        · have ek : k = 3 := by omega
          replace HM4 : Hid (WSt A w w.heap.size 0 cs.toList eventS v bs 15 wr4 a4 n4 c4) := by subst ek; exact HM4
          clear ek hk
          go_wp2_with fail
          go_ret
          exact HM4.out.last len_eventS

set_option maxRecDepth 100000 in
set_option maxHeartbeats 4000000 in
theorem rplayer_w : RWriter 64 playerS := by
  intro A a n c bs cs v w h hnil hl hr hb
  have HM0 := Lib.hid (WSt.start (T := 78) h hnil hl hr hb)
  clear h hnil hl hr hb
  go_enter Try.func64, Try.ntmps64
  obtain ⟨x, -, hc, hcall⟩ := HM0.out.int (k := 0) rfl
  have fc : (w.alloc (.cells cs 78)).cell? ⟨w.heap.size, 0, none⟩ = some (.int .i64 x) := hc
  have HC := Lib.hid hcall
  clear hc hcall
  go_wp2_with (go_at_call 52; refine halt_here ?_)
  refine go_on (HC.out.mono ?_)
  rintro e w1 ⟨a1, n1, c1, rfl, HM1, HB1⟩
  clear fc HC HM0
  obtain ⟨x, -, hc, hcall⟩ := HM1.out.int (k := 1) rfl
  have fc : w1.cell? ⟨w.heap.size, 1, none⟩ = some (.int .i64 x) := hc
  have HC := Lib.hid hcall
  clear hc hcall
  go_wp2_with (go_at_call 52; refine halt_here ?_)
  refine go_on (HC.out.mono ?_)
  rintro e w2 ⟨a2, n2, c2, rfl, HM2, HB2⟩
  clear fc HC HM1
  obtain ⟨x, -, hc, hcall⟩ := HM2.out.int (k := 2) rfl
  have fc : w2.cell? ⟨w.heap.size, 2, none⟩ = some (.int .i64 x) := hc
  have HC := Lib.hid hcall
  clear hc hcall
  go_wp2_with (go_at_call 52; refine halt_here ?_)
  refine go_on (HC.out.mono ?_)
  rintro e w3 ⟨a3, n3, c3, rfl, HM3, HB3⟩
  clear fc HC HM2
  go_wp2_with fail
  have HMg := HM3
  clear HM3
  go_loopw [0, 5] (fun b i wr => ∃ (k : Nat) (a : Option Addr) (n c : Nat), b = .slice a n c ∧ i = .int .i64 k ∧ k ≤ 6 ∧ Hid (WSt A w w.heap.size 0 cs.toList playerS v bs (3 + k) wr a n c)) (fun _ i _ => 6 - (intOf i).toNat)
  case atStart => exact ⟨0, _, _, _, rfl, rfl, by omega, HMg⟩
  case round =>
    rename World => wr4
    clear HMg
    obtain ⟨k, a4, n4, c4, rfl, rfl, hk, HM4⟩ := hrel
    by_cases hlt : k < 6
    · obtain ⟨x, -, hc, hcall⟩ := HM4.out.int (rep_at (o := 3) (m := 6) (j := k) rfl hlt)
      have fc : wr4.cell? ⟨w.heap.size, 3 + k, none⟩ = some (.int .i64 x) := by rw [Nat.zero_add] at hc; exact hc
      have HC := Lib.hid hcall
      clear hcall hc
      go_wp2_with (go_at_call 52; refine halt_here ?_)
      refine go_on (HC.out.mono ?_)
      rintro e w9 ⟨a9, n9, c9, rfl, HM9, HB9⟩
      clear fc HC
      go_wp2_with fail
      go_roundw
      case rel => exact ⟨k + 1, _, _, _, rfl, by go_num, by omega, HM9⟩
      case measure => simp [intOf]; omega
    · have ek : k = 6 := by omega
      replace HM4 : Hid (WSt A w w.heap.size 0 cs.toList playerS v bs 9 wr4 a4 n4 c4) := by subst ek; exact HM4
      clear ek hk
      obtain ⟨x, -, hc, hcall⟩ := HM4.out.bool (k := 9) rfl
      have fc : wr4.cell? ⟨w.heap.size, 9, none⟩ = some (.bool x) := hc
      have HC := Lib.hid hcall
      clear hc hcall
      go_wp2_with (go_at_call 53; refine halt_here ?_)
      refine go_on (HC.out.mono ?_)
      rintro e w5 ⟨a5, n5, c5, rfl, HM5, HB5⟩
      clear fc HC HM4
      obtain ⟨x, -, hc, hcall⟩ := HM5.out.bool (k := 10) rfl
      have fc : w5.cell? ⟨w.heap.size, 10, none⟩ = some (.bool x) := hc
      have HC := Lib.hid hcall
      clear hc hcall
      go_wp2_with (go_at_call 53; refine halt_here ?_)
      refine go_on (HC.out.mono ?_)
      rintro e w6 ⟨a6, n6, c6, rfl, HM6, HB6⟩
      clear fc HC HM5
      obtain ⟨xa, xn, xc, -, hc, hcall⟩ := HM6.out.ints (k := 11) rfl
      have fc : w6.cell? ⟨w.heap.size, 11, none⟩ = some (.slice xa xn xc) := hc
      have HC := Lib.hid hcall
      clear hc hcall
      go_wp2_with (go_at_call 55; refine halt_here ?_)
      refine go_on (HC.out.mono ?_)
      rintro e w7 ⟨a7, n7, c7, rfl, HM7, HB7⟩
      clear fc HC HM6
      obtain ⟨xa, xn, xc, -, hc, hcall⟩ := HM7.out.ints (k := 12) rfl
      have fc : w7.cell? ⟨w.heap.size, 12, none⟩ = some (.slice xa xn xc) := hc
      have HC := Lib.hid hcall
      clear hc hcall
      go_wp2_with (go_at_call 55; refine halt_here ?_)
      refine go_on (HC.out.mono ?_)
      rintro e w8 ⟨a8, n8, c8, rfl, HM8, HB8⟩
      clear fc HC HM7
      obtain ⟨xa, xn, xc, -, hc, hcall⟩ := HM8.out.ints (k := 13) rfl
      have fc : w8.cell? ⟨w.heap.size, 13, none⟩ = some (.slice xa xn xc) := hc
      have HC := Lib.hid hcall
      clear hc hcall
      go_wp2_with (go_at_call 55; refine halt_here ?_)
      refine go_on (HC.out.mono ?_)
      rintro e w9 ⟨a9, n9, c9, rfl, HM9, HB9⟩
      clear fc HC HM8
      go_wp2_with fail
      go_ret
      exact HM9.out.last len_playerS

set_option maxRecDepth 100000 in
set_option maxHeartbeats 4000000 in
theorem robject_w : RWriter 65 objectS := by
  intro A a n c bs cs v w h hnil hl hr hb
  have HM0 := Lib.hid (WSt.start (T := 125) h hnil hl hr hb)
  clear h hnil hl hr hb
  go_enter Try.func65, Try.ntmps65
  obtain ⟨x0, p0, hc⟩ := HM0.out.seei 0 rfl
  have f0 : (w.alloc (.cells cs 125)).cell? ⟨w.heap.size, 0, none⟩ = some (.int .i64 x0) := hc
  clear hc
  obtain ⟨x1, p1, hc⟩ := HM0.out.seei 1 rfl
  have f1 : (w.alloc (.cells cs 125)).cell? ⟨w.heap.size, 1, none⟩ = some (.int .i64 x1) := hc
  clear hc
  obtain ⟨x2, p2, hc⟩ := HM0.out.seei 2 rfl
  have f2 : (w.alloc (.cells cs 125)).cell? ⟨w.heap.size, 2, none⟩ = some (.int .i64 x2) := hc
  clear hc
  obtain ⟨x3, p3, hc⟩ := HM0.out.seei 3 rfl
  have f3 : (w.alloc (.cells cs 125)).cell? ⟨w.heap.size, 3, none⟩ = some (.int .i64 x3) := hc
  clear hc
  obtain ⟨x4, p4, hc⟩ := HM0.out.seei 4 rfl
  have f4 : (w.alloc (.cells cs 125)).cell? ⟨w.heap.size, 4, none⟩ = some (.int .i64 x4) := hc
  clear hc
  have HE := Lib.hid (show ∀ k, k < 5 → (#[.int .i64 x0, .int .i64 x1, .int .i64 x2, .int .i64 x3, .int .i64 x4] : Array Value)[k]? = cs.toList[0 + k]? from fun k hk => match k, hk with | 0, _ => p0.symm | 1, _ => p1.symm | 2, _ => p2.symm | 3, _ => p3.symm | 4, _ => p4.symm | k + 5, hk => absurd hk (by omega))
  clear p0 p1 p2 p3 p4
  have HMg := Lib.hid (HM0.out.grown (show Below (w.alloc (.cells cs 125)).heap.size (w.alloc (.cells cs 125)) ((w.alloc (.cells cs 125)).alloc (.cells #[.int .i64 x0, .int .i64 x1, .int .i64 x2, .int .i64 x3, .int .i64 x4] 3)) from (Below.refl _ _).alloc (Nat.le_refl _) _))
  have HG := Lib.hid (show ((w.alloc (.cells cs 125)).alloc (.cells #[.int .i64 x0, .int .i64 x1, .int .i64 x2, .int .i64 x3, .int .i64 x4] 3)).heap[w.heap.size + 1]? = some (.cells #[.int .i64 x0, .int .i64 x1, .int .i64 x2, .int .i64 x3, .int .i64 x4] 3 (0, 0)) from heap_alloc2_new w _ _)
  clear HM0
  go_wp2_with fail
  clear f0 f1 f2 f3 f4
  generalize ((w.alloc (.cells cs 125)).alloc (.cells #[.int .i64 x0, .int .i64 x1, .int .i64 x2, .int .i64 x3, .int .i64 x4] 3)) = W0 at HMg HG
  go_loopw [0, 22] (fun b i wr => ∃ (k : Nat) (a : Option Addr) (n c : Nat), b = .slice a n c ∧ i = .int .i64 k ∧ k ≤ 5 ∧ Hid (WSt A w w.heap.size 0 cs.toList objectS v bs (0 + k) wr a n c) ∧ Hid (wr.heap[w.heap.size + 1]? = some (.cells #[.int .i64 x0, .int .i64 x1, .int .i64 x2, .int .i64 x3, .int .i64 x4] 3 (0, 0)))) (fun _ i _ => 5 - (intOf i).toNat)
  case atStart => exact ⟨0, _, _, _, rfl, rfl, by omega, HMg, HG⟩
  case round =>
    rename World => wr1
    clear HMg HG
    obtain ⟨k, a1, n1, c1, rfl, rfl, hk, HM1, HG⟩ := hrel
    by_cases hlt : k < 5
    · obtain ⟨x, p, -, hcall⟩ := HM1.out.int (rep_at (o := 0) (m := 5) (j := k) rfl hlt)
      have fc : wr1.cell? ⟨w.heap.size + 1, k, none⟩ = some (.int .i64 x) := by rw [blk_cell HG.out, HE.out k hlt]; exact p
      have HC := Lib.hid hcall
      clear hcall p
      go_wp2_with (go_at_call 52; refine halt_here ?_)
      refine go_on (HC.out.mono ?_)
      rintro e w9 ⟨a9, n9, c9, rfl, HM9, HB9⟩
      have HG9 := Lib.hid ((HB9.out.block _ (blk_lt HG.out)).trans HG.out)
      clear fc HC HG
      go_wp2_with fail
      go_roundw
      case rel => exact ⟨k + 1, _, _, _, rfl, by go_num, by omega, HM9, HG9⟩
      case measure => simp [intOf]; omega
    · have ek : k = 5 := by omega
      clear HG HE
      replace HM1 : Hid (WSt A w w.heap.size 0 cs.toList objectS v bs 5 wr1 a1 n1 c1) := by subst ek; exact HM1
      clear ek hk
      obtain ⟨x5, p5, hc⟩ := HM1.out.seeb 5 rfl
      have f5 : wr1.cell? ⟨w.heap.size, 5, none⟩ = some (.bool x5) := hc
      clear hc
      obtain ⟨x6, p6, hc⟩ := HM1.out.seeb 6 rfl
      have f6 : wr1.cell? ⟨w.heap.size, 6, none⟩ = some (.bool x6) := hc
      clear hc
      obtain ⟨x7, p7, hc⟩ := HM1.out.seeb 7 rfl
      have f7 : wr1.cell? ⟨w.heap.size, 7, none⟩ = some (.bool x7) := hc
      clear hc
      obtain ⟨x8, p8, hc⟩ := HM1.out.seeb 8 rfl
      have f8 : wr1.cell? ⟨w.heap.size, 8, none⟩ = some (.bool x8) := hc
      clear hc
      have HE := Lib.hid (show ∀ k, k < 4 → (#[.bool x5, .bool x6, .bool x7, .bool x8] : Array Value)[k]? = cs.toList[5 + k]? from fun k hk => match k, hk with | 0, _ => p5.symm | 1, _ => p6.symm | 2, _ => p7.symm | 3, _ => p8.symm | k + 4, hk => absurd hk (by omega))
      clear p5 p6 p7 p8
      have HMg := Lib.hid (HM1.out.grown (show Below wr1.heap.size wr1 (wr1.alloc (.cells #[.bool x5, .bool x6, .bool x7, .bool x8] 4)) from (Below.refl _ _).alloc (Nat.le_refl _) _))
      have HG := Lib.hid (heap_alloc_new wr1 (.cells #[.bool x5, .bool x6, .bool x7, .bool x8] 4))
      clear HM1
      go_wp2_with fail
      clear f5 f6 f7 f8
      generalize (wr1.alloc (.cells #[.bool x5, .bool x6, .bool x7, .bool x8] 4)) = W1 at HMg HG
      go_loopw [0, 40] (fun b i wr => ∃ (k : Nat) (a : Option Addr) (n c : Nat), b = .slice a n c ∧ i = .int .i64 k ∧ k ≤ 4 ∧ Hid (WSt A w w.heap.size 0 cs.toList objectS v bs (5 + k) wr a n c) ∧ Hid (wr.heap[wr1.heap.size]? = some (.cells #[.bool x5, .bool x6, .bool x7, .bool x8] 4 (0, 0)))) (fun _ i _ => 4 - (intOf i).toNat)
      case atStart => exact ⟨0, _, _, _, rfl, rfl, by omega, HMg, HG⟩
      case round =>
        rename World => wr2
        clear HMg HG
        obtain ⟨k, a2, n2, c2, rfl, rfl, hk, HM2, HG⟩ := hrel
        by_cases hlt : k < 4
        · obtain ⟨x, p, -, hcall⟩ := HM2.out.bool (rep_at (o := 5) (m := 4) (j := k) rfl hlt)
          have fc : wr2.cell? ⟨wr1.heap.size, k, none⟩ = some (.bool x) := by rw [blk_cell HG.out, HE.out k hlt]; exact p
          have HC := Lib.hid hcall
          clear hcall p
          go_wp2_with (go_at_call 53; refine halt_here ?_)
          refine go_on (HC.out.mono ?_)
          rintro e w9 ⟨a9, n9, c9, rfl, HM9, HB9⟩
          have HG9 := Lib.hid ((HB9.out.block _ (blk_lt HG.out)).trans HG.out)
          clear fc HC HG
          go_wp2_with fail
          go_roundw
          case rel => exact ⟨k + 1, _, _, _, rfl, by go_num, by omega, HM9, HG9⟩
          case measure => simp [intOf]; omega
        · have ek : k = 4 := by omega
          clear HG HE
          replace HM2 : Hid (WSt A w w.heap.size 0 cs.toList objectS v bs 9 wr2 a2 n2 c2) := by subst ek; exact HM2
          clear ek hk
          obtain ⟨x, -, hc, hcall⟩ := HM2.out.int (k := 9) rfl
          have fc : wr2.cell? ⟨w.heap.size, 9, none⟩ = some (.int .i64 x) := hc
          have HC := Lib.hid hcall
          clear hc hcall
          go_wp2_with (go_at_call 52; refine halt_here ?_)
          refine go_on (HC.out.mono ?_)
          rintro e w3 ⟨a3, n3, c3, rfl, HM3, HB3⟩
          clear fc HC HM2
          go_wp2_with fail
          have HMg := HM3
          clear HM3
          go_loopw [0, 9] (fun b i wr => ∃ (k : Nat) (a : Option Addr) (n c : Nat), b = .slice a n c ∧ i = .int .i64 k ∧ k ≤ 3 ∧ Hid (WSt A w w.heap.size 0 cs.toList objectS v bs (10 + k) wr a n c)) (fun _ i _ => 3 - (intOf i).toNat)
          case atStart => exact ⟨0, _, _, _, rfl, rfl, by omega, HMg⟩
          case round =>
            rename World => wr4
            clear HMg
            obtain ⟨k, a4, n4, c4, rfl, rfl, hk, HM4⟩ := hrel
            by_cases hlt : k < 3
            · obtain ⟨x, -, hc, hcall⟩ := HM4.out.int (rep_at (o := 10) (m := 3) (j := k) rfl hlt)
              have fc : wr4.cell? ⟨w.heap.size, 10 + k, none⟩ = some (.int .i64 x) := by rw [Nat.zero_add] at hc; exact hc
              have HC := Lib.hid hcall
              clear hcall hc
              go_wp2_with (go_at_call 52; refine halt_here ?_)
              refine go_on (HC.out.mono ?_)
              rintro e w9 ⟨a9, n9, c9, rfl, HM9, HB9⟩
              clear fc HC
              go_wp2_with fail
              go_roundw
              case rel => exact ⟨k + 1, _, _, _, rfl, by go_num, by omega, HM9⟩
              case measure => simp [intOf]; omega
            · have ek : k = 3 := by omega
              replace HM4 : Hid (WSt A w w.heap.size 0 cs.toList objectS v bs 13 wr4 a4 n4 c4) := by subst ek; exact HM4
              clear ek hk
              obtain ⟨x, -, hc, hcall⟩ := HM4.out.int (k := 13) rfl
              have fc : wr4.cell? ⟨w.heap.size, 13, none⟩ = some (.int .i64 x) := hc
              have HC := Lib.hid hcall
              clear hc hcall
              go_wp2_with (go_at_call 52; refine halt_here ?_)
              refine go_on (HC.out.mono ?_)
              rintro e w5 ⟨a5, n5, c5, rfl, HM5, HB5⟩
              clear fc HC HM4
              obtain ⟨x, -, hc, hcall⟩ := HM5.out.int (k := 14) rfl
              have fc : w5.cell? ⟨w.heap.size, 14, none⟩ = some (.int .i64 x) := hc
              have HC := Lib.hid hcall
              clear hc hcall
              go_wp2_with (go_at_call 52; refine halt_here ?_)
              refine go_on (HC.out.mono ?_)
              rintro e w6 ⟨a6, n6, c6, rfl, HM6, HB6⟩
              clear fc HC HM5
              obtain ⟨x, -, hc, hcall⟩ := HM6.out.int (k := 15) rfl
              have fc : w6.cell? ⟨w.heap.size, 15, none⟩ = some (.int .i64 x) := hc
              have HC := Lib.hid hcall
              clear hc hcall
              go_wp2_with (go_at_call 52; refine halt_here ?_)
              refine go_on (HC.out.mono ?_)
              rintro e w7 ⟨a7, n7, c7, rfl, HM7, HB7⟩
              clear fc HC HM6
              obtain ⟨x, -, hc, hcall⟩ := HM7.out.bool (k := 16) rfl
              have fc : w7.cell? ⟨w.heap.size, 16, none⟩ = some (.bool x) := hc
              have HC := Lib.hid hcall
              clear hc hcall
              go_wp2_with (go_at_call 53; refine halt_here ?_)
              refine go_on (HC.out.mono ?_)
              rintro e w8 ⟨a8, n8, c8, rfl, HM8, HB8⟩
              clear fc HC HM7
              obtain ⟨x, -, hc, hcall⟩ := HM8.out.int (k := 17) rfl
              have fc : w8.cell? ⟨w.heap.size, 17, none⟩ = some (.int .i64 x) := hc
              have HC := Lib.hid hcall
              clear hc hcall
              go_wp2_with (go_at_call 52; refine halt_here ?_)
              refine go_on (HC.out.mono ?_)
              rintro e w9 ⟨a9, n9, c9, rfl, HM9, HB9⟩
              clear fc HC HM8
              obtain ⟨x, -, hc, hcall⟩ := HM9.out.int (k := 18) rfl
              have fc : w9.cell? ⟨w.heap.size, 18, none⟩ = some (.int .i64 x) := hc
              have HC := Lib.hid hcall
              clear hc hcall
              go_wp2_with (go_at_call 52; refine halt_here ?_)
              refine go_on (HC.out.mono ?_)
              rintro e w10 ⟨a10, n10, c10, rfl, HM10, HB10⟩
              clear fc HC HM9
              go_wp2_with fail
              go_ret
              exact HM10.out.last len_objectS
end Go.Proofs.Ytbcpdjhpceimlaa
