/-
  The reference's writers of layer 27: effects, abilities, stack items.
-/
import Derived.Test.YtbcpdjhpceimlaaRefEnc
import Derived.Test.YtbcpdjhpceimlaaRefEnc1
import Derived.Test.YtbcpdjhpceimlaaSameC
namespace Go.Proofs.Ytbcpdjhpceimlaa
open Go.ChangeShapes Go.WideShapes Go.ChangeAt Go.RowKit
set_option linter.unusedVariables false

set_option maxRecDepth 100000 in
set_option maxHeartbeats 4000000 in
theorem reffect_w : RWriter 91 effectS := by
  intro A a n c bs cs v w h hnil hl hr hb
  have HM0 := Lib.hid (WSt.start (T := 138) h hnil hl hr hb)
  clear h hnil hl hr hb
  go_enter Try.func91, Try.ntmps91
  obtain ⟨x, -, hc, hcall⟩ := HM0.out.int (k := 0) rfl
  have fc : (w.alloc (.cells cs 138)).cell? ⟨w.heap.size, 0, none⟩ = some (.int .i64 x) := hc
  have HC := Lib.hid hcall
  clear hc hcall
  go_wp2_with (go_at_call 52; refine halt_here ?_)
  refine go_on (HC.out.mono ?_)
  rintro e w1 ⟨a1, n1, c1, rfl, HM1, HB1⟩
  clear fc HC HM0
  obtain ⟨x, -, hc, hcall⟩ := HM1.out.int (k := 1) rfl
  have fc : w1.cell? ⟨w.heap.size, 1, none⟩ = some (.int .i64 x) := hc
  have HC := Lib.hid hcall
  clear hc hcall
  go_wp2_with (go_at_call 52; refine halt_here ?_)
  refine go_on (HC.out.mono ?_)
  rintro e w2 ⟨a2, n2, c2, rfl, HM2, HB2⟩
  clear fc HC HM1
  obtain ⟨x, -, hc, hcall⟩ := HM2.out.int (k := 2) rfl
  have fc : w2.cell? ⟨w.heap.size, 2, none⟩ = some (.int .i64 x) := hc
  have HC := Lib.hid hcall
  clear hc hcall
  go_wp2_with (go_at_call 52; refine halt_here ?_)
  refine go_on (HC.out.mono ?_)
  rintro e w3 ⟨a3, n3, c3, rfl, HM3, HB3⟩
  clear fc HC HM2
  obtain ⟨ce, HL, HR, hcall⟩ := HM3.out.sub (k := 3) (m := 16) rfilter_w rfl rfl
  have HC := Lib.hid hcall
  have HI := Lib.hid (show (Try.prog.info? 43).map (·.size) = some ce.length by rw [HL.out]; exact siz43)
  clear hcall
  go_wp2_with (with_reducible refine wpList_stop_load 43 _ ?_)
  refine go_on (wpList_load_sub rfl 43 (.tmp 22) rfl (w.heap.size) (3) rfl ce _ HR.out Try.underlying43 rfl HI.out ?_)
  go_wp2_with (go_at_call 90; refine halt_here ?_)
  refine go_on (HC.out.mono ?_)
  rintro e w4 ⟨a4, n4, c4, rfl, HM4, HB4⟩
  clear HL HR HI HC HM3
  obtain ⟨x, -, hc, hcall⟩ := HM4.out.int (k := 19) rfl
  have fc : w4.cell? ⟨w.heap.size, 19, none⟩ = some (.int .i64 x) := hc
  have HC := Lib.hid hcall
  clear hc hcall
  go_wp2_with (go_at_call 52; refine halt_here ?_)
  refine go_on (HC.out.mono ?_)
  rintro e w5 ⟨a5, n5, c5, rfl, HM5, HB5⟩
  clear fc HC HM4
  obtain ⟨x, -, hc, hcall⟩ := HM5.out.int (k := 20) rfl
  have fc : w5.cell? ⟨w.heap.size, 20, none⟩ = some (.int .i64 x) := hc
  have HC := Lib.hid hcall
  clear hc hcall
  go_wp2_with (go_at_call 52; refine halt_here ?_)
  refine go_on (HC.out.mono ?_)
  rintro e w6 ⟨a6, n6, c6, rfl, HM6, HB6⟩
  clear fc HC HM5
  obtain ⟨x, -, hc, hcall⟩ := HM6.out.int (k := 21) rfl
  have fc : w6.cell? ⟨w.heap.size, 21, none⟩ = some (.int .i64 x) := hc
  have HC := Lib.hid hcall
  clear hc hcall
  go_wp2_with (go_at_call 52; refine halt_here ?_)
  refine go_on (HC.out.mono ?_)
  rintro e w7 ⟨a7, n7, c7, rfl, HM7, HB7⟩
  clear fc HC HM6
  obtain ⟨ce, HL, HR, hcall⟩ := HM7.out.sub (k := 22) (m := 16) rfilter_w rfl rfl
  have HC := Lib.hid hcall
  have HI := Lib.hid (show (Try.prog.info? 43).map (·.size) = some ce.length by rw [HL.out]; exact siz43)
  clear hcall
  go_wp2_with (with_reducible refine wpList_stop_load 43 _ ?_)
  refine go_on (wpList_load_sub rfl 43 (.tmp 42) rfl (w.heap.size) (22) rfl ce _ HR.out Try.underlying43 rfl HI.out ?_)
  go_wp2_with (go_at_call 90; refine halt_here ?_)
  refine go_on (HC.out.mono ?_)
  rintro e w8 ⟨a8, n8, c8, rfl, HM8, HB8⟩
  clear HL HR HI HC HM7
  obtain ⟨x, -, hc, hcall⟩ := HM8.out.int (k := 38) rfl
  have fc : w8.cell? ⟨w.heap.size, 38, none⟩ = some (.int .i64 x) := hc
  have HC := Lib.hid hcall
  clear hc hcall
  go_wp2_with (go_at_call 52; refine halt_here ?_)
  refine go_on (HC.out.mono ?_)
  rintro e w9 ⟨a9, n9, c9, rfl, HM9, HB9⟩
  clear fc HC HM8
  obtain ⟨x, -, hc, hcall⟩ := HM9.out.int (k := 39) rfl
  have fc : w9.cell? ⟨w.heap.size, 39, none⟩ = some (.int .i64 x) := hc
  have HC := Lib.hid hcall
  clear hc hcall
  go_wp2_with (go_at_call 52; refine halt_here ?_)
  refine go_on (HC.out.mono ?_)
  rintro e w10 ⟨a10, n10, c10, rfl, HM10, HB10⟩
  clear fc HC HM9
  obtain ⟨x, -, hc, hcall⟩ := HM10.out.text (k := 40) rfl
  have fc : w10.cell? ⟨w.heap.size, 40, none⟩ = some (.string x) := hc
  have HC := Lib.hid hcall
  clear hc hcall
  go_wp2_with (go_at_call 54; refine halt_here ?_)
  refine go_on (HC.out.mono ?_)
  rintro e w11 ⟨a11, n11, c11, rfl, HM11, HB11⟩
  clear fc HC HM10
  obtain ⟨ce, HL, HR, hcall⟩ := HM11.out.sub (k := 41) (m := 16) rfilter_w rfl rfl
  have HC := Lib.hid hcall
  have HI := Lib.hid (show (Try.prog.info? 43).map (·.size) = some ce.length by rw [HL.out]; exact siz43)
  clear hcall
  go_wp2_with (with_reducible refine wpList_stop_load 43 _ ?_)
  refine go_on (wpList_load_sub rfl 43 (.tmp 58) rfl (w.heap.size) (41) rfl ce _ HR.out Try.underlying43 rfl HI.out ?_)
  go_wp2_with (go_at_call 90; refine halt_here ?_)
  refine go_on (HC.out.mono ?_)
  rintro e w12 ⟨a12, n12, c12, rfl, HM12, HB12⟩
  clear HL HR HI HC HM11
  go_wp2_with fail
  have HMg := HM12
  clear HM12
  go_loopw [0, 5] (fun b i wr => ∃ (k : Nat) (a : Option Addr) (n c : Nat), b = .slice a n c ∧ i = .int .i64 k ∧ k ≤ 6 ∧ Hid (WSt A w w.heap.size 0 cs.toList effectS v bs (57 + k) wr a n c)) (fun _ i _ => 6 - (intOf i).toNat)
  case atStart => exact ⟨0, _, _, _, rfl, rfl, by omega, HMg⟩
  case round =>
    rename World => wr13
    clear HMg
    obtain ⟨k, a13, n13, c13, rfl, rfl, hk, HM13⟩ := hrel
    by_cases hlt : k < 6
    · obtain ⟨x, -, hc, hcall⟩ := HM13.out.int (rep_at (o := 57) (m := 6) (j := k) rfl hlt)
      have fc : wr13.cell? ⟨w.heap.size, 57 + k, none⟩ = some (.int .i64 x) := by rw [Nat.zero_add] at hc; exact hc
      have HC := Lib.hid hcall
      clear hcall hc
      go_wp2_with (go_at_call 52; refine halt_here ?_)
      refine go_on (HC.out.mono ?_)
      rintro e w9 ⟨a9, n9, c9, rfl, HM9, HB9⟩
      clear fc HC
      go_wp2_with fail
      go_roundw
      case rel => exact ⟨k + 1, _, _, _, rfl, by go_num, by omega, HM9⟩
      case measure => simp [intOf]; omega
    · have ek : k = 6 := by omega
      replace HM13 : Hid (WSt A w w.heap.size 0 cs.toList effectS v bs 63 wr13 a13 n13 c13) := by subst ek; exact HM13
      clear ek hk
      obtain ⟨xa, xn, xc, -, hc, hcall⟩ := HM13.out.list (k := 63) rmods_w rfl
      have fc : wr13.cell? ⟨w.heap.size, 63, none⟩ = some (.slice xa xn xc) := hc
      have HC := Lib.hid hcall
      clear hc hcall
      go_wp2_with (go_at_call 69; refine halt_here ?_)
      refine go_on (HC.out.mono ?_)
      rintro e w14 ⟨a14, n14, c14, rfl, HM14, HB14⟩
      clear fc HC HM13
      go_wp2_with fail
      go_ret
      exact HM14.out.last len_effectS

set_option maxRecDepth 100000 in
set_option maxHeartbeats 4000000 in
theorem rability_w : RWriter 67 abilityS := by
  intro A a n c bs cs v w h hnil hl hr hb
  have HM0 := Lib.hid (WSt.start (T := 91) h hnil hl hr hb)
  clear h hnil hl hr hb
  go_enter Try.func67, Try.ntmps67
  obtain ⟨x, -, hc, hcall⟩ := HM0.out.int (k := 0) rfl
  have fc : (w.alloc (.cells cs 91)).cell? ⟨w.heap.size, 0, none⟩ = some (.int .i64 x) := hc
  have HC := Lib.hid hcall
  clear hc hcall
  go_wp2_with (go_at_call 52; refine halt_here ?_)
  refine go_on (HC.out.mono ?_)
  rintro e w1 ⟨a1, n1, c1, rfl, HM1, HB1⟩
  clear fc HC HM0
  obtain ⟨ce, HL, HR, hcall⟩ := HM1.out.sub (k := 1) (m := 16) rfilter_w rfl rfl
  have HC := Lib.hid hcall
  have HI := Lib.hid (show (Try.prog.info? 43).map (·.size) = some ce.length by rw [HL.out]; exact siz43)
  clear hcall
  go_wp2_with (with_reducible refine wpList_stop_load 43 _ ?_)
  refine go_on (wpList_load_sub rfl 43 (.tmp 13) rfl (w.heap.size) (1) rfl ce _ HR.out Try.underlying43 rfl HI.out ?_)
  go_wp2_with (go_at_call 90; refine halt_here ?_)
  refine go_on (HC.out.mono ?_)
  rintro e w2 ⟨a2, n2, c2, rfl, HM2, HB2⟩
  clear HL HR HI HC HM1
  obtain ⟨xa, xn, xc, -, hc, hcall⟩ := HM2.out.list (k := 17) rmods_w rfl
  have fc : w2.cell? ⟨w.heap.size, 17, none⟩ = some (.slice xa xn xc) := hc
  have HC := Lib.hid hcall
  clear hc hcall
  go_wp2_with (go_at_call 69; refine halt_here ?_)
  refine go_on (HC.out.mono ?_)
  rintro e w3 ⟨a3, n3, c3, rfl, HM3, HB3⟩
  clear fc HC HM2
  obtain ⟨x, -, hc, hcall⟩ := HM3.out.int (k := 18) rfl
  have fc : w3.cell? ⟨w.heap.size, 18, none⟩ = some (.int .i64 x) := hc
  have HC := Lib.hid hcall
  clear hc hcall
  go_wp2_with (go_at_call 52; refine halt_here ?_)
  refine go_on (HC.out.mono ?_)
  rintro e w4 ⟨a4, n4, c4, rfl, HM4, HB4⟩
  clear fc HC HM3
  obtain ⟨x, -, hc, hcall⟩ := HM4.out.int (k := 19) rfl
  have fc : w4.cell? ⟨w.heap.size, 19, none⟩ = some (.int .i64 x) := hc
  have HC := Lib.hid hcall
  clear hc hcall
  go_wp2_with (go_at_call 52; refine halt_here ?_)
  refine go_on (HC.out.mono ?_)
  rintro e w5 ⟨a5, n5, c5, rfl, HM5, HB5⟩
  clear fc HC HM4
  go_wp2_with fail
  have HMg := HM5
  clear HM5
  go_loopw [0, 5] (fun b i wr => ∃ (k : Nat) (a : Option Addr) (n c : Nat), b = .slice a n c ∧ i = .int .i64 k ∧ k ≤ 5 ∧ Hid (WSt A w w.heap.size 0 cs.toList abilityS v bs (20 + k) wr a n c)) (fun _ i _ => 5 - (intOf i).toNat)
  case atStart => exact ⟨0, _, _, _, rfl, rfl, by omega, HMg⟩
  case round =>
    rename World => wr6
    clear HMg
    obtain ⟨k, a6, n6, c6, rfl, rfl, hk, HM6⟩ := hrel
    by_cases hlt : k < 5
    · obtain ⟨x, -, hc, hcall⟩ := HM6.out.int (rep_at (o := 20) (m := 5) (j := k) rfl hlt)
      have fc : wr6.cell? ⟨w.heap.size, 20 + k, none⟩ = some (.int .i64 x) := by rw [Nat.zero_add] at hc; exact hc
      have HC := Lib.hid hcall
      clear hcall hc
      go_wp2_with (go_at_call 52; refine halt_here ?_)
      refine go_on (HC.out.mono ?_)
      rintro e w9 ⟨a9, n9, c9, rfl, HM9, HB9⟩
      clear fc HC
      go_wp2_with fail
      go_roundw
      case rel => exact ⟨k + 1, _, _, _, rfl, by go_num, by omega, HM9⟩
      case measure => simp [intOf]; omega
    · have ek : k = 5 := by omega
      replace HM6 : Hid (WSt A w w.heap.size 0 cs.toList abilityS v bs 25 wr6 a6 n6 c6) := by subst ek; exact HM6
      clear ek hk
      obtain ⟨x, -, hc, hcall⟩ := HM6.out.bool (k := 25) rfl
      have fc : wr6.cell? ⟨w.heap.size, 25, none⟩ = some (.bool x) := hc
      have HC := Lib.hid hcall
      clear hc hcall
      go_wp2_with (go_at_call 53; refine halt_here ?_)
      refine go_on (HC.out.mono ?_)
      rintro e w7 ⟨a7, n7, c7, rfl, HM7, HB7⟩
      clear fc HC HM6
      obtain ⟨x, -, hc, hcall⟩ := HM7.out.bool (k := 26) rfl
      have fc : w7.cell? ⟨w.heap.size, 26, none⟩ = some (.bool x) := hc
      have HC := Lib.hid hcall
      clear hc hcall
      go_wp2_with (go_at_call 53; refine halt_here ?_)
      refine go_on (HC.out.mono ?_)
      rintro e w8 ⟨a8, n8, c8, rfl, HM8, HB8⟩
      clear fc HC HM7
      obtain ⟨x, -, hc, hcall⟩ := HM8.out.int (k := 27) rfl
      have fc : w8.cell? ⟨w.heap.size, 27, none⟩ = some (.int .i64 x) := hc
      have HC := Lib.hid hcall
      clear hc hcall
      go_wp2_with (go_at_call 52; refine halt_here ?_)
      refine go_on (HC.out.mono ?_)
      rintro e w9 ⟨a9, n9, c9, rfl, HM9, HB9⟩
      clear fc HC HM8
      obtain ⟨x, -, hc, hcall⟩ := HM9.out.bool (k := 28) rfl
      have fc : w9.cell? ⟨w.heap.size, 28, none⟩ = some (.bool x) := hc
      have HC := Lib.hid hcall
      clear hc hcall
      go_wp2_with (go_at_call 53; refine halt_here ?_)
      refine go_on (HC.out.mono ?_)
      rintro e w10 ⟨a10, n10, c10, rfl, HM10, HB10⟩
      clear fc HC HM9
      obtain ⟨x, -, hc, hcall⟩ := HM10.out.int (k := 29) rfl
      have fc : w10.cell? ⟨w.heap.size, 29, none⟩ = some (.int .i64 x) := hc
      have HC := Lib.hid hcall
      clear hc hcall
      go_wp2_with (go_at_call 52; refine halt_here ?_)
      refine go_on (HC.out.mono ?_)
      rintro e w11 ⟨a11, n11, c11, rfl, HM11, HB11⟩
      clear fc HC HM10
      obtain ⟨x, -, hc, hcall⟩ := HM11.out.int (k := 30) rfl
      have fc : w11.cell? ⟨w.heap.size, 30, none⟩ = some (.int .i64 x) := hc
      have HC := Lib.hid hcall
      clear hc hcall
      go_wp2_with (go_at_call 52; refine halt_here ?_)
      refine go_on (HC.out.mono ?_)
      rintro e w12 ⟨a12, n12, c12, rfl, HM12, HB12⟩
      clear fc HC HM11
      obtain ⟨ce, HL, HR, hcall⟩ := HM12.out.sub (k := 31) (m := 16) rfilter_w rfl rfl
      have HC := Lib.hid hcall
      have HI := Lib.hid (show (Try.prog.info? 43).map (·.size) = some ce.length by rw [HL.out]; exact siz43)
      clear hcall
      go_wp2_with (with_reducible refine wpList_stop_load 43 _ ?_)
      refine go_on (wpList_load_sub rfl 43 (.tmp 75) rfl (w.heap.size) (31) rfl ce _ HR.out Try.underlying43 rfl HI.out ?_)
      go_wp2_with (go_at_call 90; refine halt_here ?_)
      refine go_on (HC.out.mono ?_)
      rintro e w13 ⟨a13, n13, c13, rfl, HM13, HB13⟩
      clear HL HR HI HC HM12
      obtain ⟨x, -, hc, hcall⟩ := HM13.out.bool (k := 47) rfl
      have fc : w13.cell? ⟨w.heap.size, 47, none⟩ = some (.bool x) := hc
      have HC := Lib.hid hcall
      clear hc hcall
      go_wp2_with (go_at_call 53; refine halt_here ?_)
      refine go_on (HC.out.mono ?_)
      rintro e w14 ⟨a14, n14, c14, rfl, HM14, HB14⟩
      clear fc HC HM13
      obtain ⟨rows48, xa48, m48, xc48, HV48, hc, HLN48, hm48, -, hcall⟩ := HM14.out.rows (k := 48) (t := specS) rfl
      have fc : w14.cell? ⟨w.heap.size, 48, none⟩ = some (.slice xa48 m48 xc48) := hc
      have HC := Lib.hid hcall
      have hwn : IntKind.u64.wrap (m48 : Int) = (m48 : Int) := wrapU _ (by omega) (by omega)
      clear hc hcall
      go_wp2_with (go_at_call 26; refine halt_here ?_)
      refine go_on (HC.out.mono ?_)
      rintro e wL48 ⟨aL48, nL48, cL48, rfl, HL, HBL⟩
      clear HC hwn
      have fL : wL48.cell? ⟨w.heap.size, 48, none⟩ = some (.slice xa48 m48 xc48) := (HBL.out.cell HM14.out.lt).trans fc
      have HFC := Lib.hid fc
      clear fc
      go_wp2_with fail
      clear fL HBL
      go_loopw [0, 6] (fun b i wr => ∃ (k : Nat) (a : Option Addr) (n c : Nat), b = .slice a n c ∧ i = .int .i64 k ∧ k ≤ m48 ∧ Hid (LSt A w14 specS rows48 xa48 (bs ++ encRow (v.take 48)) k wr a n c)) (fun _ i _ => m48 - (intOf i).toNat)
      case atStart => exact ⟨0, _, _, _, rfl, rfl, Nat.zero_le _, HL⟩
      case round =>
        rename World => wk48
        clear HL
        obtain ⟨k, ak48, nk48, ck48, rfl, rfl, hk, HL⟩ := hrel
        have fs : wk48.cell? ⟨w.heap.size, 48, none⟩ = some (.slice xa48 m48 xc48) := (HL.out.below.cell HM14.out.lt).trans HFC.out
        have HLT := Lib.hid (Nat.lt_of_lt_of_le HM14.out.lt HL.out.below.size)
        by_cases hlt : k < m48
        · obtain ⟨g, o, ce, rfl, Hg, Hce, HM0r⟩ := HL.out.row (m := 18) len_specS (by rw [HLN48.out]; exact hlt)
          obtain ⟨x, -, hc, hcall⟩ := HM0r.out.bool (k := 0) rfl
          have fc : wk48.cell? ⟨g, o + k * 18, none⟩ = some (.bool x) := hc
          have HC := Lib.hid hcall
          clear hc hcall
          go_wp2_with (go_at_call 53; refine halt_here ?_)
          refine go_on (HC.out.mono ?_)
          rintro e v1 ⟨ar1, nr1, cr1, rfl, HM1r, HBr1⟩
          have fs1 : v1.cell? ⟨w.heap.size, 48, none⟩ = some (.slice _ m48 xc48) := (HM1r.out.below.cell HLT.out).trans fs
          clear HBr1
          clear fc HC HM0r
          obtain ⟨x, -, hc, hcall⟩ := HM1r.out.bool (k := 1) rfl
          have fc : v1.cell? ⟨g, o + k * 18 + 1, none⟩ = some (.bool x) := hc
          have HC := Lib.hid hcall
          clear hc hcall
          go_wp2_with (go_at_call 53; refine halt_here ?_)
          refine go_on (HC.out.mono ?_)
          rintro e v2 ⟨ar2, nr2, cr2, rfl, HM2r, HBr2⟩
          have fs2 : v2.cell? ⟨w.heap.size, 48, none⟩ = some (.slice _ m48 xc48) := (HM2r.out.below.cell HLT.out).trans fs
          clear HBr2
          clear fc HC HM1r
          clear fs1
          obtain ⟨ce, HL, HR, hcall⟩ := HM2r.out.sub (k := 2) (m := 16) rfilter_w rfl rfl
          have HC := Lib.hid hcall
          have HI := Lib.hid (show (Try.prog.info? 43).map (·.size) = some ce.length by rw [HL.out]; exact siz43)
          clear hcall
          go_wp2_with (with_reducible refine wpList_stop_load 43 _ ?_)
          refine go_on (wpList_load_sub rfl 43 (.tmp 117) rfl (g) (o + k * 18 + 2) rfl ce _ HR.out Try.underlying43 rfl HI.out ?_)
          go_wp2_with (go_at_call 90; refine halt_here ?_)
          refine go_on (HC.out.mono ?_)
          rintro e v3 ⟨ar3, nr3, cr3, rfl, HM3r, HBr3⟩
          have fs3 : v3.cell? ⟨w.heap.size, 48, none⟩ = some (.slice _ m48 xc48) := (HM3r.out.below.cell HLT.out).trans fs
          clear HBr3
          clear HL HR HI HC HM2r
          clear fs2
          have HL9 := Lib.hid (HL.out.step (by rw [HLN48.out]; exact hlt) HM3r.out len_specS)
          clear HM3r
          go_wp2_with fail
          go_roundw
          case rel => exact ⟨k + 1, _, _, _, rfl, by go_num, by omega, HL9⟩
          case measure => simp [intOf]; omega
        · have HM15 := HM14.out.rowsEnd HV48.out HL.out (by rw [HLN48.out]; omega)
          clear HL HLT HV48 HLN48 HFC HM14
          replace HM15 : Hid (WSt A w w.heap.size 0 cs.toList abilityS v bs 49 wk48 ak48 nk48 ck48) := HM15
          obtain ⟨rows49, xa49, m49, xc49, HV49, hc, HLN49, hm49, -, hcall⟩ := HM15.out.rows (k := 49) (t := effectS) rfl
          have fc : wk48.cell? ⟨w.heap.size, 49, none⟩ = some (.slice xa49 m49 xc49) := hc
          have HC := Lib.hid hcall
          have hwn : IntKind.u64.wrap (m49 : Int) = (m49 : Int) := wrapU _ (by omega) (by omega)
          clear hc hcall
          go_wp2_with (go_at_call 26; refine halt_here ?_)
          refine go_on (HC.out.mono ?_)
          rintro e wL49 ⟨aL49, nL49, cL49, rfl, HL, HBL⟩
          clear HC hwn
          have fL : wL49.cell? ⟨w.heap.size, 49, none⟩ = some (.slice xa49 m49 xc49) := (HBL.out.cell HM15.out.lt).trans fc
          have HFC := Lib.hid fc
          clear fc
          go_wp2_with fail
          clear fL HBL
          go_loopw [0, 7] (fun b i wr => ∃ (k : Nat) (a : Option Addr) (n c : Nat), b = .slice a n c ∧ i = .int .i64 k ∧ k ≤ m49 ∧ Hid (LSt A wk48 effectS rows49 xa49 (bs ++ encRow (v.take 49)) k wr a n c)) (fun _ i _ => m49 - (intOf i).toNat)
          case atStart => exact ⟨0, _, _, _, rfl, rfl, Nat.zero_le _, HL⟩
          case round =>
            rename World => wk49
            clear HL
            obtain ⟨k, ak49, nk49, ck49, rfl, rfl, hk, HL⟩ := hrel
            have fs : wk49.cell? ⟨w.heap.size, 49, none⟩ = some (.slice xa49 m49 xc49) := (HL.out.below.cell HM15.out.lt).trans HFC.out
            have HLT := Lib.hid (Nat.lt_of_lt_of_le HM15.out.lt HL.out.below.size)
            by_cases hlt : k < m49
            · obtain ⟨g, o, ce, rfl, Hce, HR, hcall⟩ := HL.out.did (m := 64) reffect_w len_effectS (by rw [HLN49.out]; exact hlt)
              have HC := Lib.hid hcall
              have HI := Lib.hid (show (Try.prog.info? 138).map (·.size) = some ce.length by rw [Hce.out]; exact siz138)
              clear hcall
              go_wp2_with (with_reducible refine wpList_stop_load 138 _ ?_)
              refine go_on (wpList_load_sub rfl 138 (.tmp 138) rfl g (o + k * 64) rfl ce _ HR.out Try.underlying138 rfl HI.out ?_)
              go_wp2_with (go_at_call 91; refine halt_here ?_)
              refine go_on (HC.out.mono ?_)
              rintro e w9 ⟨a9, n9, c9, rfl, HL9, HB9⟩
              clear fs HLT HC HI HR
              go_wp2_with fail
              go_roundw
              case rel => exact ⟨k + 1, _, _, _, rfl, by go_num, by omega, HL9⟩
              case measure => simp [intOf]; omega
            · have HM16 := HM15.out.rowsEnd HV49.out HL.out (by rw [HLN49.out]; omega)
              clear HL HLT HV49 HLN49 HFC HM15
              replace HM16 : Hid (WSt A w w.heap.size 0 cs.toList abilityS v bs 50 wk49 ak49 nk49 ck49) := HM16
              obtain ⟨x, -, hc, hcall⟩ := HM16.out.int (k := 50) rfl
              have fc : wk49.cell? ⟨w.heap.size, 50, none⟩ = some (.int .i64 x) := hc
              have HC := Lib.hid hcall
              clear hc hcall
              go_wp2_with (go_at_call 52; refine halt_here ?_)
              refine go_on (HC.out.mono ?_)
              rintro e w17 ⟨a17, n17, c17, rfl, HM17, HB17⟩
              clear fc HC HM16
              obtain ⟨x, -, hc, hcall⟩ := HM17.out.int (k := 51) rfl
              have fc : w17.cell? ⟨w.heap.size, 51, none⟩ = some (.int .i64 x) := hc
              have HC := Lib.hid hcall
              clear hc hcall
              go_wp2_with (go_at_call 52; refine halt_here ?_)
              refine go_on (HC.out.mono ?_)
              rintro e w18 ⟨a18, n18, c18, rfl, HM18, HB18⟩
              clear fc HC HM17
              obtain ⟨ce, HL, HR, hcall⟩ := HM18.out.sub (k := 52) (m := 16) rfilter_w rfl rfl
              have HC := Lib.hid hcall
              have HI := Lib.hid (show (Try.prog.info? 43).map (·.size) = some ce.length by rw [HL.out]; exact siz43)
              clear hcall
              go_wp2_with (with_reducible refine wpList_stop_load 43 _ ?_)
              refine go_on (wpList_load_sub rfl 43 (.tmp 153) rfl (w.heap.size) (52) rfl ce _ HR.out Try.underlying43 rfl HI.out ?_)
              go_wp2_with (go_at_call 90; refine halt_here ?_)
              refine go_on (HC.out.mono ?_)
              rintro e w19 ⟨a19, n19, c19, rfl, HM19, HB19⟩
              clear HL HR HI HC HM18
              obtain ⟨x, -, hc, hcall⟩ := HM19.out.int (k := 68) rfl
              have fc : w19.cell? ⟨w.heap.size, 68, none⟩ = some (.int .i64 x) := hc
              have HC := Lib.hid hcall
              clear hc hcall
              go_wp2_with (go_at_call 52; refine halt_here ?_)
              refine go_on (HC.out.mono ?_)
              rintro e w20 ⟨a20, n20, c20, rfl, HM20, HB20⟩
              clear fc HC HM19
              obtain ⟨x, -, hc, hcall⟩ := HM20.out.int (k := 69) rfl
              have fc : w20.cell? ⟨w.heap.size, 69, none⟩ = some (.int .i64 x) := hc
              have HC := Lib.hid hcall
              clear hc hcall
              go_wp2_with (go_at_call 52; refine halt_here ?_)
              refine go_on (HC.out.mono ?_)
              rintro e w21 ⟨a21, n21, c21, rfl, HM21, HB21⟩
              clear fc HC HM20
              obtain ⟨x, -, hc, hcall⟩ := HM21.out.int (k := 70) rfl
              have fc : w21.cell? ⟨w.heap.size, 70, none⟩ = some (.int .i64 x) := hc
              have HC := Lib.hid hcall
              clear hc hcall
              go_wp2_with (go_at_call 52; refine halt_here ?_)
              refine go_on (HC.out.mono ?_)
              rintro e w22 ⟨a22, n22, c22, rfl, HM22, HB22⟩
              clear fc HC HM21
              obtain ⟨x, -, hc, hcall⟩ := HM22.out.int (k := 71) rfl
              have fc : w22.cell? ⟨w.heap.size, 71, none⟩ = some (.int .i64 x) := hc
              have HC := Lib.hid hcall
              clear hc hcall
              go_wp2_with (go_at_call 52; refine halt_here ?_)
              refine go_on (HC.out.mono ?_)
              rintro e w23 ⟨a23, n23, c23, rfl, HM23, HB23⟩
              clear fc HC HM22
              go_wp2_with fail
              go_ret
              exact HM23.out.last len_abilityS

set_option maxRecDepth 100000 in
set_option maxHeartbeats 4000000 in
theorem ritem_w : RWriter 66 itemS := by
  intro A a n c bs cs v w h hnil hl hr hb
  have HM0 := Lib.hid (WSt.start (T := 97) h hnil hl hr hb)
  clear h hnil hl hr hb
  go_enter Try.func66, Try.ntmps66
  obtain ⟨x0, p0, hc⟩ := HM0.out.seei 0 rfl
  have f0 : (w.alloc (.cells cs 97)).cell? ⟨w.heap.size, 0, none⟩ = some (.int .i64 x0) := hc
  clear hc
  obtain ⟨x1, p1, hc⟩ := HM0.out.seei 1 rfl
  have f1 : (w.alloc (.cells cs 97)).cell? ⟨w.heap.size, 1, none⟩ = some (.int .i64 x1) := hc
  clear hc
  obtain ⟨x2, p2, hc⟩ := HM0.out.seei 2 rfl
  have f2 : (w.alloc (.cells cs 97)).cell? ⟨w.heap.size, 2, none⟩ = some (.int .i64 x2) := hc
  clear hc
  obtain ⟨x3, p3, hc⟩ := HM0.out.seei 3 rfl
  have f3 : (w.alloc (.cells cs 97)).cell? ⟨w.heap.size, 3, none⟩ = some (.int .i64 x3) := hc
  clear hc
  obtain ⟨x4, p4, hc⟩ := HM0.out.seei 4 rfl
  have f4 : (w.alloc (.cells cs 97)).cell? ⟨w.heap.size, 4, none⟩ = some (.int .i64 x4) := hc
  clear hc
  have HE := Lib.hid (show ∀ k, k < 5 → (#[.int .i64 x0, .int .i64 x1, .int .i64 x2, .int .i64 x3, .int .i64 x4] : Array Value)[k]? = cs.toList[0 + k]? from fun k hk => match k, hk with | 0, _ => p0.symm | 1, _ => p1.symm | 2, _ => p2.symm | 3, _ => p3.symm | 4, _ => p4.symm | k + 5, hk => absurd hk (by omega))
  clear p0 p1 p2 p3 p4
  have HMg := Lib.hid (HM0.out.grown (show Below (w.alloc (.cells cs 97)).heap.size (w.alloc (.cells cs 97)) ((w.alloc (.cells cs 97)).alloc (.cells #[.int .i64 x0, .int .i64 x1, .int .i64 x2, .int .i64 x3, .int .i64 x4] 3)) from (Below.refl _ _).alloc (Nat.le_refl _) _))
  have HG := Lib.hid (show ((w.alloc (.cells cs 97)).alloc (.cells #[.int .i64 x0, .int .i64 x1, .int .i64 x2, .int .i64 x3, .int .i64 x4] 3)).heap[w.heap.size + 1]? = some (.cells #[.int .i64 x0, .int .i64 x1, .int .i64 x2, .int .i64 x3, .int .i64 x4] 3 (0, 0)) from heap_alloc2_new w _ _)
  clear HM0
  go_wp2_with fail
  clear f0 f1 f2 f3 f4
  generalize ((w.alloc (.cells cs 97)).alloc (.cells #[.int .i64 x0, .int .i64 x1, .int .i64 x2, .int .i64 x3, .int .i64 x4] 3)) = W0 at HMg HG
  go_loopw [0, 20] (fun b i wr => ∃ (k : Nat) (a : Option Addr) (n c : Nat), b = .slice a n c ∧ i = .int .i64 k ∧ k ≤ 5 ∧ Hid (WSt A w w.heap.size 0 cs.toList itemS v bs (0 + k) wr a n c) ∧ Hid (wr.heap[w.heap.size + 1]? = some (.cells #[.int .i64 x0, .int .i64 x1, .int .i64 x2, .int .i64 x3, .int .i64 x4] 3 (0, 0)))) (fun _ i _ => 5 - (intOf i).toNat)
  case atStart => exact ⟨0, _, _, _, rfl, rfl, by omega, HMg, HG⟩
  case round =>
    rename World => wr1
    clear HMg HG
    obtain ⟨k, a1, n1, c1, rfl, rfl, hk, HM1, HG⟩ := hrel
    by_cases hlt : k < 5
    · obtain ⟨x, p, -, hcall⟩ := HM1.out.int (rep_at (o := 0) (m := 5) (j := k) rfl hlt)
      have fc : wr1.cell? ⟨w.heap.size + 1, k, none⟩ = some (.int .i64 x) := by rw [blk_cell HG.out, HE.out k hlt]; exact p
      have HC := Lib.hid hcall
      clear hcall p
      go_wp2_with (go_at_call 52; refine halt_here ?_)
      refine go_on (HC.out.mono ?_)
      rintro e w9 ⟨a9, n9, c9, rfl, HM9, HB9⟩
      have HG9 := Lib.hid ((HB9.out.block _ (blk_lt HG.out)).trans HG.out)
      clear fc HC HG
      go_wp2_with fail
      go_roundw
      case rel => exact ⟨k + 1, _, _, _, rfl, by go_num, by omega, HM9, HG9⟩
      case measure => simp [intOf]; omega
    · have ek : k = 5 := by omega
      clear HG HE
      replace HM1 : Hid (WSt A w w.heap.size 0 cs.toList itemS v bs 5 wr1 a1 n1 c1) := by subst ek; exact HM1
      clear ek hk
      obtain ⟨x, -, hc, hcall⟩ := HM1.out.bool (k := 5) rfl
      have fc : wr1.cell? ⟨w.heap.size, 5, none⟩ = some (.bool x) := hc
      have HC := Lib.hid hcall
      clear hc hcall
      go_wp2_with (go_at_call 53; refine halt_here ?_)
      refine go_on (HC.out.mono ?_)
      rintro e w2 ⟨a2, n2, c2, rfl, HM2, HB2⟩
      clear fc HC HM1
      obtain ⟨ce, HL, HR, hcall⟩ := HM2.out.sub (k := 6) (m := 72) rability_w rfl rfl
      have HC := Lib.hid hcall
      have HI := Lib.hid (show (Try.prog.info? 91).map (·.size) = some ce.length by rw [HL.out]; exact siz91)
      clear hcall
      go_wp2_with (with_reducible refine wpList_stop_load 91 _ ?_)
      refine go_on (wpList_load_sub rfl 91 (.tmp 33) rfl (w.heap.size) (6) rfl ce _ HR.out Try.underlying91 rfl HI.out ?_)
      go_wp2_with (go_at_call 67; refine halt_here ?_)
      refine go_on (HC.out.mono ?_)
      rintro e w3 ⟨a3, n3, c3, rfl, HM3, HB3⟩
      clear HL HR HI HC HM2
      obtain ⟨rows78, xa78, m78, xc78, HV78, hc, HLN78, hm78, -, hcall⟩ := HM3.out.rows (k := 78) (t := targetS) rfl
      have fc : w3.cell? ⟨w.heap.size, 78, none⟩ = some (.slice xa78 m78 xc78) := hc
      have HC := Lib.hid hcall
      have hwn : IntKind.u64.wrap (m78 : Int) = (m78 : Int) := wrapU _ (by omega) (by omega)
      clear hc hcall
      go_wp2_with (go_at_call 26; refine halt_here ?_)
      refine go_on (HC.out.mono ?_)
      rintro e wL78 ⟨aL78, nL78, cL78, rfl, HL, HBL⟩
      clear HC hwn
      have fL : wL78.cell? ⟨w.heap.size, 78, none⟩ = some (.slice xa78 m78 xc78) := (HBL.out.cell HM3.out.lt).trans fc
      have HFC := Lib.hid fc
      clear fc
      go_wp2_with fail
      clear fL HBL
      go_loopw [0, 7] (fun b i wr => ∃ (k : Nat) (a : Option Addr) (n c : Nat), b = .slice a n c ∧ i = .int .i64 k ∧ k ≤ m78 ∧ Hid (LSt A w3 targetS rows78 xa78 (bs ++ encRow (v.take 78)) k wr a n c)) (fun _ i _ => m78 - (intOf i).toNat)
      case atStart => exact ⟨0, _, _, _, rfl, rfl, Nat.zero_le _, HL⟩
      case round =>
        rename World => wk78
        clear HL
        obtain ⟨k, ak78, nk78, ck78, rfl, rfl, hk, HL⟩ := hrel
        have fs : wk78.cell? ⟨w.heap.size, 78, none⟩ = some (.slice xa78 m78 xc78) := (HL.out.below.cell HM3.out.lt).trans HFC.out
        have HLT := Lib.hid (Nat.lt_of_lt_of_le HM3.out.lt HL.out.below.size)
        by_cases hlt : k < m78
        · obtain ⟨g, o, ce, rfl, Hg, Hce, HM0r⟩ := HL.out.row (m := 2) len_targetS (by rw [HLN78.out]; exact hlt)
          obtain ⟨x, -, hc, hcall⟩ := HM0r.out.int (k := 0) rfl
          have fc : wk78.cell? ⟨g, o + k * 2, none⟩ = some (.int .i64 x) := hc
          have HC := Lib.hid hcall
          clear hc hcall
          go_wp2_with (go_at_call 52; refine halt_here ?_)
          refine go_on (HC.out.mono ?_)
          rintro e v1 ⟨ar1, nr1, cr1, rfl, HM1r, HBr1⟩
          have fs1 : v1.cell? ⟨w.heap.size, 78, none⟩ = some (.slice _ m78 xc78) := (HM1r.out.below.cell HLT.out).trans fs
          clear HBr1
          clear fc HC HM0r
          obtain ⟨x, -, hc, hcall⟩ := HM1r.out.int (k := 1) rfl
          have fc : v1.cell? ⟨g, o + k * 2 + 1, none⟩ = some (.int .i64 x) := hc
          have HC := Lib.hid hcall
          clear hc hcall
          go_wp2_with (go_at_call 52; refine halt_here ?_)
          refine go_on (HC.out.mono ?_)
          rintro e v2 ⟨ar2, nr2, cr2, rfl, HM2r, HBr2⟩
          have fs2 : v2.cell? ⟨w.heap.size, 78, none⟩ = some (.slice _ m78 xc78) := (HM2r.out.below.cell HLT.out).trans fs
          clear HBr2
          clear fc HC HM1r
          clear fs1
          have HL9 := Lib.hid (HL.out.step (by rw [HLN78.out]; exact hlt) HM2r.out len_targetS)
          clear HM2r
          go_wp2_with fail
          go_roundw
          case rel => exact ⟨k + 1, _, _, _, rfl, by go_num, by omega, HL9⟩
          case measure => simp [intOf]; omega
        · have HM4 := HM3.out.rowsEnd HV78.out HL.out (by rw [HLN78.out]; omega)
          clear HL HLT HV78 HLN78 HFC HM3
          replace HM4 : Hid (WSt A w w.heap.size 0 cs.toList itemS v bs 79 wk78 ak78 nk78 ck78) := HM4
          obtain ⟨ce, HL, HR, hcall⟩ := HM4.out.sub (k := 79) (m := 15) revent_w rfl rfl
          have HC := Lib.hid hcall
          have HI := Lib.hid (show (Try.prog.info? 95).map (·.size) = some ce.length by rw [HL.out]; exact siz95)
          clear hcall
          go_wp2_with (with_reducible refine wpList_stop_load 95 _ ?_)
          refine go_on (wpList_load_sub rfl 95 (.tmp 67) rfl (w.heap.size) (79) rfl ce _ HR.out Try.underlying95 rfl HI.out ?_)
          go_wp2_with (go_at_call 68; refine halt_here ?_)
          refine go_on (HC.out.mono ?_)
          rintro e w5 ⟨a5, n5, c5, rfl, HM5, HB5⟩
          clear HL HR HI HC HM4
          go_wp2_with fail
          go_ret
          exact HM5.out.last len_itemS
end Go.Proofs.Ytbcpdjhpceimlaa
