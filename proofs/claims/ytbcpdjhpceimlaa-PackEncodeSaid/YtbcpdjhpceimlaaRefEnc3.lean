/-
  The reference's writers of layer 27: Encode.
-/
import Derived.Test.YtbcpdjhpceimlaaRefEnc
import Derived.Test.YtbcpdjhpceimlaaRefEnc2
import Derived.Test.YtbcpdjhpceimlaaPLib
namespace Go.Proofs.Ytbcpdjhpceimlaa
open Go.ChangeShapes Go.WideShapes Go.ChangeAt Go.RowKit
set_option linter.unusedVariables false

set_option maxRecDepth 100000 in
set_option maxHeartbeats 8000000 in
theorem REncode_any {A : Nat → Prop} (cs : Array Value) (v : List V) (w : World) (hr : RowRep A w stateS v cs.toList) (hb : (encRow v).length ≤ 140737488355000) : Calls Try.prog 36 #[.agg cs] w (WroteC w ([] ++ encRow v)) := by
  have HM0 := Lib.hid (WSt.start (T := 30) (a := none) (n := 0) (c := 0) (bs := []) (CellsAt.nil _ _) (fun _ => ⟨rfl, rfl⟩) rfl hr (by simpa using hb))
  clear hr hb
  go_enter Try.func36, Try.ntmps36
  obtain ⟨rows0, xa0, m0, xc0, HV0, hc, HLN0, hm0, -, hcall⟩ := HM0.out.rows (k := 0) (t := playerS) rfl
  rw [show (w.alloc (.cells cs 30)).heap.size = w.heap.size + 1 by simp] at hcall
  have fc : (w.alloc (.cells cs 30)).cell? ⟨w.heap.size, 0, none⟩ = some (.slice xa0 m0 xc0) := hc
  have HC := Lib.hid hcall
  have hwn : IntKind.u64.wrap (m0 : Int) = (m0 : Int) := wrapU _ (by omega) (by omega)
  clear hc hcall
  go_wp2_with (go_at_call 26; refine halt_here ?_)
  refine go_on (HC.out.mono ?_)
  rintro e wL0 ⟨aL0, nL0, cL0, rfl, HL, HBL⟩
  clear HC hwn
  have fL : wL0.cell? ⟨w.heap.size, 0, none⟩ = some (.slice xa0 m0 xc0) := (HBL.out.cell (Nat.lt_succ_self _)).trans fc
  have HFC := Lib.hid fc
  clear fc
  go_wp2_with fail
  clear fL HBL
  go_loopw [3, 4] (fun b i wr => ∃ (k : Nat) (a : Option Addr) (n c : Nat), b = .slice a n c ∧ i = .int .i64 k ∧ k ≤ m0 ∧ Hid (LSt A (w.alloc (.cells cs 30)) playerS rows0 xa0 (([] : Bytes) ++ encRow (v.take 0)) k wr a n c)) (fun _ i _ => m0 - (intOf i).toNat)
  case atStart => exact ⟨0, _, _, _, rfl, rfl, Nat.zero_le _, HL⟩
  case round =>
    rename World => wk0
    clear HL
    obtain ⟨k, ak0, nk0, ck0, rfl, rfl, hk, HL⟩ := hrel
    have fs : wk0.cell? ⟨w.heap.size, 0, none⟩ = some (.slice xa0 m0 xc0) := (HL.out.below.cell HM0.out.lt).trans HFC.out
    have HLT := Lib.hid (Nat.lt_of_lt_of_le HM0.out.lt HL.out.below.size)
    by_cases hlt : k < m0
    · obtain ⟨g, o, ce, rfl, Hce, HR, hcall⟩ := HL.out.did (m := 14) rplayer_w len_playerS (by rw [HLN0.out]; exact hlt)
      have HC := Lib.hid hcall
      have HI := Lib.hid (show (Try.prog.info? 78).map (·.size) = some ce.length by rw [Hce.out]; exact siz78)
      clear hcall
      go_wp2_with (with_reducible refine wpList_stop_load 78 _ ?_)
      refine go_on (wpList_load_sub rfl 78 (.tmp 27) rfl g (o + k * 14) rfl ce _ HR.out Try.underlying78 rfl HI.out ?_)
      go_wp2_with (go_at_call 64; refine halt_here ?_)
      refine go_on (HC.out.mono ?_)
      rintro e w9 ⟨a9, n9, c9, rfl, HL9, HB9⟩
      clear fs HLT HC HI HR
      go_wp2_with fail
      go_roundw
      case rel => exact ⟨k + 1, _, _, _, rfl, by go_num, by omega, HL9⟩
      case measure => simp [intOf]; omega
    · have HM1 := HM0.out.rowsEnd HV0.out HL.out (by rw [HLN0.out]; omega)
      clear HL HLT HV0 HLN0 HFC HM0
      replace HM1 : Hid (WSt A w w.heap.size 0 cs.toList stateS v ([] : Bytes) 1 wk0 ak0 nk0 ck0) := HM1
      --MARK 1
      obtain ⟨rows1, xa1, m1, xc1, HV1, hc, HLN1, hm1, -, hcall⟩ := HM1.out.rows (k := 1) (t := objectS) rfl
      have fc : wk0.cell? ⟨w.heap.size, 1, none⟩ = some (.slice xa1 m1 xc1) := hc
      have HC := Lib.hid hcall
      have hwn : IntKind.u64.wrap (m1 : Int) = (m1 : Int) := wrapU _ (by omega) (by omega)
      clear hc hcall
      go_wp2_with (go_at_call 26; refine halt_here ?_)
      refine go_on (HC.out.mono ?_)
      rintro e wL1 ⟨aL1, nL1, cL1, rfl, HL, HBL⟩
      clear HC hwn
      have fL : wL1.cell? ⟨w.heap.size, 1, none⟩ = some (.slice xa1 m1 xc1) := (HBL.out.cell HM1.out.lt).trans fc
      have HFC := Lib.hid fc
      clear fc
      go_wp2_with fail
      clear fL HBL
      go_loopw [3, 5] (fun b i wr => ∃ (k : Nat) (a : Option Addr) (n c : Nat), b = .slice a n c ∧ i = .int .i64 k ∧ k ≤ m1 ∧ Hid (LSt A wk0 objectS rows1 xa1 (([] : Bytes) ++ encRow (v.take 1)) k wr a n c)) (fun _ i _ => m1 - (intOf i).toNat)
      case atStart => exact ⟨0, _, _, _, rfl, rfl, Nat.zero_le _, HL⟩
      case round =>
        rename World => wk1
        clear HL
        obtain ⟨k, ak1, nk1, ck1, rfl, rfl, hk, HL⟩ := hrel
        have fs : wk1.cell? ⟨w.heap.size, 1, none⟩ = some (.slice xa1 m1 xc1) := (HL.out.below.cell HM1.out.lt).trans HFC.out
        have HLT := Lib.hid (Nat.lt_of_lt_of_le HM1.out.lt HL.out.below.size)
        by_cases hlt : k < m1
        · obtain ⟨g, o, ce, rfl, Hce, HR, hcall⟩ := HL.out.did (m := 19) robject_w len_objectS (by rw [HLN1.out]; exact hlt)
          have HC := Lib.hid hcall
          have HI := Lib.hid (show (Try.prog.info? 125).map (·.size) = some ce.length by rw [Hce.out]; exact siz125)
          clear hcall
          go_wp2_with (with_reducible refine wpList_stop_load 125 _ ?_)
          refine go_on (wpList_load_sub rfl 125 (.tmp 48) rfl g (o + k * 19) rfl ce _ HR.out Try.underlying125 rfl HI.out ?_)
          go_wp2_with (go_at_call 65; refine halt_here ?_)
          refine go_on (HC.out.mono ?_)
          rintro e w9 ⟨a9, n9, c9, rfl, HL9, HB9⟩
          clear fs HLT HC HI HR
          go_wp2_with fail
          go_roundw
          case rel => exact ⟨k + 1, _, _, _, rfl, by go_num, by omega, HL9⟩
          case measure => simp [intOf]; omega
        · have HM2 := HM1.out.rowsEnd HV1.out HL.out (by rw [HLN1.out]; omega)
          clear HL HLT HV1 HLN1 HFC HM1
          replace HM2 : Hid (WSt A w w.heap.size 0 cs.toList stateS v ([] : Bytes) 2 wk1 ak1 nk1 ck1) := HM2
          --MARK 2
          obtain ⟨xa, xn, xc, -, hc, hcall⟩ := HM2.out.ints (k := 2) rfl
          have fc : wk1.cell? ⟨w.heap.size, 2, none⟩ = some (.slice xa xn xc) := hc
          have HC := Lib.hid hcall
          clear hc hcall
          go_wp2_with (go_at_call 55; refine halt_here ?_)
          refine go_on (HC.out.mono ?_)
          rintro e w3 ⟨a3, n3, c3, rfl, HM3, HB3⟩
          clear fc HC HM2
          obtain ⟨xa, xn, xc, -, hc, hcall⟩ := HM3.out.ints (k := 3) rfl
          have fc : w3.cell? ⟨w.heap.size, 3, none⟩ = some (.slice xa xn xc) := hc
          have HC := Lib.hid hcall
          clear hc hcall
          go_wp2_with (go_at_call 55; refine halt_here ?_)
          refine go_on (HC.out.mono ?_)
          rintro e w4 ⟨a4, n4, c4, rfl, HM4, HB4⟩
          clear fc HC HM3
          obtain ⟨rows4, xa4, m4, xc4, HV4, hc, HLN4, hm4, -, hcall⟩ := HM4.out.rows (k := 4) (t := itemS) rfl
          have fc : w4.cell? ⟨w.heap.size, 4, none⟩ = some (.slice xa4 m4 xc4) := hc
          have HC := Lib.hid hcall
          have hwn : IntKind.u64.wrap (m4 : Int) = (m4 : Int) := wrapU _ (by omega) (by omega)
          clear hc hcall
          go_wp2_with (go_at_call 26; refine halt_here ?_)
          refine go_on (HC.out.mono ?_)
          rintro e wL4 ⟨aL4, nL4, cL4, rfl, HL, HBL⟩
          clear HC hwn
          have fL : wL4.cell? ⟨w.heap.size, 4, none⟩ = some (.slice xa4 m4 xc4) := (HBL.out.cell HM4.out.lt).trans fc
          have HFC := Lib.hid fc
          clear fc
          go_wp2_with fail
          clear fL HBL
          go_loopw [3, 6] (fun b i wr => ∃ (k : Nat) (a : Option Addr) (n c : Nat), b = .slice a n c ∧ i = .int .i64 k ∧ k ≤ m4 ∧ Hid (LSt A w4 itemS rows4 xa4 (([] : Bytes) ++ encRow (v.take 4)) k wr a n c)) (fun _ i _ => m4 - (intOf i).toNat)
          case atStart => exact ⟨0, _, _, _, rfl, rfl, Nat.zero_le _, HL⟩
          case round =>
            rename World => wk4
            clear HL
            obtain ⟨k, ak4, nk4, ck4, rfl, rfl, hk, HL⟩ := hrel
            have fs : wk4.cell? ⟨w.heap.size, 4, none⟩ = some (.slice xa4 m4 xc4) := (HL.out.below.cell HM4.out.lt).trans HFC.out
            have HLT := Lib.hid (Nat.lt_of_lt_of_le HM4.out.lt HL.out.below.size)
            by_cases hlt : k < m4
            · obtain ⟨g, o, ce, rfl, Hce, HR, hcall⟩ := HL.out.did (m := 94) ritem_w len_itemS (by rw [HLN4.out]; exact hlt)
              have HC := Lib.hid hcall
              have HI := Lib.hid (show (Try.prog.info? 97).map (·.size) = some ce.length by rw [Hce.out]; exact siz97)
              clear hcall
              go_wp2_with (with_reducible refine wpList_stop_load 97 _ ?_)
              refine go_on (wpList_load_sub rfl 97 (.tmp 77) rfl g (o + k * 94) rfl ce _ HR.out Try.underlying97 rfl HI.out ?_)
              go_wp2_with (go_at_call 66; refine halt_here ?_)
              refine go_on (HC.out.mono ?_)
              rintro e w9 ⟨a9, n9, c9, rfl, HL9, HB9⟩
              clear fs HLT HC HI HR
              go_wp2_with fail
              go_roundw
              case rel => exact ⟨k + 1, _, _, _, rfl, by go_num, by omega, HL9⟩
              case measure => simp [intOf]; omega
            · have HM5 := HM4.out.rowsEnd HV4.out HL.out (by rw [HLN4.out]; omega)
              clear HL HLT HV4 HLN4 HFC HM4
              replace HM5 : Hid (WSt A w w.heap.size 0 cs.toList stateS v ([] : Bytes) 5 wk4 ak4 nk4 ck4) := HM5
              --MARK 3
              obtain ⟨rows5, xa5, m5, xc5, HV5, hc, HLN5, hm5, -, hcall⟩ := HM5.out.rows (k := 5) (t := waitingS) rfl
              have fc : wk4.cell? ⟨w.heap.size, 5, none⟩ = some (.slice xa5 m5 xc5) := hc
              have HC := Lib.hid hcall
              have hwn : IntKind.u64.wrap (m5 : Int) = (m5 : Int) := wrapU _ (by omega) (by omega)
              clear hc hcall
              go_wp2_with (go_at_call 26; refine halt_here ?_)
              refine go_on (HC.out.mono ?_)
              rintro e wL5 ⟨aL5, nL5, cL5, rfl, HL, HBL⟩
              clear HC hwn
              have fL : wL5.cell? ⟨w.heap.size, 5, none⟩ = some (.slice xa5 m5 xc5) := (HBL.out.cell HM5.out.lt).trans fc
              have HFC := Lib.hid fc
              clear fc
              go_wp2_with fail
              clear fL HBL
              go_loopw [3, 7] (fun b i wr => ∃ (k : Nat) (a : Option Addr) (n c : Nat), b = .slice a n c ∧ i = .int .i64 k ∧ k ≤ m5 ∧ Hid (LSt A wk4 waitingS rows5 xa5 (([] : Bytes) ++ encRow (v.take 5)) k wr a n c)) (fun _ i _ => m5 - (intOf i).toNat)
              case atStart => exact ⟨0, _, _, _, rfl, rfl, Nat.zero_le _, HL⟩
              case round =>
                rename World => wk5
                clear HL
                obtain ⟨k, ak5, nk5, ck5, rfl, rfl, hk, HL⟩ := hrel
                have fs : wk5.cell? ⟨w.heap.size, 5, none⟩ = some (.slice xa5 m5 xc5) := (HL.out.below.cell HM5.out.lt).trans HFC.out
                have HLT := Lib.hid (Nat.lt_of_lt_of_le HM5.out.lt HL.out.below.size)
                by_cases hlt : k < m5
                · obtain ⟨g, o, ce, rfl, Hg, Hce, HM0r⟩ := HL.out.row (m := 89) len_waitingS (by rw [HLN5.out]; exact hlt)
                  obtain ⟨x, -, hc, hcall⟩ := HM0r.out.int (k := 0) rfl
                  have fc : wk5.cell? ⟨g, o + k * 89, none⟩ = some (.int .i64 x) := hc
                  have HC := Lib.hid hcall
                  clear hc hcall
                  go_wp2_with (go_at_call 52; refine halt_here ?_)
                  refine go_on (HC.out.mono ?_)
                  rintro e v1 ⟨ar1, nr1, cr1, rfl, HM1r, HBr1⟩
                  have fs1 : v1.cell? ⟨w.heap.size, 5, none⟩ = some (.slice _ m5 xc5) := (HM1r.out.below.cell HLT.out).trans fs
                  clear HBr1
                  clear fc HC HM0r
                  obtain ⟨x, -, hc, hcall⟩ := HM1r.out.int (k := 1) rfl
                  have fc : v1.cell? ⟨g, o + k * 89 + 1, none⟩ = some (.int .i64 x) := hc
                  have HC := Lib.hid hcall
                  clear hc hcall
                  go_wp2_with (go_at_call 52; refine halt_here ?_)
                  refine go_on (HC.out.mono ?_)
                  rintro e v2 ⟨ar2, nr2, cr2, rfl, HM2r, HBr2⟩
                  have fs2 : v2.cell? ⟨w.heap.size, 5, none⟩ = some (.slice _ m5 xc5) := (HM2r.out.below.cell HLT.out).trans fs
                  clear HBr2
                  clear fc HC HM1r
                  clear fs1
                  obtain ⟨ce, HL, HR, hcall⟩ := HM2r.out.sub (k := 2) (m := 72) rability_w rfl rfl
                  have HC := Lib.hid hcall
                  have HI := Lib.hid (show (Try.prog.info? 91).map (·.size) = some ce.length by rw [HL.out]; exact siz91)
                  clear hcall
                  go_wp2_with (with_reducible refine wpList_stop_load 91 _ ?_)
                  refine go_on (wpList_load_sub rfl 91 (.tmp 115) rfl (g) (o + k * 89 + 2) rfl ce _ HR.out Try.underlying91 rfl HI.out ?_)
                  go_wp2_with (go_at_call 67; refine halt_here ?_)
                  refine go_on (HC.out.mono ?_)
                  rintro e v3 ⟨ar3, nr3, cr3, rfl, HM3r, HBr3⟩
                  have fs3 : v3.cell? ⟨w.heap.size, 5, none⟩ = some (.slice _ m5 xc5) := (HM3r.out.below.cell HLT.out).trans fs
                  clear HBr3
                  clear HL HR HI HC HM2r
                  clear fs2
                  obtain ⟨ce, HL, HR, hcall⟩ := HM3r.out.sub (k := 74) (m := 15) revent_w rfl rfl
                  have HC := Lib.hid hcall
                  have HI := Lib.hid (show (Try.prog.info? 95).map (·.size) = some ce.length by rw [HL.out]; exact siz95)
                  clear hcall
                  go_wp2_with (with_reducible refine wpList_stop_load 95 _ ?_)
                  refine go_on (wpList_load_sub rfl 95 (.tmp 123) rfl (g) (o + k * 89 + 74) rfl ce _ HR.out Try.underlying95 rfl HI.out ?_)
                  go_wp2_with (go_at_call 68; refine halt_here ?_)
                  refine go_on (HC.out.mono ?_)
                  rintro e v4 ⟨ar4, nr4, cr4, rfl, HM4r, HBr4⟩
                  have fs4 : v4.cell? ⟨w.heap.size, 5, none⟩ = some (.slice _ m5 xc5) := (HM4r.out.below.cell HLT.out).trans fs
                  clear HBr4
                  clear HL HR HI HC HM3r
                  clear fs3
                  have HL9 := Lib.hid (HL.out.step (by rw [HLN5.out]; exact hlt) HM4r.out len_waitingS)
                  clear HM4r
                  go_wp2_with fail
                  go_roundw
                  case rel => exact ⟨k + 1, _, _, _, rfl, by go_num, by omega, HL9⟩
                  case measure => simp [intOf]; omega
                · have HM6 := HM5.out.rowsEnd HV5.out HL.out (by rw [HLN5.out]; omega)
                  clear HL HLT HV5 HLN5 HFC HM5
                  replace HM6 : Hid (WSt A w w.heap.size 0 cs.toList stateS v ([] : Bytes) 6 wk5 ak5 nk5 ck5) := HM6
                  --MARK 4
                  obtain ⟨rows6, xa6, m6, xc6, HV6, hc, HLN6, hm6, -, hcall⟩ := HM6.out.rows (k := 6) (t := contS) rfl
                  have fc : wk5.cell? ⟨w.heap.size, 6, none⟩ = some (.slice xa6 m6 xc6) := hc
                  have HC := Lib.hid hcall
                  have hwn : IntKind.u64.wrap (m6 : Int) = (m6 : Int) := wrapU _ (by omega) (by omega)
                  clear hc hcall
                  go_wp2_with (go_at_call 26; refine halt_here ?_)
                  refine go_on (HC.out.mono ?_)
                  rintro e wL6 ⟨aL6, nL6, cL6, rfl, HL, HBL⟩
                  clear HC hwn
                  have fL : wL6.cell? ⟨w.heap.size, 6, none⟩ = some (.slice xa6 m6 xc6) := (HBL.out.cell HM6.out.lt).trans fc
                  have HFC := Lib.hid fc
                  clear fc
                  go_wp2_with fail
                  clear fL HBL
                  go_loopw [3, 8] (fun b i wr => ∃ (k : Nat) (a : Option Addr) (n c : Nat), b = .slice a n c ∧ i = .int .i64 k ∧ k ≤ m6 ∧ Hid (LSt A wk5 contS rows6 xa6 (([] : Bytes) ++ encRow (v.take 6)) k wr a n c)) (fun _ i _ => m6 - (intOf i).toNat)
                  case atStart => exact ⟨0, _, _, _, rfl, rfl, Nat.zero_le _, HL⟩
                  case round =>
                    rename World => wk6
                    clear HL
                    obtain ⟨k, ak6, nk6, ck6, rfl, rfl, hk, HL⟩ := hrel
                    have fs : wk6.cell? ⟨w.heap.size, 6, none⟩ = some (.slice xa6 m6 xc6) := (HL.out.below.cell HM6.out.lt).trans HFC.out
                    have HLT := Lib.hid (Nat.lt_of_lt_of_le HM6.out.lt HL.out.below.size)
                    by_cases hlt : k < m6
                    · obtain ⟨g, o, ce, rfl, Hg, Hce, HM0r⟩ := HL.out.row (m := 6) len_contS (by rw [HLN6.out]; exact hlt)
                      have HI := Lib.hid (show (Try.prog.info? 48).map (·.size) = some ce.length by rw [Hce.out]; exact siz48)
                      have HI2 := Lib.hid (show (Try.prog.info? 48).map (·.size) = some ce.toArray.size by rw [List.size_toArray, Hce.out]; exact siz48)
                      have HONE := Lib.hid (all_oneCell_toArray (row_one HM0r.out.row))
                      have HZ := Lib.hid (show ce.toArray.size = 6 by rw [List.size_toArray, Hce.out])
                      go_wp2_with (with_reducible refine wpList_stop_load 48 _ ?_)
                      refine go_on (wpList_load_sub rfl 48 (.tmp 143) rfl g (o + k * 6) rfl ce _ HM0r.out.rng Try.underlying48 rfl HI.out ?_)
                      go_wp2_with (with_reducible refine wpList_halt_store 48 _ _ ?_)
                      refine go_on (wpList_store_new rfl 48 (.tmp 9) (.tmp 144) rfl _ ce.toArray rfl rfl HI2.out (by rw [HZ.out]; rfl) HONE.out ?_)
                      have HM0s := Lib.hid (LSt.copy 48 HM0r.out)
                      clear HM0r HI HI2 HONE HZ fs
                      generalize wk6.alloc (.cells ce.toArray 48) = wz at HM0s
                      have HM0r := HM0s
                      clear HM0s
                      obtain ⟨x, -, hc, hcall⟩ := HM0r.out.int (k := 0) rfl
                      have fc : wz.cell? ⟨wk6.heap.size, 0, none⟩ = some (.int .i64 x) := hc
                      have HC := Lib.hid hcall
                      clear hc hcall
                      go_wp2_with (go_at_call 52; refine halt_here ?_)
                      refine go_on (HC.out.mono ?_)
                      rintro e v1 ⟨ar1, nr1, cr1, rfl, HM1r, HBr1⟩
                      clear HBr1
                      clear fc HC HM0r
                      obtain ⟨x, -, hc, hcall⟩ := HM1r.out.int (k := 1) rfl
                      have fc : v1.cell? ⟨wk6.heap.size, 1, none⟩ = some (.int .i64 x) := hc
                      have HC := Lib.hid hcall
                      clear hc hcall
                      go_wp2_with (go_at_call 52; refine halt_here ?_)
                      refine go_on (HC.out.mono ?_)
                      rintro e v2 ⟨ar2, nr2, cr2, rfl, HM2r, HBr2⟩
                      clear HBr2
                      clear fc HC HM1r
                      obtain ⟨x, -, hc, hcall⟩ := HM2r.out.int (k := 2) rfl
                      have fc : v2.cell? ⟨wk6.heap.size, 2, none⟩ = some (.int .i64 x) := hc
                      have HC := Lib.hid hcall
                      clear hc hcall
                      go_wp2_with (go_at_call 52; refine halt_here ?_)
                      refine go_on (HC.out.mono ?_)
                      rintro e v3 ⟨ar3, nr3, cr3, rfl, HM3r, HBr3⟩
                      clear HBr3
                      clear fc HC HM2r
                      obtain ⟨x, -, hc, hcall⟩ := HM3r.out.int (k := 3) rfl
                      have fc : v3.cell? ⟨wk6.heap.size, 3, none⟩ = some (.int .i64 x) := hc
                      have HC := Lib.hid hcall
                      clear hc hcall
                      go_wp2_with (go_at_call 52; refine halt_here ?_)
                      refine go_on (HC.out.mono ?_)
                      rintro e v4 ⟨ar4, nr4, cr4, rfl, HM4r, HBr4⟩
                      clear HBr4
                      clear fc HC HM3r
                      obtain ⟨xa, xn, xc, -, hc, hcall⟩ := HM4r.out.ints (k := 4) rfl
                      have fc : v4.cell? ⟨wk6.heap.size, 4, none⟩ = some (.slice xa xn xc) := hc
                      have HC := Lib.hid hcall
                      clear hc hcall
                      go_wp2_with (go_at_call 55; refine halt_here ?_)
                      refine go_on (HC.out.mono ?_)
                      rintro e v5 ⟨ar5, nr5, cr5, rfl, HM5r, HBr5⟩
                      clear HBr5
                      clear fc HC HM4r
                      obtain ⟨xa, xn, xc, -, hc, hcall⟩ := HM5r.out.list (k := 5) rmods_w rfl
                      have fc : v5.cell? ⟨wk6.heap.size, 5, none⟩ = some (.slice xa xn xc) := hc
                      have HC := Lib.hid hcall
                      clear hc hcall
                      go_wp2_with (go_at_call 69; refine halt_here ?_)
                      refine go_on (HC.out.mono ?_)
                      rintro e v6 ⟨ar6, nr6, cr6, rfl, HM6r, HBr6⟩
                      clear HBr6
                      clear fc HC HM5r
                      have HL9 := Lib.hid (HL.out.step (by rw [HLN6.out]; exact hlt) HM6r.out len_contS)
                      clear HM6r
                      go_wp2_with fail
                      go_roundw
                      case rel => exact ⟨k + 1, _, _, _, rfl, by go_num, by omega, HL9⟩
                      case measure => simp [intOf]; omega
                    · have HM7 := HM6.out.rowsEnd HV6.out HL.out (by rw [HLN6.out]; omega)
                      clear HL HLT HV6 HLN6 HFC HM6
                      replace HM7 : Hid (WSt A w w.heap.size 0 cs.toList stateS v ([] : Bytes) 7 wk6 ak6 nk6 ck6) := HM7
                      --MARK 5
                      obtain ⟨x, -, hc, hcall⟩ := HM7.out.int (k := 7) rfl
                      have fc : wk6.cell? ⟨w.heap.size, 7, none⟩ = some (.int .i64 x) := hc
                      have HC := Lib.hid hcall
                      clear hc hcall
                      go_wp2_with (go_at_call 52; refine halt_here ?_)
                      refine go_on (HC.out.mono ?_)
                      rintro e w8 ⟨a8, n8, c8, rfl, HM8, HB8⟩
                      clear fc HC HM7
                      obtain ⟨x, -, hc, hcall⟩ := HM8.out.int (k := 8) rfl
                      have fc : w8.cell? ⟨w.heap.size, 8, none⟩ = some (.int .i64 x) := hc
                      have HC := Lib.hid hcall
                      clear hc hcall
                      go_wp2_with (go_at_call 52; refine halt_here ?_)
                      refine go_on (HC.out.mono ?_)
                      rintro e w9 ⟨a9, n9, c9, rfl, HM9, HB9⟩
                      clear fc HC HM8
                      obtain ⟨x, -, hc, hcall⟩ := HM9.out.int (k := 9) rfl
                      have fc : w9.cell? ⟨w.heap.size, 9, none⟩ = some (.int .i64 x) := hc
                      have HC := Lib.hid hcall
                      clear hc hcall
                      go_wp2_with (go_at_call 52; refine halt_here ?_)
                      refine go_on (HC.out.mono ?_)
                      rintro e w10 ⟨a10, n10, c10, rfl, HM10, HB10⟩
                      clear fc HC HM9
                      obtain ⟨x, -, hc, hcall⟩ := HM10.out.bool (k := 10) rfl
                      have fc : w10.cell? ⟨w.heap.size, 10, none⟩ = some (.bool x) := hc
                      have HC := Lib.hid hcall
                      clear hc hcall
                      go_wp2_with (go_at_call 53; refine halt_here ?_)
                      refine go_on (HC.out.mono ?_)
                      rintro e w11 ⟨a11, n11, c11, rfl, HM11, HB11⟩
                      clear fc HC HM10
                      obtain ⟨x, -, hc, hcall⟩ := HM11.out.int (k := 11) rfl
                      have fc : w11.cell? ⟨w.heap.size, 11, none⟩ = some (.int .i64 x) := hc
                      have HC := Lib.hid hcall
                      clear hc hcall
                      go_wp2_with (go_at_call 52; refine halt_here ?_)
                      refine go_on (HC.out.mono ?_)
                      rintro e w12 ⟨a12, n12, c12, rfl, HM12, HB12⟩
                      clear fc HC HM11
                      obtain ⟨x, -, hc, hcall⟩ := HM12.out.int (k := 12) rfl
                      have fc : w12.cell? ⟨w.heap.size, 12, none⟩ = some (.int .i64 x) := hc
                      have HC := Lib.hid hcall
                      clear hc hcall
                      go_wp2_with (go_at_call 52; refine halt_here ?_)
                      refine go_on (HC.out.mono ?_)
                      rintro e w13 ⟨a13, n13, c13, rfl, HM13, HB13⟩
                      clear fc HC HM12
                      obtain ⟨x, -, hc, hcall⟩ := HM13.out.int (k := 13) rfl
                      have fc : w13.cell? ⟨w.heap.size, 13, none⟩ = some (.int .i64 x) := hc
                      have HC := Lib.hid hcall
                      clear hc hcall
                      go_wp2_with (go_at_call 52; refine halt_here ?_)
                      refine go_on (HC.out.mono ?_)
                      rintro e w14 ⟨a14, n14, c14, rfl, HM14, HB14⟩
                      clear fc HC HM13
                      obtain ⟨x, -, hc, hcall⟩ := HM14.out.int (k := 14) rfl
                      have fc : w14.cell? ⟨w.heap.size, 14, none⟩ = some (.int .i64 x) := hc
                      have HC := Lib.hid hcall
                      clear hc hcall
                      go_wp2_with (go_at_call 52; refine halt_here ?_)
                      refine go_on (HC.out.mono ?_)
                      rintro e w15 ⟨a15, n15, c15, rfl, HM15, HB15⟩
                      clear fc HC HM14
                      --MARK 6
                      obtain ⟨x, -, hc, hcall⟩ := HM15.out.num (k := 15) rfl
                      have fc : w15.cell? ⟨w.heap.size, 15, none⟩ = some (.int .u64 (x : Int)) := hc
                      have HC := Lib.hid hcall
                      clear hc hcall
                      go_wp2_with (go_at_call 26; refine halt_here ?_)
                      refine go_on (HC.out.mono ?_)
                      rintro e w16 ⟨a16, n16, c16, rfl, HM16, HB16⟩
                      clear fc HC HM15
                      --MARK 7
                      obtain ⟨xa, xn, xc, -, hc, hcall⟩ := HM16.out.ints (k := 16) rfl
                      have fc : w16.cell? ⟨w.heap.size, 16, none⟩ = some (.slice xa xn xc) := hc
                      have HC := Lib.hid hcall
                      clear hc hcall
                      go_wp2_with (go_at_call 55; refine halt_here ?_)
                      refine go_on (HC.out.mono ?_)
                      rintro e w17 ⟨a17, n17, c17, rfl, HM17, HB17⟩
                      clear fc HC HM16
                      obtain ⟨x, -, hc, hcall⟩ := HM17.out.int (k := 17) rfl
                      have fc : w17.cell? ⟨w.heap.size, 17, none⟩ = some (.int .i64 x) := hc
                      have HC := Lib.hid hcall
                      clear hc hcall
                      go_wp2_with (go_at_call 52; refine halt_here ?_)
                      refine go_on (HC.out.mono ?_)
                      rintro e w18 ⟨a18, n18, c18, rfl, HM18, HB18⟩
                      clear fc HC HM17
                      obtain ⟨x, -, hc, hcall⟩ := HM18.out.int (k := 18) rfl
                      have fc : w18.cell? ⟨w.heap.size, 18, none⟩ = some (.int .i64 x) := hc
                      have HC := Lib.hid hcall
                      clear hc hcall
                      go_wp2_with (go_at_call 52; refine halt_here ?_)
                      refine go_on (HC.out.mono ?_)
                      rintro e w19 ⟨a19, n19, c19, rfl, HM19, HB19⟩
                      clear fc HC HM18
                      go_wp2_with fail
                      go_ret
                      exact HM19.out.last len_stateS
end Go.Proofs.Ytbcpdjhpceimlaa
