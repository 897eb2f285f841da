/-
  The reference's readers of layer 27: filters, modifications, events, players, objects.
-/
import Derived.Test.YtbcpdjhpceimlaaRefDec
import Derived.Laws.Rows
import Derived.Laws.Tables
import Derived.Deep.CutBlock
namespace Go.Proofs.Ytbcpdjhpceimlaa
open Go.ChangeShapes Go.WideShapes Go.ChangeAt Go.RowKit
set_option linter.unusedVariables false

/-- The result's cell is made. -/
structure RetAt (w wA : World) (T : TypeId) (n : Nat) : Prop where
  grown : w.grownBy wA none
  size : wA.heap.size = w.heap.size + 1
  cell : ∃ Z : Array Value, Z.size = n ∧ wA.heap[w.heap.size]? = some (.cells Z T (0, 0))
theorem RetAt.kept {w wA w1 : World} {T : TypeId} {n R : Nat} (h : RetAt w wA T n) (hR : R < w.heap.size) (hk : Kept wA w1 (KW wA R)) : ∃ Z : Array Value, Hid (Z.size = n) ∧ Hid (w1.heap[w.heap.size]? = some (.cells Z T (0, 0))) := by
  obtain ⟨Z, h1, h2⟩ := h.cell
  refine ⟨Z, Lib.hid h1, Lib.hid ?_⟩
  have := h.size
  rw [hk.block _ (blk_lt h2) (fun e => by rcases e with e | e <;> omega)]
  exact h2

/-- The walk of a reading function begins: the result's cell, the struct's. -/
theorem wpList_begin {ops : Array Oper} {rest : List Oper} {o : Oper} {a : Act} {Q : Exit → Act → World → Prop} {w : World} {T : TypeId} {c0 c c' : Array Value} {R : Nat} {st : St} {s : List Fld} (hR : RDec w R st) (hs : Small st) (hg : o.guard = none) (x y : Operand) (ho : o.op = .store T x y)
    (hx : a.eval x = .pointer (some ⟨w.heap.size + 1, 0, none⟩)) (hy : a.eval y = .agg c') (h0 : c0.size = s.length) (hc : c.size = s.length) (hc' : c'.size = s.length) (hi : (Try.prog.info? T).map (·.size) = some s.length) (h1 : c'.all (·.oneCell') = true)
    (h : ∀ wA w1 zs, Hid (zs = c') → Hid (RetAt w wA T s.length) → Hid (DSt wA R (w.heap.size + 1) T zs s st 0 w1) → wpList Try.prog ops Q rest (a.put o.dst undef) w1) : wpList Try.prog ops Q (o :: rest) a ((w.alloc (.cells c0 T)).alloc (.cells c T)) := by
  have hA : w.grownBy (w.alloc (.cells c0 T)) none := World.grownBy_alloc _ _ _
  have hsz : (w.alloc (.cells c0 T)).heap.size = w.heap.size + 1 := by simp
  have hR2 : RDec (w.alloc (.cells c0 T)) R st := hR.keep (fun j hj => hA.block j (by have := hR.lt; omega) (by simp))
  have hD := DSt.start (T := T) (s := s) (zs := c') hR2 hs hc'
  rw [hsz] at hD
  refine wpList_store_new hg T x y ho c c' (by rw [hx, hsz]) hy (by rw [hi, hc']) (by rw [hc, hc']) h1 ?_
  exact h _ _ _ (Lib.hid rfl) (Lib.hid ⟨hA, hsz, c0, h0, heap_alloc_new w _⟩) (Lib.hid hD)

/-- The walk of a row begins: its struct's cell. -/
theorem wpList_beginRow {ops : Array Oper} {rest : List Oper} {o : Oper} {a : Act} {Q : Exit → Act → World → Prop} {w : World} {T : TypeId} {c c' : Array Value} {R : Nat} {st : St} {s : List Fld} (hR : RDec w R st) (hs : Small st) (hg : o.guard = none) (x y : Operand) (ho : o.op = .store T x y)
    (hx : a.eval x = .pointer (some ⟨w.heap.size, 0, none⟩)) (hy : a.eval y = .agg c') (hc : c.size = s.length) (hc' : c'.size = s.length) (hi : (Try.prog.info? T).map (·.size) = some s.length) (h1 : c'.all (·.oneCell') = true)
    (h : ∀ w1 zs, Hid (zs = c') → Hid (DSt w R w.heap.size T zs s st 0 w1) → wpList Try.prog ops Q rest (a.put o.dst undef) w1) : wpList Try.prog ops Q (o :: rest) a (w.alloc (.cells c T)) := by
  refine wpList_store_new hg T x y ho c c' hx hy (by rw [hi, hc']) (by rw [hc, hc']) h1 ?_
  exact h _ _ (Lib.hid rfl) (Lib.hid (DSt.start (T := T) (s := s) (zs := c') hR hs hc'))
theorem rep_at2 {s : List Fld} {q : Fld} {o m j : Nat} (hs : (s.drop o).take m = List.replicate m q) (hj : j < m) : s[o + j]? = some q := by
  have h : ((s.drop o).take m)[j]? = some q := by rw [hs, List.getElem?_replicate, if_pos hj]
  rw [List.getElem?_take, if_pos hj, List.getElem?_drop] at h
  exact h
theorem len_filterS : (filterS : List Fld).length = 16 := by decide
theorem len_eventS : (eventS : List Fld).length = 15 := by decide

set_option maxRecDepth 100000 in
set_option maxHeartbeats 4000000 in
theorem rfilter_r : RReader 120 filterS := by
  intro R st w hR hs
  have HR := Lib.hid hR
  have HS := Lib.hid hs
  clear hR hs
  go_enter Try.func120, Try.ntmps120
  go_wp2_with (with_reducible refine wpList_halt_store 43 _ _ ?_)
  refine go_on (wpList_begin (s := filterS) HR.out HS.out rfl (.tmp 3) (.tmp 4) rfl rfl rfl rfl rfl rfl (by kernel_rfl) (by kernel_rfl) (fun wA w0 zs HZ HRET HM0 => ?_))
  go_wp2_with (go_at_call 57; refine halt_here ?_)
  refine go_on ((DSt.int (k := 0) HM0.out rfl).mono ?_)
  rintro e w1 ⟨z, old, rfl, hc1, hf1, HM1⟩
  clear HM0
  go_wp2_with (go_at_call 57; refine halt_here ?_)
  refine go_on ((DSt.int (k := 1) HM1.out rfl).mono ?_)
  rintro e w2 ⟨z, old, rfl, hc2, hf2, HM2⟩
  clear hc1 hf1 HM1
  go_wp2_with (go_at_call 57; refine halt_here ?_)
  refine go_on ((DSt.int (k := 2) HM2.out rfl).mono ?_)
  rintro e w3 ⟨z, old, rfl, hc3, hf3, HM3⟩
  clear hc2 hf2 HM2
  go_wp2_with (go_at_call 57; refine halt_here ?_)
  refine go_on ((DSt.int (k := 3) HM3.out rfl).mono ?_)
  rintro e w4 ⟨z, old, rfl, hc4, hf4, HM4⟩
  clear hc3 hf3 HM3
  go_wp2_with (go_at_call 57; refine halt_here ?_)
  refine go_on ((DSt.int (k := 4) HM4.out rfl).mono ?_)
  rintro e w5 ⟨z, old, rfl, hc5, hf5, HM5⟩
  clear hc4 hf4 HM4
  go_wp2_with (go_at_call 57; refine halt_here ?_)
  refine go_on ((DSt.int (k := 5) HM5.out rfl).mono ?_)
  rintro e w6 ⟨z, old, rfl, hc6, hf6, HM6⟩
  clear hc5 hf5 HM5
  go_wp2_with (go_at_call 57; refine halt_here ?_)
  refine go_on ((DSt.int (k := 6) HM6.out rfl).mono ?_)
  rintro e w7 ⟨z, old, rfl, hc7, hf7, HM7⟩
  clear hc6 hf6 HM6
  go_wp2_with (go_at_call 59; refine halt_here ?_)
  refine go_on ((DSt.text (k := 7) HM7.out rfl).mono ?_)
  rintro e w8 ⟨z, old, rfl, hc8, hf8, HM8⟩
  clear hc7 hf7 HM7
  go_wp2_with (go_at_call 57; refine halt_here ?_)
  refine go_on ((DSt.int (k := 8) HM8.out rfl).mono ?_)
  rintro e w9 ⟨z, old, rfl, hc9, hf9, HM9⟩
  clear hc8 hf8 HM8
  go_wp2_with (go_at_call 57; refine halt_here ?_)
  refine go_on ((DSt.int (k := 9) HM9.out rfl).mono ?_)
  rintro e w10 ⟨z, old, rfl, hc10, hf10, HM10⟩
  clear hc9 hf9 HM9
  go_wp2_with (go_at_call 57; refine halt_here ?_)
  refine go_on ((DSt.int (k := 10) HM10.out rfl).mono ?_)
  rintro e w11 ⟨z, old, rfl, hc11, hf11, HM11⟩
  clear hc10 hf10 HM10
  go_wp2_with (go_at_call 57; refine halt_here ?_)
  refine go_on ((DSt.int (k := 11) HM11.out rfl).mono ?_)
  rintro e w12 ⟨z, old, rfl, hc12, hf12, HM12⟩
  clear hc11 hf11 HM11
  go_wp2_with (go_at_call 57; refine halt_here ?_)
  refine go_on ((DSt.int (k := 12) HM12.out rfl).mono ?_)
  rintro e w13 ⟨z, old, rfl, hc13, hf13, HM13⟩
  clear hc12 hf12 HM12
  go_wp2_with (go_at_call 57; refine halt_here ?_)
  refine go_on ((DSt.int (k := 13) HM13.out rfl).mono ?_)
  rintro e w14 ⟨z, old, rfl, hc14, hf14, HM14⟩
  clear hc13 hf13 HM13
  go_wp2_with (go_at_call 57; refine halt_here ?_)
  refine go_on ((DSt.int (k := 14) HM14.out rfl).mono ?_)
  rintro e w15 ⟨z, old, rfl, hc15, hf15, HM15⟩
  clear hc14 hf14 HM14
  go_wp2_with (go_at_call 57; refine halt_here ?_)
  refine go_on ((DSt.int (k := 15) HM15.out rfl).mono ?_)
  rintro e w16 ⟨z, old, rfl, hc16, hf16, HM16⟩
  clear hc15 hf15 HM15
  go_wp2_with (with_reducible refine wpList_halt_load 43 _ ?_)
  clear hc16 hf16
  obtain ⟨us, HB, HU, HROW, HRD, HK⟩ := HM16.out.done (k := 16) len_filterS
  have HI := Lib.hid (show (Try.prog.info? 43).map (·.size) = some us.size by rw [HU.out]; exact siz43)
  have HONE := Lib.hid (show us.all (·.oneCell') = true by have h := all_oneCell_toArray (row_one HROW.out); simpa using h)
  obtain ⟨Z, HZS, HZC⟩ := HRET.out.kept HR.out.lt HK.out
  generalize (w16.setCell ⟨(w.heap.size + 1), 15, none⟩ (.int .i64 z)) = wz at HB HROW HRD HK HZC
  clear HM16
  refine go_on (wpList_load_row rfl 43 (.tmp 3) rfl (w.heap.size + 1) rfl 43 us (0, 0) _ HB.out Try.underlying43 rfl HI.out ?_)
  go_wp2_with (with_reducible refine wpList_halt_store 43 _ _ ?_)
  refine go_on (wpList_store_row rfl 43 (.tmp 2) (.tmp 59) rfl w.heap.size us rfl rfl 43 Z HZC.out HI.out (by rw [HZS.out, HU.out]; exact len_filterS) HONE.out ?_)
  go_wp2_with fail
  refine bodyPost_ret (results_one rfl rfl (setRow_heap wz _ Z us 43 (0, 0) HZC.out) Try.underlying43 rfl HI.out) rfl ?_
  exact RRead.of rfl HRET.out.grown HRET.out.size HR.out.lt HROW.out HRD.out HK.out

set_option maxRecDepth 100000 in
set_option maxHeartbeats 4000000 in
theorem rmods_r : RReaderE 111 modS := by
  intro R st w hR hs
  have HR := Lib.hid hR
  have HS := Lib.hid hs
  clear hR hs
  go_enter Try.func111, Try.ntmps111
  go_wp2_with (go_at_call 56; refine halt_here ?_)
  refine go_on ((uint_read HR.out).mono ?_)
  have hn := uS_bd 4096 st
  have HFIN := Lib.hid (fun i acc cells ao co stk w1 wr hg h hx => DLt.readE (w := w) (w1 := w1) (R := R) (T := 45) (N := 20) (t := modS) (st := st) (i := i) (acc := acc) (cells := cells) (ao := ao) (co := co) (stk := stk) (wr := wr) len_modS hg h hx)
  have HS1 := Lib.hid (HS.out.u 4096)
  generalize (uS 4096 st).1 = n at hn HFIN ⊢
  generalize (uS 4096 st).2 = st1 at HFIN HS1 ⊢
  rintro e w1 ⟨rfl, hrd, hg⟩
  have HG := Lib.hid hg
  have HL := Lib.hid (DLt.start (W := fun _ => False) (T := 45) (N := 20) (t := modS) (n := n) hrd HS1.out (fun _ h => h.elim) hn)
  have hwn : IntKind.i64.wrap (n : Int) = (n : Int) := wrapI _ (by omega) (by omega)
  clear hrd hg HS1 HS HR
  go_wp2_with fail
  go_loopw [3, 5] (fun o i wr => ∃ (k : Nat) (ao : Option Addr) (co : Nat), ∃ acc cells stk, o = .slice ao k co ∧ i = .int .i64 k ∧ Hid (DLt (fun _ => False) w1 R 45 20 modS n st1 k acc cells (.slice ao k co) stk wr)) (fun _ i _ => n - (intOf i).toNat)
  case atStart => exact ⟨0, none, 0, [], [], st1, rfl, rfl, HL⟩
  case round =>
    rename World => wr
    clear HL hwn
    obtain ⟨k, ao, co, acc, cells, stk, rfl, rfl, HL⟩ := hrel
    by_cases hlt : k < n
    · obtain ⟨e, HE, he⟩ := err_read HL.out.rdr
      have HEE := Lib.hid HE
      clear HE
      rcases he with ⟨rfl, bk, rfl⟩ | ⟨he, rfl⟩
      · go_wp2_with (go_at_call 63; refine halt_here ?_)
        refine go_on (HEE.out.mono ?_)
        rintro x w9 ⟨rfl, rfl⟩
        clear HEE
        go_wp2_with (with_reducible refine wpList_halt_store 45 _ _ ?_)
        refine go_on (wpList_beginRow (s := modS) HL.out.rdr HL.out.small rfl (.tmp 6) (.tmp 20) rfl rfl rfl rfl rfl (by kernel_rfl) (by kernel_rfl) (fun wr0 zsr HZr HMr0 => ?_))
        go_wp2_with (go_at_call 57; refine halt_here ?_)
        refine go_on ((DSt.int (k := 0) HMr0.out rfl).mono ?_)
        rintro e wr1 ⟨z, old, rfl, hc1, hf1, HMr1⟩
        clear HMr0
        go_wp2_with (go_at_call 57; refine halt_here ?_)
        refine go_on ((DSt.int (k := 1) HMr1.out rfl).mono ?_)
        rintro e wr2 ⟨z, old, rfl, hc2, hf2, HMr2⟩
        clear hc1 hf1 HMr1
        go_wp2_with (go_at_call 57; refine halt_here ?_)
        refine go_on ((DSt.int (k := 2) HMr2.out rfl).mono ?_)
        rintro e wr3 ⟨z, old, rfl, hc3, hf3, HMr3⟩
        clear hc2 hf2 HMr2
        go_wp2_with (go_at_call 59; refine halt_here ?_)
        refine go_on ((DSt.text (k := 3) HMr3.out rfl).mono ?_)
        rintro e wr4 ⟨z, old, rfl, hc4, hf4, HMr4⟩
        clear hc3 hf3 HMr3
        go_wp2_with (go_at_call 120; refine halt_here ?_)
        refine go_on ((DSt.sub (k := 4) (m := 16) HMr4.out rfilter_r rfl len_filterS).mono ?_)
        rintro e wr5 ⟨us5, rfl, HU5, HO5, HT5, HMr5⟩
        clear hc4 hf4 HMr4
        have HI5 := Lib.hid (show (Try.prog.info? 43).map (·.size) = some us5.size by rw [HU5.out]; exact siz43)
        go_wp2_with (with_reducible refine wpList_halt_store 43 _ _ ?_)
        refine go_on (wpList_store_mid rfl 43 (.tmp 35) (.tmp 34) rfl wr.heap.size 4 us5 rfl rfl HT5.out HI5.out HO5.out ?_)
        clear HU5 HO5 HT5 HI5
        generalize (wr5.setCells wr.heap.size 4 us5.toList) = wr5s at HMr5
        go_wp2_with (with_reducible refine wpList_halt_load 45 _ ?_)
        obtain ⟨us, HB, HU, HROW, HRD, HKK⟩ := HMr5.out.done (k := 20) len_modS
        clear HMr5 HZr
        have HI := Lib.hid (show (Try.prog.info? 45).map (·.size) = some us.size by rw [HU.out]; exact size45)
        obtain ⟨i0, z0, hi0, hz0, hz1, -, -⟩ := info_elem info45
        have HI0 := Lib.hid hi0
        have HZ0 := Lib.hid hz0
        have HZ1 := Lib.hid hz1
        clear hi0 hz0 hz1
        refine go_on (wpList_load_row rfl 45 (.tmp 6) rfl wr.heap.size rfl 45 us (0, 0) _ HB.out Try.underlying45 rfl HI.out ?_)
        go_wp2_with (with_reducible refine wpList_halt_build 46 1 _ ?_)
        refine go_on (wpList_wp rfl (fun K hK => wp_build_one 46 45 (.tmp 37) rfl us i0 z0 20 Try.underlying46 HI0.out HZ0.out HZ1.out (by decide) (by decide) rfl HU.out (hK _ _ ?_)))
        clear hK K
        have HG3 := Lib.hid (World.grownBy_alloc wr5s (.cells us 45) none)
        have HY3 := Lib.hid (heap_alloc_new wr5s (.cells us 45))
        generalize wr5s.alloc (.cells us 45) = w3 at HG3 HY3
        generalize wr5s.heap.size = Y at HY3
        clear HB HI HI0 HZ0 HZ1
        refine wpList_wp rfl (fun K hK => ?_)
        refine HL.out.append (.tmp 36) (.tmp 38) 46 rfl Try.underlying46 info45 (by decide) (by decide) hlt HU.out HROW.out HRD.out HKK.out.grown HG3.out HY3.out rfl rfl ?_
        intro a4 c4 w4 hstep hkeep
        refine hK _ _ ?_
        clear hK K
        go_wp2_with fail
        go_roundw
        case rel => exact ⟨k + 1, a4, c4, _, _, _, rfl, by go_num, Lib.hid (hstep _ (Kept.refl _ _))⟩
        case measure => simp [intOf]; omega
      · have p1 : ((e : Int) == 0) = false := by simp; omega
        clear he
        go_wp2_with (go_at_call 63; refine halt_here ?_)
        refine go_on (HEE.out.mono ?_)
        rintro x w9 ⟨rfl, rfl⟩
        clear HEE
        go_wp2_with fail
        go_ret
        exact HFIN.out _ _ _ _ _ _ _ _ HG.out HL.out (.inr ⟨e, rfl⟩)
    · go_wp2_with fail
      go_ret
      exact HFIN.out _ _ _ _ _ _ _ _ HG.out HL.out (.inl (by omega))

set_option maxRecDepth 100000 in
set_option maxHeartbeats 4000000 in
theorem revent_r : RReader 110 eventS := by
  intro R st w hR hs
  have HR := Lib.hid hR
  have HS := Lib.hid hs
  clear hR hs
  go_enter Try.func110, Try.ntmps110
  go_wp2_with (with_reducible refine wpList_halt_store 95 _ _ ?_)
  refine go_on (wpList_begin (s := eventS) HR.out HS.out rfl (.tmp 3) (.tmp 5) rfl rfl rfl rfl rfl rfl (by kernel_rfl) (by kernel_rfl) (fun wA w0 zs HZ HRET HM0 => ?_))
  go_wp2_with (go_at_call 57; refine halt_here ?_)
  refine go_on ((DSt.int (k := 0) HM0.out rfl).mono ?_)
  rintro e w1 ⟨z, old, rfl, hc1, hf1, HM1⟩
  clear HM0
  go_wp2_with (go_at_call 57; refine halt_here ?_)
  refine go_on ((DSt.int (k := 1) HM1.out rfl).mono ?_)
  rintro e w2 ⟨z, old, rfl, hc2, hf2, HM2⟩
  clear hc1 hf1 HM1
  go_wp2_with (go_at_call 57; refine halt_here ?_)
  refine go_on ((DSt.int (k := 2) HM2.out rfl).mono ?_)
  rintro e w3 ⟨z, old, rfl, hc3, hf3, HM3⟩
  clear hc2 hf2 HM2
  go_wp2_with (go_at_call 57; refine halt_here ?_)
  refine go_on ((DSt.int (k := 3) HM3.out rfl).mono ?_)
  rintro e w4 ⟨z, old, rfl, hc4, hf4, HM4⟩
  clear hc3 hf3 HM3
  go_wp2_with (go_at_call 57; refine halt_here ?_)
  refine go_on ((DSt.int (k := 4) HM4.out rfl).mono ?_)
  rintro e w5 ⟨z, old, rfl, hc5, hf5, HM5⟩
  clear hc4 hf4 HM4
  go_wp2_with (go_at_call 57; refine halt_here ?_)
  refine go_on ((DSt.int (k := 5) HM5.out rfl).mono ?_)
  rintro e w6 ⟨z, old, rfl, hc6, hf6, HM6⟩
  clear hc5 hf5 HM5
  go_wp2_with (go_at_call 57; refine halt_here ?_)
  refine go_on ((DSt.int (k := 6) HM6.out rfl).mono ?_)
  rintro e w7 ⟨z, old, rfl, hc7, hf7, HM7⟩
  clear hc6 hf6 HM6
  go_wp2_with (go_at_call 57; refine halt_here ?_)
  refine go_on ((DSt.int (k := 7) HM7.out rfl).mono ?_)
  rintro e w8 ⟨z, old, rfl, hc8, hf8, HM8⟩
  clear hc7 hf7 HM7
  go_wp2_with (go_at_call 57; refine halt_here ?_)
  refine go_on ((DSt.int (k := 8) HM8.out rfl).mono ?_)
  rintro e w9 ⟨z, old, rfl, hc9, hf9, HM9⟩
  clear hc8 hf8 HM8
  go_wp2_with (go_at_call 57; refine halt_here ?_)
  refine go_on ((DSt.int (k := 9) HM9.out rfl).mono ?_)
  rintro e w10 ⟨z, old, rfl, hc10, hf10, HM10⟩
  clear hc9 hf9 HM9
  go_wp2_with (go_at_call 58; refine halt_here ?_)
  refine go_on ((DSt.bool (k := 10) HM10.out rfl).mono ?_)
  rintro e w11 ⟨z, old, rfl, hc11, hf11, HM11⟩
  clear hc10 hf10 HM10
  go_wp2_with (go_at_call 58; refine halt_here ?_)
  refine go_on ((DSt.bool (k := 11) HM11.out rfl).mono ?_)
  rintro e w12 ⟨z, old, rfl, hc12, hf12, HM12⟩
  clear hc11 hf11 HM11
  go_wp2_with fail
  clear hc12 hf12
  generalize (w12.setCell ⟨(w.heap.size + 1), 11, none⟩ (.bool z)) = wg13 at HM12
  have HMg := HM12
  clear HM12
  go_loopw [4] (fun i wr => ∃ k : Nat, i = .int .i64 k ∧ k ≤ 3 ∧ Hid (DSt wA R (w.heap.size + 1) 95 zs eventS st (12 + k) wr)) (fun i _ => 3 - (intOf i).toNat)
  case atStart => exact ⟨0, rfl, by omega, HMg⟩
  case round =>
    rename World => wr13
    clear HMg
    obtain ⟨k, rfl, hk, HM13⟩ := hrel
    by_cases hlt : k < 3
    · go_wp2_with (go_at_call 57; refine halt_here ?_)
      refine go_on ((DSt.int (k := 12 + k) HM13.out (rep_at2 (o := 12) (m := 3) (j := k) rfl hlt)).mono ?_)
      rintro e w9 ⟨z, old, rfl, hc9, hf9, HM9⟩
      clear HM13
      go_wp2_with fail
      clear hc9 hf9
      go_roundw
      case rel => exact ⟨k + 1, by go_num, by omega, HM9⟩
      case measure => simp [intOf]; omega
    · have ek : k = 3 := by omega
      replace HM13 : Hid (DSt wA R (w.heap.size + 1) 95 zs eventS st 15 wr13) := by subst ek; exact HM13
      clear ek hk
      go_wp2_with (with_reducible refine wpList_halt_load 95 _ ?_)
      obtain ⟨us, HB, HU, HROW, HRD, HK⟩ := HM13.out.done (k := 15) len_eventS
      have HI := Lib.hid (show (Try.prog.info? 95).map (·.size) = some us.size by rw [HU.out]; exact siz95)
      have HONE := Lib.hid (show us.all (·.oneCell') = true by have h := all_oneCell_toArray (row_one HROW.out); simpa using h)
      obtain ⟨Z, HZS, HZC⟩ := HRET.out.kept HR.out.lt HK.out
      clear HM13
      refine go_on (wpList_load_row rfl 95 (.tmp 3) rfl (w.heap.size + 1) rfl 95 us (0, 0) _ HB.out Try.underlying95 rfl HI.out ?_)
      go_wp2_with (with_reducible refine wpList_halt_store 95 _ _ ?_)
      refine go_on (wpList_store_row rfl 95 (.tmp 2) (.tmp 51) rfl w.heap.size us rfl rfl 95 Z HZC.out HI.out (by rw [HZS.out, HU.out]; exact len_eventS) HONE.out ?_)
      go_wp2_with fail
      refine bodyPost_ret (results_one rfl rfl (setRow_heap wr13 _ Z us 95 (0, 0) HZC.out) Try.underlying95 rfl HI.out) rfl ?_
      exact RRead.of rfl HRET.out.grown HRET.out.size HR.out.lt HROW.out HRD.out HK.out

set_option maxRecDepth 100000 in
set_option maxHeartbeats 4000000 in
theorem rplayer_r : RReader 92 playerS := by
  intro R st w hR hs
  have HR := Lib.hid hR
  have HS := Lib.hid hs
  clear hR hs
  go_enter Try.func92, Try.ntmps92
  go_wp2_with (with_reducible refine wpList_halt_store 78 _ _ ?_)
  refine go_on (wpList_begin (s := playerS) HR.out HS.out rfl (.tmp 3) (.tmp 5) rfl rfl rfl rfl rfl rfl (by kernel_rfl) (by kernel_rfl) (fun wA w0 zs HZ HRET HM0 => ?_))
  go_wp2_with (go_at_call 57; refine halt_here ?_)
  refine go_on ((DSt.int (k := 0) HM0.out rfl).mono ?_)
  rintro e w1 ⟨z, old, rfl, hc1, hf1, HM1⟩
  clear HM0
  go_wp2_with (go_at_call 57; refine halt_here ?_)
  refine go_on ((DSt.int (k := 1) HM1.out rfl).mono ?_)
  rintro e w2 ⟨z, old, rfl, hc2, hf2, HM2⟩
  clear hc1 hf1 HM1
  go_wp2_with (go_at_call 57; refine halt_here ?_)
  refine go_on ((DSt.int (k := 2) HM2.out rfl).mono ?_)
  rintro e w3 ⟨z, old, rfl, hc3, hf3, HM3⟩
  clear hc2 hf2 HM2
  go_wp2_with fail
  clear hc3 hf3
  generalize (w3.setCell ⟨(w.heap.size + 1), 2, none⟩ (.int .i64 z)) = wg4 at HM3
  have HMg := HM3
  clear HM3
  go_loopw [4] (fun i wr => ∃ k : Nat, i = .int .i64 k ∧ k ≤ 6 ∧ Hid (DSt wA R (w.heap.size + 1) 78 zs playerS st (3 + k) wr)) (fun i _ => 6 - (intOf i).toNat)
  case atStart => exact ⟨0, rfl, by omega, HMg⟩
  case round =>
    rename World => wr4
    clear HMg
    obtain ⟨k, rfl, hk, HM4⟩ := hrel
    by_cases hlt : k < 6
    · go_wp2_with (go_at_call 57; refine halt_here ?_)
      refine go_on ((DSt.int (k := 3 + k) HM4.out (rep_at2 (o := 3) (m := 6) (j := k) rfl hlt)).mono ?_)
      rintro e w9 ⟨z, old, rfl, hc9, hf9, HM9⟩
      clear HM4
      go_wp2_with fail
      clear hc9 hf9
      go_roundw
      case rel => exact ⟨k + 1, by go_num, by omega, HM9⟩
      case measure => simp [intOf]; omega
    · have ek : k = 6 := by omega
      replace HM4 : Hid (DSt wA R (w.heap.size + 1) 78 zs playerS st 9 wr4) := by subst ek; exact HM4
      clear ek hk
      go_wp2_with (go_at_call 58; refine halt_here ?_)
      refine go_on ((DSt.bool (k := 9) HM4.out rfl).mono ?_)
      rintro e w5 ⟨z, old, rfl, hc5, hf5, HM5⟩
      clear HM4
      go_wp2_with (go_at_call 58; refine halt_here ?_)
      refine go_on ((DSt.bool (k := 10) HM5.out rfl).mono ?_)
      rintro e w6 ⟨z, old, rfl, hc6, hf6, HM6⟩
      clear hc5 hf5 HM5
      go_wp2_with (go_at_call 61; refine halt_here ?_)
      refine go_on ((DSt.ints (k := 11) HM6.out rfl).mono ?_)
      rintro e w7 ⟨za, zn, zc, old, rfl, hc7, hf7, HM7⟩
      clear hc6 hf6 HM6
      go_wp2_with (go_at_call 61; refine halt_here ?_)
      refine go_on ((DSt.ints (k := 12) HM7.out rfl).mono ?_)
      rintro e w8 ⟨za, zn, zc, old, rfl, hc8, hf8, HM8⟩
      clear hc7 hf7 HM7
      go_wp2_with (go_at_call 61; refine halt_here ?_)
      refine go_on ((DSt.ints (k := 13) HM8.out rfl).mono ?_)
      rintro e w9 ⟨za, zn, zc, old, rfl, hc9, hf9, HM9⟩
      clear hc8 hf8 HM8
      go_wp2_with (with_reducible refine wpList_halt_load 78 _ ?_)
      clear hc9 hf9
      obtain ⟨us, HB, HU, HROW, HRD, HK⟩ := HM9.out.done (k := 14) len_playerS
      have HI := Lib.hid (show (Try.prog.info? 78).map (·.size) = some us.size by rw [HU.out]; exact siz78)
      have HONE := Lib.hid (show us.all (·.oneCell') = true by have h := all_oneCell_toArray (row_one HROW.out); simpa using h)
      obtain ⟨Z, HZS, HZC⟩ := HRET.out.kept HR.out.lt HK.out
      generalize (w9.setCell ⟨(w.heap.size + 1), 13, none⟩ (.slice za zn zc)) = wz at HB HROW HRD HK HZC
      clear HM9
      refine go_on (wpList_load_row rfl 78 (.tmp 3) rfl (w.heap.size + 1) rfl 78 us (0, 0) _ HB.out Try.underlying78 rfl HI.out ?_)
      go_wp2_with (with_reducible refine wpList_halt_store 78 _ _ ?_)
      refine go_on (wpList_store_row rfl 78 (.tmp 2) (.tmp 39) rfl w.heap.size us rfl rfl 78 Z HZC.out HI.out (by rw [HZS.out, HU.out]; exact len_playerS) HONE.out ?_)
      go_wp2_with fail
      refine bodyPost_ret (results_one rfl rfl (setRow_heap wz _ Z us 78 (0, 0) HZC.out) Try.underlying78 rfl HI.out) rfl ?_
      exact RRead.of rfl HRET.out.grown HRET.out.size HR.out.lt HROW.out HRD.out HK.out

set_option maxRecDepth 100000 in
set_option maxHeartbeats 4000000 in
theorem robject_r : RReader 93 objectS := by
  intro R st w hR hs
  have HR := Lib.hid hR
  have HS := Lib.hid hs
  clear hR hs
  go_enter Try.func93, Try.ntmps93
  go_wp2_with (with_reducible refine wpList_halt_store 125 _ _ ?_)
  refine go_on (wpList_begin (s := objectS) HR.out HS.out rfl (.tmp 3) (.tmp 5) rfl rfl rfl rfl rfl rfl (by kernel_rfl) (by kernel_rfl) (fun wA w0 zs HZ HRET HM0 => ?_))
  go_wp2_with (go_at_call 57; refine halt_here ?_)
  refine go_on ((DSt.int (k := 0) HM0.out rfl).mono ?_)
  rintro e w1 ⟨z, old, rfl, hc1, hf1, HM1⟩
  clear HM0
  go_wp2_with (go_at_call 57; refine halt_here ?_)
  refine go_on ((DSt.int (k := 1) HM1.out rfl).mono ?_)
  rintro e w2 ⟨z, old, rfl, hc2, hf2, HM2⟩
  clear hc1 hf1 HM1
  go_wp2_with (go_at_call 57; refine halt_here ?_)
  refine go_on ((DSt.int (k := 2) HM2.out rfl).mono ?_)
  rintro e w3 ⟨z, old, rfl, hc3, hf3, HM3⟩
  clear hc2 hf2 HM2
  go_wp2_with (go_at_call 57; refine halt_here ?_)
  refine go_on ((DSt.int (k := 3) HM3.out rfl).mono ?_)
  rintro e w4 ⟨z, old, rfl, hc4, hf4, HM4⟩
  clear hc3 hf3 HM3
  go_wp2_with (go_at_call 57; refine halt_here ?_)
  refine go_on ((DSt.int (k := 4) HM4.out rfl).mono ?_)
  rintro e w5 ⟨z, old, rfl, hc5, hf5, HM5⟩
  clear hc4 hf4 HM4
  go_wp2_with (go_at_call 58; refine halt_here ?_)
  refine go_on ((DSt.bool (k := 5) HM5.out rfl).mono ?_)
  rintro e w6 ⟨z, old, rfl, hc6, hf6, HM6⟩
  clear hc5 hf5 HM5
  go_wp2_with (go_at_call 58; refine halt_here ?_)
  refine go_on ((DSt.bool (k := 6) HM6.out rfl).mono ?_)
  rintro e w7 ⟨z, old, rfl, hc7, hf7, HM7⟩
  clear hc6 hf6 HM6
  go_wp2_with (go_at_call 58; refine halt_here ?_)
  refine go_on ((DSt.bool (k := 7) HM7.out rfl).mono ?_)
  rintro e w8 ⟨z, old, rfl, hc8, hf8, HM8⟩
  clear hc7 hf7 HM7
  go_wp2_with (go_at_call 58; refine halt_here ?_)
  refine go_on ((DSt.bool (k := 8) HM8.out rfl).mono ?_)
  rintro e w9 ⟨z, old, rfl, hc9, hf9, HM9⟩
  clear hc8 hf8 HM8
  go_wp2_with (go_at_call 57; refine halt_here ?_)
  refine go_on ((DSt.int (k := 9) HM9.out rfl).mono ?_)
  rintro e w10 ⟨z, old, rfl, hc10, hf10, HM10⟩
  clear hc9 hf9 HM9
  go_wp2_with fail
  clear hc10 hf10
  generalize (w10.setCell ⟨(w.heap.size + 1), 9, none⟩ (.int .i64 z)) = wg11 at HM10
  have HMg := HM10
  clear HM10
  go_loopw [4] (fun i wr => ∃ k : Nat, i = .int .i64 k ∧ k ≤ 3 ∧ Hid (DSt wA R (w.heap.size + 1) 125 zs objectS st (10 + k) wr)) (fun i _ => 3 - (intOf i).toNat)
  case atStart => exact ⟨0, rfl, by omega, HMg⟩
  case round =>
    rename World => wr11
    clear HMg
    obtain ⟨k, rfl, hk, HM11⟩ := hrel
    by_cases hlt : k < 3
    · go_wp2_with (go_at_call 57; refine halt_here ?_)
      refine go_on ((DSt.int (k := 10 + k) HM11.out (rep_at2 (o := 10) (m := 3) (j := k) rfl hlt)).mono ?_)
      rintro e w9 ⟨z, old, rfl, hc9, hf9, HM9⟩
      clear HM11
      go_wp2_with fail
      clear hc9 hf9
      go_roundw
      case rel => exact ⟨k + 1, by go_num, by omega, HM9⟩
      case measure => simp [intOf]; omega
    · have ek : k = 3 := by omega
      replace HM11 : Hid (DSt wA R (w.heap.size + 1) 125 zs objectS st 13 wr11) := by subst ek; exact HM11
      clear ek hk
      go_wp2_with (go_at_call 57; refine halt_here ?_)
      refine go_on ((DSt.int (k := 13) HM11.out rfl).mono ?_)
      rintro e w12 ⟨z, old, rfl, hc12, hf12, HM12⟩
      clear HM11
      go_wp2_with (go_at_call 57; refine halt_here ?_)
      refine go_on ((DSt.int (k := 14) HM12.out rfl).mono ?_)
      rintro e w13 ⟨z, old, rfl, hc13, hf13, HM13⟩
      clear hc12 hf12 HM12
      go_wp2_with (go_at_call 57; refine halt_here ?_)
      refine go_on ((DSt.int (k := 15) HM13.out rfl).mono ?_)
      rintro e w14 ⟨z, old, rfl, hc14, hf14, HM14⟩
      clear hc13 hf13 HM13
      go_wp2_with (go_at_call 58; refine halt_here ?_)
      refine go_on ((DSt.bool (k := 16) HM14.out rfl).mono ?_)
      rintro e w15 ⟨z, old, rfl, hc15, hf15, HM15⟩
      clear hc14 hf14 HM14
      go_wp2_with (go_at_call 57; refine halt_here ?_)
      refine go_on ((DSt.int (k := 17) HM15.out rfl).mono ?_)
      rintro e w16 ⟨z, old, rfl, hc16, hf16, HM16⟩
      clear hc15 hf15 HM15
      go_wp2_with (go_at_call 57; refine halt_here ?_)
      refine go_on ((DSt.int (k := 18) HM16.out rfl).mono ?_)
      rintro e w17 ⟨z, old, rfl, hc17, hf17, HM17⟩
      clear hc16 hf16 HM16
      go_wp2_with (with_reducible refine wpList_halt_load 125 _ ?_)
      clear hc17 hf17
      obtain ⟨us, HB, HU, HROW, HRD, HK⟩ := HM17.out.done (k := 19) len_objectS
      have HI := Lib.hid (show (Try.prog.info? 125).map (·.size) = some us.size by rw [HU.out]; exact siz125)
      have HONE := Lib.hid (show us.all (·.oneCell') = true by have h := all_oneCell_toArray (row_one HROW.out); simpa using h)
      obtain ⟨Z, HZS, HZC⟩ := HRET.out.kept HR.out.lt HK.out
      generalize (w17.setCell ⟨(w.heap.size + 1), 18, none⟩ (.int .i64 z)) = wz at HB HROW HRD HK HZC
      clear HM17
      refine go_on (wpList_load_row rfl 125 (.tmp 3) rfl (w.heap.size + 1) rfl 125 us (0, 0) _ HB.out Try.underlying125 rfl HI.out ?_)
      go_wp2_with (with_reducible refine wpList_halt_store 125 _ _ ?_)
      refine go_on (wpList_store_row rfl 125 (.tmp 2) (.tmp 63) rfl w.heap.size us rfl rfl 125 Z HZC.out HI.out (by rw [HZS.out, HU.out]; exact len_objectS) HONE.out ?_)
      go_wp2_with fail
      refine bodyPost_ret (results_one rfl rfl (setRow_heap wz _ Z us 125 (0, 0) HZC.out) Try.underlying125 rfl HI.out) rfl ?_
      exact RRead.of rfl HRET.out.grown HRET.out.size HR.out.lt HROW.out HRD.out HK.out
end Go.Proofs.Ytbcpdjhpceimlaa
