/-
  The reference's readers of layer 27: Decode.
-/
import Derived.Test.YtbcpdjhpceimlaaRefDec
import Derived.Laws.Rows
import Derived.Laws.Tables
import Derived.Test.YtbcpdjhpceimlaaRefDec4
namespace Go.Proofs.Ytbcpdjhpceimlaa
open Go.ChangeShapes Go.WideShapes Go.ChangeAt Go.RowKit
set_option linter.unusedVariables false

theorem results_state37 {w : World} {tmps : Array Value} {g : Nat} {cs : Array Value} {e : Value} (hp : tmps.getD 2 undef = .pointer (some ⟨g, 0, none⟩)) (hv : tmps.getD 3 undef = e) (hg : w.heap[g]? = some (.cells cs 30 (0, 0))) (hs : cs.size = 19) :
    (results Try.f37 tmps).run Try.prog w = .ok (.tuple #[.agg cs, e]) w := by
  rw [results_cell_tmp (fn := Try.f37) rfl, hp, hv]
  simp [asAddr, Result.andThen, run_loadVar_row (P := Try.prog) w g 30 30 cs (0, 0) _ hg Try.underlying30 rfl (by rw [hs]; exact size30)]

set_option maxRecDepth 100000 in
set_option maxHeartbeats 4000000 in
theorem RDecode_any (a : Option Addr) (n c : Nat) (bs : Bytes) (w : World) (h : CellsAt w a (bc bs)) (hnil : a = none → n = 0 ∧ c = 0) (hl : bs.length = n) (hb : n ≤ 17592186044415) : Calls Try.prog 37 #[.slice a n c] w (DecPost w bs) := by
  have HB0 := Lib.hid (show Below w.heap.size w (w.alloc (.cells zeroS 30)) from (Below.refl _ _).alloc (Nat.le_refl _) _)
  have HC := Lib.hid (h.below HB0.out)
  have HN := Lib.hid hnil
  have HL := Lib.hid hl
  have HZ0 := Lib.hid (heap_alloc_new w (.cells zeroS 30))
  have HS0 := Lib.hid (show (w.alloc (.cells zeroS 30)).heap.size = w.heap.size + 1 by simp)
  have HBD := Lib.hid hb
  clear h hnil hl hb
  go_enter Try.func37, Try.ntmps37
  go_wp2_with (go_at_call 29; refine halt_here ?_)
  refine go_on ((RNew_any a n c bs (w.alloc (.cells zeroS 30)) HC.out HN.out HL.out (by have := HBD.out; omega)).mono ?_)
  rintro e w1 ⟨R, a2, n2, c2, rfl, hR, hrd, hb1⟩
  have HR := Lib.hid (show w.heap.size + 1 ≤ R by have := HS0.out; omega)
  have HZ1 := Lib.hid (show w1.heap[w.heap.size]? = some (.cells zeroS 30 (0, 0)) by rw [hb1.block _ (blk_lt HZ0.out)]; exact HZ0.out)
  have HB1 := Lib.hid (HB0.out.trans (hb1.mono HB0.out.size))
  have HRD := Lib.hid (show RDec w1 R (.ok bs) from ⟨bs, 0, a2, n2, c2, hrd, stR_ok bs⟩)
  have HSM := Lib.hid (show Small (.ok bs) from fun b hb => by cases hb; have := HL.out; have := HBD.out; omega)
  clear hR hrd hb1 HZ0 HB0 HC HN HS0
  go_wp2_with (go_at_call 70; refine halt_here ?_)
  refine go_on ((rstate_r R (.ok bs) w1 HRD.out HSM.out).mono ?_)
  rintro e w2 ⟨us, rfl, hrow, hrd2, hg2⟩
  have hal : w2.grownBy (w2.alloc (.cells us.toArray 30)) none := World.grownBy_alloc _ _ _
  have HRlt := Lib.hid HRD.out.lt
  have HZ3 := Lib.hid (show (w2.alloc (.cells us.toArray 30)).heap[w.heap.size]? = some (.cells zeroS 30 (0, 0)) by
    have h0 := blk_lt HZ1.out
    rw [hal.block _ (Nat.lt_of_lt_of_le h0 hg2.size) (by simp), hg2.block _ h0 (fun e => by injection e with e; have := HR.out; omega)]
    exact HZ1.out)
  have HB3 := Lib.hid (show Below w.heap.size w (w2.alloc (.cells us.toArray 30)) from (HB1.out.grown hg2 HB1.out.size (fun k hk => by injection hk with hk; have := HR.out; omega)).grown hal (Nat.le_trans HB1.out.size hg2.size) (fun k hk => by cases hk))
  have HROW := Lib.hid (hrow.mono (A' := fun k => w1.heap.size ≤ k) (w' := w2.alloc (.cells us.toArray 30)) (fun _ h => h) hal.size (fun k _ hk => hal.block k hk (by simp)))
  have HX3 := Lib.hid (heap_alloc_new w2 (.cells us.toArray 30))
  have HUS := Lib.hid (show us.toArray.size = 19 by rw [List.size_toArray, hrow.2.1]; exact len_stateS)
  have HI := Lib.hid (show (Try.prog.info? 30).map (·.size) = some us.toArray.size by rw [HUS.out]; exact size30)
  have HONE := Lib.hid (all_oneCell_toArray (row_one hrow))
  have HRD3 := Lib.hid (hrd2.keep (w' := w2.alloc (.cells us.toArray 30)) (fun j hj => hal.block j (by have := hrd2.lt; omega) (by simp)))
  have HSZ := Lib.hid (show w1.heap.size ≤ w2.heap.size from hg2.size)
  clear hal hrow hrd2 hg2 HZ1 HRD
  go_wp2_with (with_reducible refine wpList_halt_store 30 _ _ ?_)
  refine go_on (wpList_store_new rfl 30 (.tmp 5) (.tmp 9) rfl _ us.toArray rfl rfl HI.out (by rw [HUS.out]; rfl) HONE.out ?_)
  generalize w2.alloc (.cells us.toArray 30) = w3 at HZ3 HB3 HROW HX3 HRD3
  obtain ⟨X, hX⟩ : ∃ X, w2.heap.size = X := ⟨_, rfl⟩
  rw [hX] at HX3 HSZ
  rw [hX]
  clear hX
  have HXne := Lib.hid (show X ≠ w.heap.size by have := HSZ.out; have := HRlt.out; have := HR.out; omega)
  obtain ⟨bs4, e4, a4, n4, c4, hrd4, hst4⟩ := HRD3.out
  have HRD4 := Lib.hid hrd4
  have HST4 := Lib.hid hst4
  clear hrd4 hst4 HRD3
  by_cases he : e4 = 0
  · subst he
    have HER := Lib.hid (show (rdRow stateS (.ok bs)).2 = .ok bs4 by rw [← HST4.out, stR_ok])
    have HLL := Lib.hid (show leftS (stR bs4 0) = bs4.length by rw [stR_ok]; rfl)
    go_wp2_with (go_at_call 63; refine halt_here ?_)
    refine go_on ((RErr_any R bs4 0 a4 n4 c4 w3 HRD4.out).mono ?_)
    rintro x w4 ⟨rfl, rfl⟩
    go_wp2_with (go_at_call 62; refine halt_here ?_)
    refine go_on ((RLeft_any R bs4 0 a4 n4 c4 w3 HRD4.out).mono ?_)
    rw [HLL.out]
    rintro x w5 ⟨rfl, rfl⟩
    clear HRD4 HST4 HLL
    cases bs4 with
    | nil =>
      go_wp2_with (first | (refine wpList_load_row rfl 30 (.tmp 5) rfl X rfl 30 us.toArray (0, 0) _ HX3.out Try.underlying30 rfl HI.out ?_) | (refine wpList_store_rowTo rfl 30 (.tmp 2) (.tmp 20) rfl rfl w.heap.size us.toArray rfl rfl 30 zeroS HZ3.out HI.out (by rw [HUS.out]; rfl) HONE.out ?_))
      refine bodyPost_ret (results_state37 rfl rfl (setRow_heap w3 _ zeroS us.toArray 30 (0, 0) HZ3.out) HUS.out) rfl ?_
      refine ⟨HB3.out.trans (below_setRow w3 _ us.toArray), ?_⟩
      rw [HER.out]
      simp only [if_true]
      exact ⟨us, rfl, HROW.out.mono (fun k hk => by have := HB1.out.size; omega) (by simp [World.setRow]) (fun k hk _ => setRow_other _ _ _ _ (by have := HR.out; have := HRlt.out; omega))⟩
    | cons x t =>
      have q1 : decide ((0 : Int) < ((x :: t).length : Int)) = true := by simp
      have q2 : decide (0 < (x :: t).length) = true := by simp
      go_wp2_with (refine wpList_store_rowTo rfl 30 (.tmp 2) (.tmp 19) rfl rfl w.heap.size zeroS rfl rfl 30 zeroS HZ3.out size_zeroS rfl one_zeroS ?_)
      refine bodyPost_ret (results_state37 rfl rfl (setRow_heap w3 _ zeroS zeroS 30 (0, 0) HZ3.out) (by decide)) rfl ?_
      exact ⟨HB3.out.trans (below_setRow w3 _ zeroS), by rw [HER.out]; simp⟩
  · have p1 : ((e4 : Int) == 0) = false := by simp; omega
    have HER := Lib.hid (show (rdRow stateS (.ok bs)).2 = .error e4 by rw [← HST4.out, stR_er _ _ he])
    clear he
    go_wp2_with (go_at_call 63; refine halt_here ?_)
    refine go_on ((RErr_any R bs4 e4 a4 n4 c4 w3 HRD4.out).mono ?_)
    rintro x w4 ⟨rfl, rfl⟩
    go_wp2_with (go_at_call 63; refine halt_here ?_)
    refine go_on ((RErr_any R bs4 e4 a4 n4 c4 w3 HRD4.out).mono ?_)
    rintro x w4 ⟨rfl, rfl⟩
    go_wp2_with (refine wpList_store_rowTo rfl 30 (.tmp 2) (.tmp 13) rfl rfl w.heap.size zeroS rfl rfl 30 zeroS HZ3.out size_zeroS rfl one_zeroS ?_)
    refine bodyPost_ret (results_state37 rfl rfl (setRow_heap w3 _ zeroS zeroS 30 (0, 0) HZ3.out) (by decide)) rfl ?_
    exact ⟨HB3.out.trans (below_setRow w3 _ zeroS), by rw [HER.out]; rfl⟩
end Go.Proofs.Ytbcpdjhpceimlaa
