/-
  Encode and Decode of layer 27.
-/
import Derived.Test.YtbcpdjhpceimlaaState
import Derived.Laws.ResultCell
namespace Go.Proofs.Ytbcpdjhpceimlaa
open Go.ChangeShapes Go.WideShapes Go.ChangeAt Go.RowKit
set_option linter.unusedVariables false

theorem len_stateS : (stateS : List Fld).length = 19 := by decide

/-- What Encode leaves. -/
def EncPost (w : World) (bs : Bytes) (e : Ending) (w' : World) : Prop := ∃ a n c, e = .returned (.slice a n c) ∧ CellsAt w' a (bc bs) ∧ bs.length = n ∧ (a = none → n = 0 ∧ c = 0) ∧ n ≤ c ∧ Below w.heap.size w w'

set_option maxRecDepth 100000 in
set_option maxHeartbeats 2000000 in
theorem Encode_any (cs : Array Value) (v : List V) (w : World) (h : RowRep (Old w) w stateS v cs.toList) (hb : (encRow v).length ≤ 140737488355000) :
    Calls Try.prog 16 #[.agg cs] w (EncPost w (encRow v)) := by
  have hsz : cs.size = 19 := by have := h.2.1; rw [len_stateS] at this; simpa using this
  have hvl : v.length = 19 := by have := h.1; rw [len_stateS] at this; exact this
  have hg1 : w.grownBy (w.alloc (.cells cs 30)) none := World.grownBy_alloc _ _ _
  have hg2 : (w.alloc (.cells cs 30)).grownBy ((w.alloc (.cells cs 30)).alloc (.cells #[.slice none 0 0, .pointer none] 104)) none := World.grownBy_alloc _ _ _
  have HG := Lib.hid (hg1.trans hg2)
  have hs1 : (w.alloc (.cells cs 30)).heap.size = w.heap.size + 1 := by simp
  have HC := Lib.hid (show ((w.alloc (.cells cs 30)).alloc (.cells #[.slice none 0 0, .pointer none] 104)).heap[w.heap.size + 1]? = some (.cells #[.slice none 0 0, .pointer none] 104 (0, 0)) from heap_alloc2_new w _ _)
  have HBK := Lib.hid (show ((w.alloc (.cells cs 30)).alloc (.cells #[.slice none 0 0, .pointer none] 104)).heap[w.heap.size]? = some (.cells cs 30 (0, 0)) from heap_alloc2_old w _ _)
  have HPRE := Lib.hid (show Pre (w.heap.size + 1) w.heap.size (.enc [] (fun j => v.getD j (.i 0))) stateS 0 ((w.alloc (.cells cs 30)).alloc (.cells #[.slice none 0 0, .pointer none] 104)) by
    refine ⟨⟨none, 0, 0, HC.out, CellsAt.nil _ _, rfl, fun _ => ⟨rfl, rfl⟩, Nat.le_refl _⟩, by omega, fun j q hj => ?_, ?_⟩
    · have hjl : j < (stateS : List Fld).length := (List.getElem?_eq_some_iff.1 hj).1
      have hjn : j < 19 := by rw [← len_stateS]; exact hjl
      have hcj : cs.toList[j]? = some (cs.toList[j]'(by simp; omega)) := List.getElem?_eq_getElem _
      refine ⟨cs.toList[j]'(by simp; omega), ?_, ?_⟩
      · rw [Nat.zero_add, blk_cell HBK.out, ← Array.getElem?_toList]
        exact hcj
      · have h1 := h.2.2 j q (v[j]'(by omega)) _ hj (List.getElem?_eq_getElem _) hcj
        have h2 : v.getD (0 + j) (.i 0) = v[j]'(by omega) := by rw [Nat.zero_add, List.getD_eq_getElem?_getD, List.getElem?_eq_getElem (by omega)]; rfl
        show Rep _ _ _ (v.getD (0 + j) (.i 0)) _
        rw [h2]
        exact h1.mono (fun i hi e => by have : i < w.heap.size := hi; omega) HG.out.size (fun i hi _ => HG.out.block i hi (by simp))
    · have h1 : vals (fun j => v.getD j (.i 0)) 0 (stateS : List Fld).length = v := by rw [len_stateS, ← hvl]; exact vals_getD v _
      rw [h1]
      simpa using hb)
  have HV := Lib.hid (show vals (fun j => v.getD j (.i 0)) 0 (stateS : List Fld).length = v by rw [len_stateS, ← hvl]; exact vals_getD v _)
  clear hg1 hg2 h hb hvl hsz hs1
  go_enter Try.func16, Try.ntmps16
  go_wp2_with (go_at_call 41; refine halt_here ?_)
  refine go_on ((state_coder (w.heap.size + 1) w.heap.size 0 _ _ HPRE.out).mono ?_)
  rintro e w2 ⟨rfl, hp⟩
  obtain ⟨a, n, c, h1, h2, h3, h4, h5⟩ := hp.1
  have HCAP := Lib.hid h5
  have hgg := hp.2
  rw [HV.out, List.nil_append] at h2 h3
  have e0 : w2.cell? ⟨w.heap.size + 1, 0, none⟩ = some (.slice a n c) := by rw [blk_cell h1]; rfl
  have HR := Lib.hid h2
  have HL := Lib.hid h3
  have HN := Lib.hid h4
  have HB := Lib.hid (show Below w.heap.size w w2 from (grown_below HG.out).grown hgg HG.out.size (fun k hk => by cases hk; omega))
  clear hp h1 h2 h3 h4 h5 hgg
  go_wp2_with fail
  go_ret
  exact ⟨a, n, c, rfl, HR.out, HL.out, HN.out, HCAP.out, HB.out⟩

theorem size30 : (Try.prog.info? 30).map (·.size) = some 19 := by kernel_rfl

theorem results_state {w : World} {tmps : Array Value} {g : Nat} {cs : Array Value} {e : Value} (hp : tmps.getD 2 undef = .pointer (some ⟨g, 0, none⟩)) (hv : tmps.getD 3 undef = e) (hg : w.heap[g]? = some (.cells cs 30 (0, 0))) (hs : cs.size = 19) :
    (results Try.f17 tmps).run Try.prog w = .ok (.tuple #[.agg cs, e]) w := by
  rw [results_cell_tmp (fn := Try.f17) rfl, hp, hv]
  simp [asAddr, Result.andThen, run_loadVar_row (P := Try.prog) w g 30 30 cs (0, 0) _ hg Try.underlying30 rfl (by rw [hs]; exact size30)]

/-- A state's zero cells. -/
def zeroS : Array Value := #[.slice none 0 0, .slice none 0 0, .slice none 0 0, .slice none 0 0, .slice none 0 0, .slice none 0 0, .slice none 0 0, .int .i64 0, .int .i64 0, .int .i64 0, .bool false, .int .i64 0, .int .i64 0, .int .i64 0, .int .i64 0, .int .u64 0, .slice none 0 0, .int .i64 0, .int .i64 0]

theorem below_setRow (w : World) (g : Nat) (cs : Array Value) : Below g w (w.setRow g cs) :=
  ⟨rfl, rfl, rfl, by simp [World.setRow], fun k hk => setRow_other _ _ _ _ (by omega)⟩

theorem below_kept {B : Nat} {w0 w w' : World} (h : Below B w0 w) {W : Nat → Prop} (hB : B ≤ w.heap.size) (hk : Kept w w' W) (hW : ∀ k, W k → B ≤ k) : Below B w0 w' :=
  ⟨hk.os.trans h.os, hk.tape.trans h.tape, hk.output.trans h.output, Nat.le_trans h.size hk.size, fun k hlt => (hk.block k (by omega) (fun e => by have := hW k e; omega)).trans (h.block k hlt)⟩

theorem size_zeroS : (Try.prog.info? 30).map (·.size) = some zeroS.size := by kernel_rfl
theorem one_zeroS : zeroS.all (·.oneCell') = true := by kernel_rfl

/-- What Decode leaves: the state, or the error. -/
def DecPost (w : World) (bs : Bytes) (e : Ending) (w' : World) : Prop := Below w.heap.size w w' ∧
  match (rdRow stateS (.ok bs)).2 with
  | .error c => e = .returned (.tuple #[.agg zeroS, .int .i64 (c : Int)])
  | .ok r => if r = [] then ∃ us : List Value, e = .returned (.tuple #[.agg us.toArray, .int .i64 0]) ∧ RowRep (fun k => w.heap.size ≤ k) w' stateS (rdRow stateS (.ok bs)).1 us else e = .returned (.tuple #[.agg zeroS, .int .i64 5])

set_option maxRecDepth 100000 in
set_option maxHeartbeats 4000000 in
theorem Decode_any (a : Option Addr) (n c : Nat) (bs : Bytes) (w : World) (h : CellsAt w a (bc bs)) (hnil : a = none → n = 0 ∧ c = 0) (hl : bs.length = n) (hb : n ≤ 17592186044415) : Calls Try.prog 17 #[.slice a n c] w (DecPost w bs) := by
  have H := Lib.hid h
  have HN := Lib.hid hnil
  have HL := Lib.hid hl
  clear h hnil hl
  have hbA : Below w.heap.size w (w.alloc (.cells zeroS 30)) := (Below.refl _ _).alloc (Nat.le_refl _) _
  have HBA := Lib.hid hbA
  have HZA := Lib.hid (heap_alloc_new w (.cells zeroS 30))
  have hsA : (w.alloc (.cells zeroS 30)).heap.size = w.heap.size + 1 := by simp
  have HSA := Lib.hid hsA
  clear hbA hsA
  go_enter Try.func17, Try.ntmps17
  go_wp2_with (go_at_call 18; refine halt_here ?_)
  refine go_on ((New_any a n c bs (w.alloc (.cells zeroS 30)) (H.out.below HBA.out) HN.out HL.out (by omega)).mono ?_)
  rintro e w1 ⟨R, a2, c2, rfl, hR, hrd, hb1⟩
  have HR := Lib.hid (show w.heap.size + 1 ≤ R by have := HSA.out; omega)
  have HRD := Lib.hid hrd
  have HB1 := Lib.hid (HBA.out.trans (hb1.mono HBA.out.size))
  have HZ1 := Lib.hid (show w1.heap[w.heap.size]? = some (.cells zeroS 30 (0, 0)) by rw [hb1.block _ (blk_lt HZA.out)]; exact HZA.out)
  clear hR hrd hb1
  have hg1 : w1.grownBy (w1.alloc (.cells #[.slice none 0 0, .pointer (some ⟨R, 0, none⟩)] 104)) none := World.grownBy_alloc _ _ _
  have hg2 : (w1.alloc (.cells #[.slice none 0 0, .pointer (some ⟨R, 0, none⟩)] 104)).grownBy ((w1.alloc (.cells #[.slice none 0 0, .pointer (some ⟨R, 0, none⟩)] 104)).alloc (.cells zeroS 30)) none := World.grownBy_alloc _ _ _
  have HG := Lib.hid (hg1.trans hg2)
  have HCC := Lib.hid (heap_alloc2_old w1 (.cells #[.slice none 0 0, .pointer (some ⟨R, 0, none⟩)] 104) (.cells zeroS 30))
  have HBB := Lib.hid (heap_alloc2_new w1 (.cells #[.slice none 0 0, .pointer (some ⟨R, 0, none⟩)] 104) (.cells zeroS 30))
  have HPRE := Lib.hid (show Pre w1.heap.size (w1.heap.size + 1) (.dec R (.ok bs)) stateS 0 ((w1.alloc (.cells #[.slice none 0 0, .pointer (some ⟨R, 0, none⟩)] 104)).alloc (.cells zeroS 30)) from
    ⟨⟨⟨_, HCC.out⟩, a2, n, c2, bs, 0, 0, HRD.out.other HG.out (fun k hk => by cases hk), by rw [stOf_ok, List.drop_zero], hb⟩, by omega, by have := blk_lt HRD.out.blk; omega, zeroS, 30, HBB.out, by decide⟩)
  clear hg1 hg2
  go_wp2_with (go_at_call 41; refine halt_here ?_)
  refine go_on ((state_coder w1.heap.size (w1.heap.size + 1) 0 _ _ HPRE.out).mono ?_)
  rintro e w3 ⟨rfl, hp⟩
  obtain ⟨hd3, -, -, hk3, us, hrow, hX⟩ := hp
  have hX3 := hX _ _ HBB.out
  have hus : us.length = 19 := by rw [hrow.2.1]; exact len_stateS
  rw [splice_all (by rw [hus]; rfl)] at hX3
  have HZ3 := Lib.hid (show w3.heap[w.heap.size]? = some (.cells zeroS 30 (0, 0)) by
    have h0 : w.heap.size < w1.heap.size := blk_lt HZ1.out
    rw [hk3.block _ (Nat.lt_of_lt_of_le h0 HG.out.size) (fun e => by have := HR.out; rcases e with e | e <;> omega), HG.out.block _ h0 (by simp)]
    exact HZ1.out)
  have HB3 := Lib.hid (show Below w.heap.size w w3 from below_kept (HB1.out.grown HG.out HB1.out.size (fun k hk => by cases hk)) (Nat.le_trans HB1.out.size HG.out.size) hk3 (fun k hk => by have := HR.out; have := HB1.out.size; rcases hk with h | h <;> omega))
  have HROW := Lib.hid (hrow.mono (A' := fun k => w1.heap.size ≤ k) (fun k hk => Nat.le_trans HG.out.size hk) (Nat.le_refl _) (fun _ _ _ => rfl))
  have HX3 := Lib.hid hX3
  have HUS := Lib.hid (show us.toArray.size = 19 by rw [List.size_toArray, hus])
  obtain ⟨⟨oC, hC⟩, a4, n4, c4, bs4, at4, e4, hrd4, hst4, hn4⟩ := hd3
  have e1 : w3.cell? ⟨w1.heap.size, 1, none⟩ = some (.pointer (some ⟨R, 0, none⟩)) := by rw [blk_cell hC]; rfl
  have HRD4 := Lib.hid hrd4
  have HCD := Lib.hid hC
  have HST4 := Lib.hid hst4
  have HONE := Lib.hid (all_oneCell_toArray (row_one hrow))
  clear hk3 hrow hX hX3 hus hC hrd4 hst4 hn4
  by_cases he : e4 = 0
  · subst he
    have HER := Lib.hid (show (rdRow stateS (.ok bs)).2 = .ok (bs4.drop at4) by rw [← HST4.out, stOf_ok])
    have HRC := Lib.hid (coder_ne HCD.out HRD4.out)
    have hll : leftS (stOf bs4 at4 0) = (bs4.drop at4).length := rfl
    have HLL := Lib.hid hll
    have hlb : (bs4.drop at4).length ≤ 140737488355328 := by have h1 := HRD4.out.len; have h2 := HRD4.out.bd; simp; omega
    generalize hr : bs4.drop at4 = r at HER HLL hlb
    clear hll hr
    go_wp2_with (go_at_call 21; refine halt_here ?_)
    refine go_on ((Err_any R a4 n4 c4 bs4 at4 0 w3 HRD4.out).mono ?_)
    rintro x w4 ⟨rfl, rfl⟩
    go_wp2_with (go_at_call 23; refine halt_here ?_)
    refine go_on ((Left_any R a4 n4 c4 bs4 at4 0 w3 HRD4.out).mono ?_)
    rw [HLL.out]
    rintro x w5 ⟨rfl, hg5, -⟩
    have HZ5 := Lib.hid (show w5.heap[w.heap.size]? = some (.cells zeroS 30 (0, 0)) by rw [hg5.block _ (blk_lt HZ3.out) (fun e => by injection e with e; have := HR.out; omega)]; exact HZ3.out)
    have HX5 := Lib.hid (show w5.heap[w1.heap.size + 1]? = some (.cells us.toArray 30 (0, 0)) by rw [hg5.block _ (blk_lt HX3.out) (fun e => by injection e with e; have := blk_lt HRD.out.blk; omega)]; exact HX3.out)
    have HB5 := Lib.hid (HB3.out.grown hg5 HB3.out.size (fun k hk => by cases hk; have := HR.out; omega))
    have HROW5 := Lib.hid (HROW.out.mono (A' := fun k => w1.heap.size ≤ k) (w' := w5) (fun _ h => h) hg5.size (fun k hk hlt => hg5.block k hlt (fun e => by injection e with e; have := blk_lt HRD.out.blk; omega)))
    clear hg5
    cases r with
    | nil =>
      have HI := Lib.hid (show (Try.prog.info? 30).map (·.size) = some us.toArray.size by rw [HUS.out]; exact size30)
      go_wp2_with (first | (refine wpList_load_row rfl 30 (.tmp 5) rfl (w1.heap.size + 1) rfl 30 us.toArray (0, 0) _ HX5.out Try.underlying30 rfl HI.out ?_) | (refine wpList_store_rowTo rfl 30 (.tmp 2) (.tmp 29) rfl rfl w.heap.size us.toArray rfl rfl 30 zeroS HZ5.out HI.out (by rw [HUS.out]; rfl) HONE.out ?_))
      refine bodyPost_ret (results_state rfl rfl (setRow_heap w5 _ zeroS us.toArray 30 (0, 0) HZ5.out) HUS.out) rfl ?_
      refine ⟨HB5.out.trans (below_setRow w5 _ us.toArray), ?_⟩
      rw [HER.out]
      simp only [if_true]
      exact ⟨us, rfl, HROW5.out.mono (fun k hk => by have := HB1.out.size; omega) (by simp [World.setRow]) (fun k hk _ => setRow_other _ _ _ _ (by have := blk_lt HZ1.out; omega))⟩
    | cons x t =>
      have q1 : decide ((0 : Int) < ((x :: t).length : Int)) = true := by simp
      have q2 : decide (0 < (x :: t).length) = true := by simp
      go_wp2_with (refine wpList_store_rowTo rfl 30 (.tmp 2) (.tmp 28) rfl rfl w.heap.size zeroS rfl rfl 30 zeroS HZ5.out size_zeroS rfl one_zeroS ?_)
      refine bodyPost_ret (results_state rfl rfl (setRow_heap w5 _ zeroS zeroS 30 (0, 0) HZ5.out) (by decide)) rfl ?_
      exact ⟨HB5.out.trans (below_setRow w5 _ zeroS), by rw [HER.out]; simp⟩
  · have p1 : ((e4 : Int) == 0) = false := by simp; omega
    have HER := Lib.hid (show (rdRow stateS (.ok bs)).2 = .error e4 by rw [← HST4.out, stOf_er _ _ _ he])
    clear he
    go_wp2_with (go_at_call 21; refine halt_here ?_)
    refine go_on ((Err_any R a4 n4 c4 bs4 at4 e4 w3 HRD4.out).mono ?_)
    rintro x w4 ⟨rfl, rfl⟩
    go_wp2_with (refine wpList_store_rowTo rfl 30 (.tmp 2) (.tmp 20) rfl rfl w.heap.size zeroS rfl rfl 30 zeroS HZ3.out size_zeroS rfl one_zeroS ?_)
    refine bodyPost_ret (results_state rfl rfl (setRow_heap w3 _ zeroS zeroS 30 (0, 0) HZ3.out) (by decide)) rfl ?_
    exact ⟨HB3.out.trans (below_setRow w3 _ zeroS), by rw [HER.out]; rfl⟩
end Go.Proofs.Ytbcpdjhpceimlaa
