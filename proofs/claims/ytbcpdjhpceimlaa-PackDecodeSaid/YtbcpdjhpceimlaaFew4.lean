/-
  The laws' own test that a state is small: a state.
-/
import Derived.Test.YtbcpdjhpceimlaaFew3
namespace Go.Proofs.Ytbcpdjhpceimlaa
open Go.ChangeShapes Go.WideShapes Go.ChangeAt Go.RowKit
set_option linter.unusedVariables false

theorem fewRow_at {N L : Nat} : ∀ (s : List Fld) (r : List V), fewRow N L s r → ∀ (j : Nat) (q : Fld) (x : V), s[j]? = some q → r[j]? = some x → fewV N L q x
  | [], _, _, j, q, x, h1, _ => by simp at h1
  | q :: s, [], h, j, q', x, h1, h2 => by simp at h2
  | q :: s, v :: r, h, 0, q', x, h1, h2 => by simp at h1 h2; subst h1 h2; exact (show fewV N L q v ∧ fewRow N L s r from h).1
  | q :: s, v :: r, h, j + 1, q', x, h1, h2 => fewRow_at s r (show fewV N L q v ∧ fewRow N L s r from h).2 j q' x (by simpa using h1) (by simpa using h2)

theorem sub_get {α : Type} (l : List α) (o m j : Nat) (hj : j < m) : ((l.drop o).take m)[j]? = l[o + j]? := by
  rw [List.getElem?_take, if_pos hj, List.getElem?_drop]

/-- A part of a row is few: so is what stands at its places. -/
theorem place_sub {N L : Nat} {s t : List Fld} {r : List V} {o m p : Nat} (hs : (s.drop o).take m = t) (hm : t.length = m) (h : fewRow N L t ((r.drop o).take m)) (h1 : o ≤ p) (h2 : p < o + m) : PlaceOk N L s r p := by
  intro q x hq hx
  refine fewRow_at t _ h (p - o) q x ?_ ?_
  · rw [← hs, sub_get _ _ _ _ (by omega), show o + (p - o) = p by omega]; exact hq
  · rw [sub_get _ _ _ _ (by omega), show o + (p - o) = p by omega]; exact hx

theorem sub_rep {A : Nat → Prop} {w : World} {s t : List Fld} {r : List V} {f : Nat → Value} {o m : Nat} (hs : (s.drop o).take m = t) (hm : t.length = m) (hl : r.length = s.length) (hr : ∀ (j : Nat) (q : Fld) (x : V), s[j]? = some q → r[j]? = some x → Rep A w q x (f j)) :
    ((r.drop o).take m).length = t.length ∧ ∀ (j : Nat) (q : Fld) (x : V), t[j]? = some q → ((r.drop o).take m)[j]? = some x → Rep A w q x ((fun j => f (o + j)) j) := by
  constructor
  · have := congrArg List.length hs
    simp only [List.length_take, List.length_drop] at this ⊢
    omega
  · intro j q x h1 h2
    have hj : j < m := by rw [← hm]; exact (List.getElem?_eq_some_iff.1 h1).1
    refine hr (o + j) q x ?_ ?_
    · rw [← sub_get s o m j hj, hs]; exact h1
    · rw [← sub_get r o m j hj]; exact h2

/-- Rows of simple fields are few. -/
theorem few_rows_simple {A : Nat → Prop} {w : World} {N : Nat} {s : List Fld} {x : V} {a : Option Addr} {n c : Nat} (h : Rep A w (.e s) x (.slice a n c)) (hp : places s = []) (hn : n ≤ 100) : fewV N 100 (.e s) x := by
  obtain ⟨rows, f, rfl, hrl, -, -, hrs, -, -, hrp⟩ := vals_open h
  refine ⟨by omega, fewRows_iff rows (fun i r hr => ?_)⟩
  exact few_of_places (hrs r (List.mem_of_getElem? hr)) (fun j q x h1 h2 => hrp i j r q x hr h1 h2) hp (fun p hp => by cases hp)

theorem wpList_want {P : Program} {ops : Array Oper} {rest : List Oper} {o : Oper} {a : Act} {w : World} {Q : Exit → Act → World → Prop} (hg : Region.wanted o (yielded ops a.tmps) = true)
    (h : ∀ K : Act → World → Prop, (∀ a w, wpList P ops Q rest a w → K a w) → o.wp P a w K Q) : wpList P ops Q (o :: rest) a w :=
  wpList_step fun K hK => by simp only [hg, if_true]; exact h K hK
theorem wpList_load_want {P : Program} {ops : Array Oper} {rest : List Oper} {op : Oper} {a : Act} {w : World} {Q : Exit → Act → World → Prop} (hg : Region.wanted op (yielded ops a.tmps) = true) (ty : TypeId) (x : Operand) (ho : op.op = .load ty x)
    (b o : Nat) (hx : a.eval x = .pointer (some ⟨b, o, none⟩)) (cs : List Value) (d : TypeDesc) (hc : w.rangeAt b o cs)
    (hu : P.underlying ty = some d) (hd : d.isRow = true) (hi : (P.info? ty).map (·.size) = some cs.length)
    (h : wpList P ops Q rest (a.put op.dst (.agg cs.toArray)) w) : wpList P ops Q (op :: rest) a w :=
  wpList_want hg fun _ hK => wp_load_mid ty x ho b o hx cs d hc hu hd hi (hK _ _ h)

/-- The walk stops at a load of a struct. -/
theorem wpList_halt_load {P : Program} {ops : Array Oper} {rest : List Oper} {dst : Option Tmp} {type : TypeId} {pos : String} {after : Array Edge} {guard : Option (Nat × Bool)} {a : Act} {w : World} {Q : Exit → Act → World → Prop} (ty : TypeId) (x : Operand)
    (h : Stopped (wpList P ops Q ({ dst, op := .load ty x, type, pos, after, guard } :: rest) a w)) : wpList P ops Q ({ dst, op := .load ty x, type, pos, after, guard } :: rest) a w := h

theorem len_stateS' : (stateS : List Fld).length = 19 := by decide
theorem size91 : (Try.prog.info? 91).map (·.size) = some 72 := by kernel_rfl
theorem sub_item : ((itemS : List Fld).drop 6).take 72 = abilityS := by rfl
theorem sub_waiting : ((waitingS : List Fld).drop 2).take 72 = abilityS := by rfl

set_option maxRecDepth 100000 in
set_option maxHeartbeats 8000000 in
theorem few_any (N : Nat) (cs : Array Value) (v : List V) (w : World) (hN : N ≤ 100) (h : RowRep (Old w) w stateS v cs.toList) :
    Calls Try.prog 14 #[.agg cs, .int .i64 (N : Int)] w (FewRowAns N stateS v w) := by
  have hsz : cs.size = 19 := by have := h.2.1; rw [len_stateS'] at this; simpa using this
  have hl := h.1
  have hr := row_f h
  have hbk : (w.alloc (.cells cs 30)).heap[w.heap.size]? = some (.cells cs 30 (0, 0)) := heap_alloc_new w _
  have hb1 : Below w.heap.size w (w.alloc (.cells cs 30)) := (Below.refl _ _).alloc (Nat.le_refl _) _
  obtain ⟨apl, npl, cpl, xpl, hf0, hm0, hrpl, P0⟩ := row_e hl hr (j := 0) rfl
  obtain ⟨aob, nob, cob, xob, hf1, hm1, hrob, P1⟩ := row_e hl hr (j := 1) rfl
  obtain ⟨ast, nst, cst, xst, hf4, hm4, hrst, P4⟩ := row_e hl hr (j := 4) rfl
  obtain ⟨awa, nwa, cwa, xwa, hf5, hm5, hrwa, P5⟩ := row_e hl hr (j := 5) rfl
  obtain ⟨aco, nco, cco, xco, hf6, hm6, hrco, P6⟩ := row_e hl hr (j := 6) rfl
  obtain ⟨abf, nbf, cbf, hf2, hm2, P2⟩ := row_l hl hr (j := 2) rfl
  obtain ⟨axl, nxl, cxl, hf3, hm3, P3⟩ := row_l hl hr (j := 3) rfl
  obtain ⟨axt, nxt, cxt, hf16, hm16, P16⟩ := row_l hl hr (j := 16) rfl
  have HOB := Lib.hid (fun h => few_rows_simple (N := N) hrob (by decide) h)
  have HP := Lib.hid (show fewV N 100 (.e playerS) xpl → fewV N 100 (.e objectS) xob → nbf ≤ 100 → nxl ≤ 100 → fewV N 100 (.e itemS) xst → fewV N 100 (.e waitingS) xwa → fewV N 100 (.e contS) xco → nxt ≤ 100 → fewRow N 100 stateS v from fun h0 h1 h2 h3 h4 h5 h6 h7 =>
    few_of_places hl hr (ps := [0, 1, 2, 3, 4, 5, 6, 16]) (by decide) (fun p hp => by
      simp at hp
      rcases hp with rfl | rfl | rfl | rfl | rfl | rfl | rfl | rfl
      · exact P0 N 100 h0
      · exact P1 N 100 h1
      · exact P2 N 100 h2
      · exact P3 N 100 h3
      · exact P4 N 100 h4
      · exact P5 N 100 h5
      · exact P6 N 100 h6
      · exact P16 N 100 h7))
  have hf0' := blk_f hbk hf0 (by omega)
  have hf1' := blk_f hbk hf1 (by omega)
  have hf2' := blk_f hbk hf2 (by omega)
  have hf3' := blk_f hbk hf3 (by omega)
  have hf4' := blk_f hbk hf4 (by omega)
  have hf5' := blk_f hbk hf5 (by omega)
  have hf6' := blk_f hbk hf6 (by omega)
  have hf16' := blk_f hbk hf16 (by omega)
  obtain ⟨rpl, fpl, rfl, hlpl, -, -, hspl, -, hcpl, hppl⟩ := vals_open hrpl
  have HLPL := Lib.hid hlpl
  have HSPL := Lib.hid hspl
  have HCPL := Lib.hid hcpl
  have HRPL := Lib.hid hppl
  obtain ⟨rst, fst, rfl, hlst, -, -, hsst, -, hcst, hpst⟩ := vals_open hrst
  have HLST := Lib.hid hlst
  have HSST := Lib.hid hsst
  have HCST := Lib.hid hcst
  have HRST := Lib.hid hpst
  obtain ⟨rwa, fwa, rfl, hlwa, -, -, hswa, -, hcwa, hpwa⟩ := vals_open hrwa
  have HLWA := Lib.hid hlwa
  have HSWA := Lib.hid hswa
  have HCWA := Lib.hid hcwa
  have HRWA := Lib.hid hpwa
  obtain ⟨rco, fco, rfl, hlco, -, -, hsco, -, hcco, hpco⟩ := vals_open hrco
  have HLCO := Lib.hid hlco
  have HSCO := Lib.hid hsco
  have HCCO := Lib.hid hcco
  have HRCO := Lib.hid hpco
  unfold maxLen at hm0 hm1 hm2 hm3 hm4 hm5 hm6 hm16
  have hn0 : npl ≤ 9223372036854775807 := by omega
  have hn1 : nob ≤ 9223372036854775807 := by omega
  have hn2 : nbf ≤ 9223372036854775807 := by omega
  have hn3 : nxl ≤ 9223372036854775807 := by omega
  have hn4 : nst ≤ 9223372036854775807 := by omega
  have hn5 : nwa ≤ 9223372036854775807 := by omega
  have hn6 : nco ≤ 9223372036854775807 := by omega
  have hn16 : nxt ≤ 9223372036854775807 := by omega
  have HB1 := Lib.hid hb1
  have HBK := Lib.hid hbk
  have HG := Lib.hid (show w.heap.size < (w.alloc (.cells cs 30)).heap.size by simp)
  clear h hl hr hbk hb1 hsz hf0 hm0 P0 hf1 hm1 P1 hf2 hm2 P2 hf3 hm3 P3 hf4 hm4 P4 hf5 hm5 P5 hf6 hm6 P6 hf16 hm16 P16 hrpl hrob hrst hrwa hrco hlpl hspl hcpl hppl hlst hsst hcst hpst hlwa hswa hcwa hpwa hlco hsco hcco hpco
  go_enter Try.func14, Try.ntmps14
  by_cases q0 : 6 < npl
  · go_wp2_with fail
    go_ret
    exact ⟨HB1.out, false, rfl, fun h => by cases h⟩
  by_cases q1 : 80 < nob
  · go_wp2_with fail
    go_ret
    exact ⟨HB1.out, false, rfl, fun h => by cases h⟩
  by_cases q2 : 100 < nbf
  · go_wp2_with fail
    go_ret
    exact ⟨HB1.out, false, rfl, fun h => by cases h⟩
  by_cases q3 : 100 < nxl
  · go_wp2_with fail
    go_ret
    exact ⟨HB1.out, false, rfl, fun h => by cases h⟩
  by_cases q4 : 8 < nst
  · go_wp2_with fail
    go_ret
    exact ⟨HB1.out, false, rfl, fun h => by cases h⟩
  by_cases q5 : 8 < nwa
  · go_wp2_with fail
    go_ret
    exact ⟨HB1.out, false, rfl, fun h => by cases h⟩
  by_cases q6 : 12 < nco
  · go_wp2_with fail
    go_ret
    exact ⟨HB1.out, false, rfl, fun h => by cases h⟩
  by_cases q7 : 20 < nxt
  · go_wp2_with fail
    go_ret
    exact ⟨HB1.out, false, rfl, fun h => by cases h⟩
  go_wp2_with fail
  generalize w.alloc (.cells cs 30) = w1 at HBK HB1 HG hf0' hf1' hf2' hf3' hf4' hf5' hf6' hf16'
  go_loopw [5] (fun i wr => ∃ k : Nat, i = .int .i64 k ∧ k ≤ npl ∧ wr = w1 ∧ FewTo N playerS rpl k) (fun i _ => npl - (intOf i).toNat)
  case atStart => exact ⟨0, rfl, Nat.zero_le _, rfl, FewTo.zero _ _ _⟩
  case round =>
    obtain ⟨k, rfl, hk, rfl, HF⟩ := hrel
    by_cases hlt : k < npl
    · obtain ⟨g, o, rfl, hA, hgl, hcells⟩ := HCPL.out (by omega)
      have hrk : rpl[k]? = some (rpl[k]'(by rw [HLPL.out]; omega)) := List.getElem?_eq_getElem _
      have hrkl := HSPL.out _ (List.getElem_mem (l := rpl) (n := k) (by rw [HLPL.out]; omega))
      have hrkr := fun j q x h1 h2 => HRPL.out k j _ q x hrk h1 h2
      generalize rpl[k]'(by rw [HLPL.out]; omega) = r at hrk hrkl hrkr
      have HRK := Lib.hid hrk
      obtain ⟨a0, m0, c0, hg0, hh0, Q0⟩ := row_l hrkl hrkr (j := 11) rfl
      have e0 : wr.cell? ⟨g, o + k * 14 + 11, none⟩ = some (.slice a0 m0 c0) := by have h := hcells k 11 hlt (by decide); rw [len_playerS, hg0] at h; rw [HB1.out.cell hgl]; simpa [Nat.add_assoc] using h
      unfold maxLen at hh0
      obtain ⟨a1, m1, c1, hg1, hh1, Q1⟩ := row_l hrkl hrkr (j := 12) rfl
      have e1 : wr.cell? ⟨g, o + k * 14 + 12, none⟩ = some (.slice a1 m1 c1) := by have h := hcells k 12 hlt (by decide); rw [len_playerS, hg1] at h; rw [HB1.out.cell hgl]; simpa [Nat.add_assoc] using h
      unfold maxLen at hh1
      obtain ⟨a2, m2, c2, hg2, hh2, Q2⟩ := row_l hrkl hrkr (j := 13) rfl
      have e2 : wr.cell? ⟨g, o + k * 14 + 13, none⟩ = some (.slice a2 m2 c2) := by have h := hcells k 13 hlt (by decide); rw [len_playerS, hg2] at h; rw [HB1.out.cell hgl]; simpa [Nat.add_assoc] using h
      unfold maxLen at hh2
      have HPP := Lib.hid (show m0 ≤ 100 → m1 ≤ 100 → m2 ≤ 100 → fewRow N 100 playerS r from fun h0 h1 h2 => few_of_places hrkl hrkr (ps := [11, 12, 13]) (by decide) (fun p hp => by
        simp at hp
        rcases hp with rfl | rfl | rfl
        · exact Q0 N 100 h0
        · exact Q1 N 100 h1
        · exact Q2 N 100 h2))
      clear hg0 hg1 hg2 Q0 Q1 Q2 hcells hrk hrkl hrkr
      by_cases z0 : 100 < m0
      · go_wp2_with fail
        go_ret
        exact ⟨HB1.out, false, rfl, fun h => by cases h⟩
      by_cases z1 : 100 < m1
      · go_wp2_with fail
        go_ret
        exact ⟨HB1.out, false, rfl, fun h => by cases h⟩
      by_cases z2 : 100 < m2
      · go_wp2_with fail
        go_ret
        exact ⟨HB1.out, false, rfl, fun h => by cases h⟩
      go_wp2_with fail
      go_roundw
      case rel => exact ⟨k + 1, by go_num, by omega, by first | rfl | trivial, HF.succ HRK.out (HPP.out (by omega) (by omega) (by omega))⟩
      case measure => simp [intOf]; omega
    · have HFP := Lib.hid (HF.all (by have := HLPL.out; omega) (by have := HLPL.out; omega))
      clear HF
      go_wp2_with fail
      go_loopw [6] (fun i wr2 => ∃ k : Nat, i = .int .i64 k ∧ k ≤ nst ∧ Hid (Below wr.heap.size wr wr2) ∧ FewTo N itemS rst k) (fun i _ => nst - (intOf i).toNat)
      case atStart => exact ⟨0, rfl, Nat.zero_le _, Lib.hid (Below.refl _ _), FewTo.zero _ _ _⟩
      case round =>
        rename World => wr2
        obtain ⟨k2, rfl, hk2, HB2, HF2⟩ := hrel
        have HBW := Lib.hid (HB1.out.trans (HB2.out.mono HB1.out.size))
        have hf4r : wr2.cell? ⟨w.heap.size, 4, none⟩ = some (.slice ast nst cst) := by rw [HB2.out.cell HG.out]; exact hf4'
        by_cases hlt2 : k2 < nst
        · obtain ⟨g, o, rfl, hA, hgl, hcells⟩ := HCST.out (by omega)
          have hrk : rst[k2]? = some (rst[k2]'(by rw [HLST.out]; omega)) := List.getElem?_eq_getElem _
          have hrkl := HSST.out _ (List.getElem_mem (l := rst) (n := k2) (by rw [HLST.out]; omega))
          have hrkr := fun j q x h1 h2 => HRST.out k2 j _ q x hrk h1 h2
          generalize rst[k2]'(by rw [HLST.out]; omega) = r at hrk hrkl hrkr
          have HRK := Lib.hid hrk
          obtain ⟨hsl, hsr⟩ := sub_rep (m := 72) sub_item len_abilityS hrkl hrkr
          obtain ⟨ce, hcr, hrg, hcl, hcf⟩ := row_range (wr := wr2) (g := g) (o := o + k2 * 94 + 6) len_abilityS hsl hsr (fun j hj => by
            have h := hcells k2 (6 + j) hlt2 (by rw [len_itemS]; omega)
            rw [len_itemS] at h
            rw [HBW.out.cell hgl]; simpa [Nat.add_assoc] using h)
          have HCR := Lib.hid (show RowRep (Old wr2) wr2 abilityS ((r.drop 6).take 72) ce.toArray.toList from hcr.mono (fun b hb => Nat.lt_of_lt_of_le hb HBW.out.size) HBW.out.size (fun b hb _ => HBW.out.block b hb))
          have HRG := Lib.hid hrg
          have HI := Lib.hid (show (Try.prog.info? 91).map (·.size) = some ce.length by rw [hcl]; exact size91)
          obtain ⟨a0, m0, c0, x0, hg0, hh0, hr0, Q0⟩ := row_e hrkl hrkr (j := 78) rfl
          have e0 : wr2.cell? ⟨g, o + k2 * 94 + 78, none⟩ = some (.slice a0 m0 c0) := by have h := hcells k2 78 hlt2 (by decide); rw [len_itemS, hg0] at h; rw [HBW.out.cell hgl]; simpa [Nat.add_assoc] using h
          unfold maxLen at hh0
          have HPP := Lib.hid (show m0 ≤ 100 → fewRow N 100 abilityS ((r.drop 6).take 72) → fewRow N 100 itemS r from fun h0 h1 => few_of_places hrkl hrkr (ps := [14, 23, 44, 54, 55, 65, 78]) (by decide) (fun p hp => by
            simp at hp
            rcases hp with rfl | rfl | rfl | rfl | rfl | rfl | rfl
            · exact place_sub sub_item len_abilityS h1 (by omega) (by omega)
            · exact place_sub sub_item len_abilityS h1 (by omega) (by omega)
            · exact place_sub sub_item len_abilityS h1 (by omega) (by omega)
            · exact place_sub sub_item len_abilityS h1 (by omega) (by omega)
            · exact place_sub sub_item len_abilityS h1 (by omega) (by omega)
            · exact place_sub sub_item len_abilityS h1 (by omega) (by omega)
            · exact Q0 N 100 (few_rows_simple hr0 (by decide) h0)))
          clear hg0 Q0 hr0 hcells hrk hrkl hrkr hsl hsr hcr hrg hcl hcf
          by_cases z0 : 10 < m0
          · go_wp2_with fail
            go_ret
            exact ⟨HBW.out, false, rfl, fun h => by cases h⟩
          go_wp2_with (with_reducible refine wpList_halt_load 91 _ ?_)
          have zz : decide ((10 : Int) < (m0 : Int)) = false := by simp; omega
          rw [zz]
          refine go_on (wpList_load_want rfl 91 (.tmp 110) rfl g (o + k2 * 94 + 6) rfl ce _ HRG.out Try.underlying91 rfl HI.out ?_)
          go_wp2_with (go_at_call 39; refine halt_here ?_)
          refine go_on ((fewAbility_any N ce.toArray ((r.drop 6).take 72) wr2 hN HCR.out).mono ?_)
          rintro e w9 ⟨hb9, b9, rfl, hbm9⟩
          have HB9 := Lib.hid (HB2.out.trans (hb9.mono HB2.out.size))
          have HBX := Lib.hid (HBW.out.trans (hb9.mono HBW.out.size))
          have HBM := Lib.hid hbm9
          clear hb9 hbm9
          cases b9 with
          | false =>
            go_wp2_with fail
            go_ret
            exact ⟨HBX.out, false, rfl, fun h => by cases h⟩
          | true =>
          go_wp2_with fail
          go_roundw
          case rel => exact ⟨k2 + 1, by go_num, by omega, HB9, HF2.succ HRK.out (HPP.out (by omega) (HBM.out (by first | rfl | trivial)))⟩
          case measure => simp [intOf]; omega
        · have HFI := Lib.hid (HF2.all (by have := HLST.out; omega) (by have := HLST.out; omega))
          clear HF2
          have hf5r : wr2.cell? ⟨w.heap.size, 5, none⟩ = some (.slice awa nwa cwa) := by rw [HB2.out.cell HG.out]; exact hf5'
          have HB00 := HB1
          clear HB1
          have HGR := Lib.hid HB2.out.size
          have HB0 := HB2
          clear HB2
          have HB1 := HBW
          clear HBW
          go_wp2_with fail
          go_loopw [7] (fun i wr3 => ∃ k : Nat, i = .int .i64 k ∧ k ≤ nwa ∧ Hid (Below wr.heap.size wr wr3) ∧ FewTo N waitingS rwa k) (fun i _ => nwa - (intOf i).toNat)
          case atStart => exact ⟨0, rfl, Nat.zero_le _, HB0, FewTo.zero _ _ _⟩
          case round =>
            clear hf5r
            rename World => wr3
            obtain ⟨k3, rfl, hk3, HB2, HF3⟩ := hrel
            have HBW := Lib.hid (HB00.out.trans (HB2.out.mono HB00.out.size))
            have hf5r : wr3.cell? ⟨w.heap.size, 5, none⟩ = some (.slice awa nwa cwa) := by rw [HB2.out.cell HG.out]; exact hf5'
            by_cases hlt3 : k3 < nwa
            · obtain ⟨g, o, rfl, hA, hgl, hcells⟩ := HCWA.out (by omega)
              have hrk : rwa[k3]? = some (rwa[k3]'(by rw [HLWA.out]; omega)) := List.getElem?_eq_getElem _
              have hrkl := HSWA.out _ (List.getElem_mem (l := rwa) (n := k3) (by rw [HLWA.out]; omega))
              have hrkr := fun j q x h1 h2 => HRWA.out k3 j _ q x hrk h1 h2
              generalize rwa[k3]'(by rw [HLWA.out]; omega) = r at hrk hrkl hrkr
              have HRK := Lib.hid hrk
              obtain ⟨hsl, hsr⟩ := sub_rep (m := 72) sub_waiting len_abilityS hrkl hrkr
              obtain ⟨ce, hcr, hrg, hcl, hcf⟩ := row_range (wr := wr3) (g := g) (o := o + k3 * 89 + 2) len_abilityS hsl hsr (fun j hj => by
                have h := hcells k3 (2 + j) hlt3 (by rw [len_waitingS]; omega)
                rw [len_waitingS] at h
                rw [HBW.out.cell hgl]; simpa [Nat.add_assoc] using h)
              have HCR := Lib.hid (show RowRep (Old wr3) wr3 abilityS ((r.drop 2).take 72) ce.toArray.toList from hcr.mono (fun b hb => Nat.lt_of_lt_of_le hb HBW.out.size) HBW.out.size (fun b hb _ => HBW.out.block b hb))
              have HRG := Lib.hid hrg
              have HI := Lib.hid (show (Try.prog.info? 91).map (·.size) = some ce.length by rw [hcl]; exact size91)
              have HPP := Lib.hid (show fewRow N 100 abilityS ((r.drop 2).take 72) → fewRow N 100 waitingS r from fun h1 => few_of_places hrkl hrkr (ps := [10, 19, 40, 50, 51, 61]) (by decide) (fun p hp => by
                simp at hp
                rcases hp with rfl | rfl | rfl | rfl | rfl | rfl <;> exact place_sub sub_waiting len_abilityS h1 (by omega) (by omega)))
              clear hcells hrk hrkl hrkr hsl hsr hcr hrg hcl hcf
              go_wp2_with (with_reducible refine wpList_halt_load 91 _ ?_)
              refine go_on (wpList_load_want rfl 91 (.tmp 127) rfl g (o + k3 * 89 + 2) rfl ce _ HRG.out Try.underlying91 rfl HI.out ?_)
              go_wp2_with (go_at_call 39; refine halt_here ?_)
              refine go_on ((fewAbility_any N ce.toArray ((r.drop 2).take 72) wr3 hN HCR.out).mono ?_)
              rintro e w9 ⟨hb9, b9, rfl, hbm9⟩
              have HB9 := Lib.hid (HB2.out.trans (hb9.mono HB2.out.size))
              have HBX := Lib.hid (HBW.out.trans (hb9.mono HBW.out.size))
              have HBM := Lib.hid hbm9
              clear hb9 hbm9
              cases b9 with
              | false =>
                go_wp2_with fail
                go_ret
                exact ⟨HBX.out, false, rfl, fun h => by cases h⟩
              | true =>
              go_wp2_with fail
              go_roundw
              case rel => exact ⟨k3 + 1, by go_num, by omega, HB9, HF3.succ HRK.out (HPP.out (HBM.out (by first | rfl | trivial)))⟩
              case measure => simp [intOf]; omega
            · have HFW := Lib.hid (HF3.all (by have := HLWA.out; omega) (by have := HLWA.out; omega))
              clear HF3
              have hf6r : wr3.cell? ⟨w.heap.size, 6, none⟩ = some (.slice aco nco cco) := by rw [HB2.out.cell HG.out]; exact hf6'
              go_wp2_with fail
              go_loopw [8] (fun i wr4 => ∃ k : Nat, i = .int .i64 k ∧ k ≤ nco ∧ wr4 = wr3 ∧ FewTo N contS rco k) (fun i _ => nco - (intOf i).toNat)
              case atStart => exact ⟨0, rfl, Nat.zero_le _, rfl, FewTo.zero _ _ _⟩
              case round =>
                rename World => wr4
                obtain ⟨k4, rfl, hk4, rfl, HF4⟩ := hrel
                by_cases hlt4 : k4 < nco
                · obtain ⟨g, o, rfl, hA, hgl, hcells⟩ := HCCO.out (by omega)
                  have hrk : rco[k4]? = some (rco[k4]'(by rw [HLCO.out]; omega)) := List.getElem?_eq_getElem _
                  have hrkl := HSCO.out _ (List.getElem_mem (l := rco) (n := k4) (by rw [HLCO.out]; omega))
                  have hrkr := fun j q x h1 h2 => HRCO.out k4 j _ q x hrk h1 h2
                  generalize rco[k4]'(by rw [HLCO.out]; omega) = r at hrk hrkl hrkr
                  have HRK := Lib.hid hrk
                  obtain ⟨a0, m0, c0, hg0, hh0, Q0⟩ := row_l hrkl hrkr (j := 4) rfl
                  obtain ⟨a1, m1, c1, x1, hg1, hh1, hr1, Q1⟩ := row_e hrkl hrkr (j := 5) rfl
                  have e0 : wr4.cell? ⟨g, o + k4 * 6 + 4, none⟩ = some (.slice a0 m0 c0) := by have h := hcells k4 4 hlt4 (by decide); rw [len_contS, hg0] at h; rw [HBW.out.cell hgl]; simpa [Nat.add_assoc] using h
                  have e1 : wr4.cell? ⟨g, o + k4 * 6 + 5, none⟩ = some (.slice a1 m1 c1) := by have h := hcells k4 5 hlt4 (by decide); rw [len_contS, hg1] at h; rw [HBW.out.cell hgl]; simpa [Nat.add_assoc] using h
                  unfold maxLen at hh0
                  have HR1 := Lib.hid (hr1.later HBW.out)
                  have HPP := Lib.hid (show m0 ≤ 100 → fewV N 100 (.e modS) x1 → fewRow N 100 contS r from fun h0 h1 => few_of_places hrkl hrkr (ps := [4, 5]) (by decide) (fun p hp => by
                    simp at hp
                    rcases hp with rfl | rfl
                    · exact Q0 N 100 h0
                    · exact Q1 N 100 h1))
                  clear hg0 hg1 hh1 hr1 Q0 Q1 hcells hrk hrkl hrkr
                  by_cases z0 : 100 < m0
                  · go_wp2_with fail
                    go_ret
                    exact ⟨HBW.out, false, rfl, fun h => by cases h⟩
                  go_wp2_with (go_at_call 40; refine halt_here ?_)
                  refine go_on ((fewMods_any N a1 m1 c1 x1 wr4 hN HR1.out).mono ?_)
                  rintro e w9 ⟨rfl, b9, rfl, hbm9⟩
                  have HBM := Lib.hid hbm9
                  clear hbm9
                  cases b9 with
                  | false =>
                    go_wp2_with fail
                    go_ret
                    exact ⟨HBW.out, false, rfl, fun h => by cases h⟩
                  | true =>
                  go_wp2_with fail
                  go_roundw
                  case rel => exact ⟨k4 + 1, by go_num, by omega, by first | rfl | trivial, HF4.succ HRK.out (HPP.out (by omega) (HBM.out (by first | rfl | trivial)))⟩
                  case measure => simp [intOf]; omega
                · have HFC := Lib.hid (HF4.all (by have := HLCO.out; omega) (by have := HLCO.out; omega))
                  go_wp2_with fail
                  go_ret
                  exact ⟨HBW.out, true, rfl, fun _ => HP.out HFP.out (HOB.out (by omega)) (by omega) (by omega) HFI.out HFW.out HFC.out (by omega)⟩
end Go.Proofs.Ytbcpdjhpceimlaa
