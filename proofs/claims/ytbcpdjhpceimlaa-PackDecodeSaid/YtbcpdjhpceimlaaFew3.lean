/-
  The laws' own test that a state is small: an ability.
-/
import Derived.Test.YtbcpdjhpceimlaaFew2
namespace Go.Proofs.Ytbcpdjhpceimlaa
open Go.ChangeShapes Go.WideShapes Go.ChangeAt Go.RowKit
set_option linter.unusedVariables false

/-- The answer of a test of a struct: true only if the row is few. -/
def FewRowAns (N : Nat) (s : List Fld) (v : List V) (w : World) (e : Ending) (w' : World) : Prop := Below w.heap.size w w' ∧ ∃ b, e = .returned (.bool b) ∧ (b = true → fewRow N 100 s v)

theorem row_f {A : Nat → Prop} {w : World} {s : List Fld} {v : List V} {cs : List Value} (h : RowRep A w s v cs) : ∀ (j : Nat) (q : Fld) (x : V), s[j]? = some q → v[j]? = some x → Rep A w q x (cs.getD j undef) := by
  intro j q x h1 h2
  have hj : j < s.length := (List.getElem?_eq_some_iff.1 h1).1
  have hc : cs[j]? = some (cs[j]'(by rw [h.2.1]; exact hj)) := List.getElem?_eq_getElem _
  rw [List.getD_eq_getElem?_getD, hc]
  exact h.2.2 j q x _ h1 h2 hc
theorem blk_f {w : World} {g : Nat} {T : TypeId} {cs : Array Value} (h : w.heap[g]? = some (.cells cs T (0, 0))) {j : Nat} {u : Value} (hf : cs.toList.getD j undef = u) (hj : j < cs.size) : w.cell? ⟨g, j, none⟩ = some u := by
  rw [blk_cell h, ← Array.getElem?_toList, ← hf, List.getD_eq_getElem?_getD, List.getElem?_eq_getElem (by simpa using hj)]
  rfl
/-- The cells of the k-th row. -/
theorem row_range {w wr : World} {A : Nat → Prop} {s : List Fld} {r : List V} {f : Nat → Value} {g o m : Nat} (hs : s.length = m) (hrl : r.length = s.length) (hr : ∀ (j : Nat) (q : Fld) (x : V), s[j]? = some q → r[j]? = some x → Rep A w q x (f j))
    (hc : ∀ j, j < m → wr.cell? ⟨g, o + j, none⟩ = some (f j)) : ∃ cs : List Value, RowRep A w s r cs ∧ wr.rangeAt g o cs ∧ cs.length = m ∧ ∀ j, j < m → cs.getD j undef = f j := by
  refine ⟨(List.range m).map f, ⟨hrl, by simp [hs], fun j q x u h1 h2 h3 => ?_⟩, fun j u hj => ?_, by simp, fun j hj => by simp [List.getElem?_range hj]⟩
  · have hj : j < m := by rw [← hs]; exact (List.getElem?_eq_some_iff.1 h1).1
    simp [List.getElem?_map, List.getElem?_range hj] at h3
    subst h3
    exact hr j q x h1 h2
  · have hj2 : j < m := by have := (List.getElem?_eq_some_iff.1 hj).1; simpa using this
    simp [List.getElem?_map, List.getElem?_range hj2] at hj
    subst hj
    exact hc j hj2

theorem len_abilityS : (abilityS : List Fld).length = 72 := by decide

set_option maxRecDepth 100000 in
set_option maxHeartbeats 4000000 in
theorem fewAbility_any (N : Nat) (cs : Array Value) (v : List V) (w : World) (hN : N ≤ 100) (h : RowRep (Old w) w abilityS v cs.toList) :
    Calls Try.prog 39 #[.agg cs, .int .i64 (N : Int)] w (FewRowAns N abilityS v w) := by
  have hsz : cs.size = 72 := by have := h.2.1; rw [len_abilityS] at this; simpa using this
  have hl := h.1
  have hr := row_f h
  have hbk : (w.alloc (.cells cs 91)).heap[w.heap.size]? = some (.cells cs 91 (0, 0)) := heap_alloc_new w _
  have hb1 : Below w.heap.size w (w.alloc (.cells cs 91)) := (Below.refl _ _).alloc (Nat.le_refl _) _
  obtain ⟨s1, hf8, hm8, P8⟩ := row_t hl hr (j := 8) rfl
  obtain ⟨am, nm, cm, xm, hf17, hm17, hrm, P17⟩ := row_e hl hr (j := 17) rfl
  obtain ⟨s2, hf38, hm38, P38⟩ := row_t hl hr (j := 38) rfl
  obtain ⟨asp, nsp, csp, xsp, hf48, hm48, hrsp, P48⟩ := row_e hl hr (j := 48) rfl
  obtain ⟨aef, nef, cef, xef, hf49, hm49, href, P49⟩ := row_e hl hr (j := 49) rfl
  obtain ⟨s3, hf59, hm59, P59⟩ := row_t hl hr (j := 59) rfl
  have HP := Lib.hid (show s1.size ≤ N → fewV N 100 (.e modS) xm → s2.size ≤ N → fewV N 100 (.e specS) xsp → fewV N 100 (.e effectS) xef → s3.size ≤ N → fewRow N 100 abilityS v from fun h1 h2 h3 h4 h5 h6 =>
    few_of_places hl hr (ps := [8, 17, 38, 48, 49, 59]) (by decide) (fun p hp => by
      simp at hp
      rcases hp with rfl | rfl | rfl | rfl | rfl | rfl
      · exact P8 N 100 h1
      · exact P17 N 100 h2
      · exact P38 N 100 h3
      · exact P48 N 100 h4
      · exact P49 N 100 h5
      · exact P59 N 100 h6))
  have hf8' := blk_f hbk hf8 (by omega)
  have hf17' := blk_f hbk hf17 (by omega)
  have hf38' := blk_f hbk hf38 (by omega)
  have hf48' := blk_f hbk hf48 (by omega)
  have hf49' := blk_f hbk hf49 (by omega)
  have hf59' := blk_f hbk hf59 (by omega)
  obtain ⟨rs, fs, rfl, hsl, hsc, -, hss, -, hscl, hsrp⟩ := vals_open hrsp
  obtain ⟨re, fe, rfl, hel, hec, -, hes, -, hecl, herp⟩ := vals_open href
  have HRM := Lib.hid (hrm.later hb1)
  have HBK := Lib.hid hbk
  have HB1 := Lib.hid hb1
  have HSL := Lib.hid hsl
  have HSS := Lib.hid hss
  have HSC := Lib.hid hscl
  have HSR := Lib.hid hsrp
  have HEL := Lib.hid hel
  have HES := Lib.hid hes
  have HEC := Lib.hid hecl
  have HER := Lib.hid herp
  have HSZ := Lib.hid hsz
  have HG := Lib.hid (show w.heap.size < (w.alloc (.cells cs 91)).heap.size by simp)
  unfold maxLen at hm48 hm49
  have hn1 : nsp ≤ 9223372036854775807 := by omega
  have hn2 : nef ≤ 9223372036854775807 := by omega
  clear h hl hr hbk hb1 hf8 hf17 hf38 hf48 hf49 hf59 P8 P17 P38 P48 P49 P59 hrm hrsp href hsl hsc hss hscl hsrp hel hec hes hecl herp hsz hm8 hm38 hm59 hm17
  go_enter Try.func39, Try.ntmps39
  go_wp2_with (go_at_call 40; refine halt_here ?_)
  generalize w.alloc (.cells cs 91) = w1 at HRM HBK HB1 HG hf8' hf17' hf38' hf48' hf49' hf59'
  refine go_on ((fewMods_any N am nm cm xm w1 hN HRM.out).mono ?_)
  rintro e w' ⟨rfl, bm, rfl, hbm⟩
  have HBM := Lib.hid hbm
  clear hbm
  cases bm with
  | false => 
    go_wp2_with fail
    go_ret
    exact ⟨HB1.out, false, rfl, fun h => by cases h⟩
  | true =>
  by_cases q1 : 8 < nsp
  · go_wp2_with fail
    go_ret
    exact ⟨HB1.out, false, rfl, fun h => by cases h⟩
  by_cases q2 : 10 < nef
  · go_wp2_with fail
    go_ret
    exact ⟨HB1.out, false, rfl, fun h => by cases h⟩
  by_cases q3 : N < s1.size
  · go_wp2_with fail
    go_ret
    exact ⟨HB1.out, false, rfl, fun h => by cases h⟩
  by_cases q4 : N < s2.size
  · go_wp2_with fail
    go_ret
    exact ⟨HB1.out, false, rfl, fun h => by cases h⟩
  by_cases q5 : N < s3.size
  · go_wp2_with fail
    go_ret
    exact ⟨HB1.out, false, rfl, fun h => by cases h⟩
  go_wp2_with fail
  go_loopw [5] (fun i wr => ∃ k : Nat, i = .int .i64 k ∧ k ≤ nsp ∧ wr = w' ∧ FewTo N specS rs k) (fun i _ => nsp - (intOf i).toNat)
  case atStart => exact ⟨0, rfl, Nat.zero_le _, rfl, FewTo.zero _ _ _⟩
  case round =>
    obtain ⟨k, rfl, hk, rfl, HF⟩ := hrel
    by_cases hlt : k < nsp
    · obtain ⟨g, o, rfl, hA, hgl, hcells⟩ := HSC.out (by omega)
      have hrk : rs[k]? = some (rs[k]'(by rw [HSL.out]; exact hlt)) := List.getElem?_eq_getElem _
      have hrkl := HSS.out _ (List.getElem_mem (l := rs) (n := k) (by rw [HSL.out]; exact hlt))
      have hrkr := fun j q x h1 h2 => HSR.out k j _ q x hrk h1 h2
      generalize rs[k]'(by rw [HSL.out]; exact hlt) = r at hrk hrkl hrkr
      obtain ⟨t1, hg1, hh1, Q1⟩ := row_t hrkl hrkr (j := 9) rfl
      have e1 : wr.cell? ⟨g, o + k * 18 + 2 + 7, none⟩ = some (.string t1) := by have h := hcells k 9 hlt (by decide); rw [len_specS, hg1] at h; rw [HB1.out.cell hgl]; simpa [Nat.add_assoc] using h
      have HPP := Lib.hid (show t1.size ≤ N → fewRow N 100 specS r from fun h1 => few_of_places hrkl hrkr (ps := [9]) (by decide) (fun p hp => by simp at hp; subst hp; exact Q1 N 100 h1))
      have HRK := Lib.hid hrk
      clear hg1 hh1 Q1 hcells hrk hrkl hrkr
      by_cases h1 : N < t1.size
      · go_wp2_with fail
        go_ret
        exact ⟨HB1.out, false, rfl, fun h => by cases h⟩
      · go_wp2_with fail
        go_roundw
        case rel => exact ⟨k + 1, by go_num, by omega, by first | rfl | trivial, HF.succ HRK.out (HPP.out (by omega))⟩
        case measure => simp [intOf]; omega
    · have HFS := Lib.hid (HF.all (by have := HSL.out; omega) (by have := HSL.out; omega))
      clear HF
      go_wp2_with fail
      go_loopw [6] (fun i wr2 => ∃ k : Nat, i = .int .i64 k ∧ k ≤ nef ∧ Hid (Below wr.heap.size wr wr2) ∧ FewTo N effectS re k) (fun i _ => nef - (intOf i).toNat)
      case atStart => exact ⟨0, rfl, Nat.zero_le _, Lib.hid (Below.refl _ _), FewTo.zero _ _ _⟩
      case round =>
        rename World => wr2
        obtain ⟨k2, rfl, hk2, HB2, HF2⟩ := hrel
        have hf49r : wr2.cell? ⟨w.heap.size, 49, none⟩ = some (.slice aef nef cef) := by rw [HB2.out.cell HG.out]; exact hf49'
        have HBW := Lib.hid (HB1.out.trans (HB2.out.mono HB1.out.size))
        by_cases hlt2 : k2 < nef
        · obtain ⟨g, o, rfl, hA, hgl, hcells⟩ := HEC.out (by omega)
          have hrk : re[k2]? = some (re[k2]'(by rw [HEL.out]; exact hlt2)) := List.getElem?_eq_getElem _
          have hrkl := HES.out _ (List.getElem_mem (l := re) (n := k2) (by rw [HEL.out]; exact hlt2))
          have hrkr := fun j q x h1 h2 => HER.out k2 j _ q x hrk h1 h2
          generalize re[k2]'(by rw [HEL.out]; exact hlt2) = r at hrk hrkl hrkr
          obtain ⟨ce, hcr, hrg, hcl, hcf⟩ := row_range (wr := wr2) (g := g) (o := o + k2 * 64) len_effectS hrkl hrkr (fun j hj => by
            have h := hcells k2 j hlt2 (by rw [len_effectS]; exact hj)
            rw [len_effectS, ← Nat.add_assoc] at h
            rw [HBW.out.cell hgl]; exact h)
          obtain ⟨t1, hg1, hh1, Q1⟩ := row_t hrkl hrkr (j := 10) rfl
          obtain ⟨t2, hg2, hh2, Q2⟩ := row_t hrkl hrkr (j := 29) rfl
          obtain ⟨t3, hg3, hh3, Q3⟩ := row_t hrkl hrkr (j := 40) rfl
          obtain ⟨t4, hg4, hh4, Q4⟩ := row_t hrkl hrkr (j := 48) rfl
          obtain ⟨a5, n5, c5, x5, hg5, hh5, hr5, Q5⟩ := row_e hrkl hrkr (j := 63) rfl
          have HPP := Lib.hid (show t1.size ≤ N → t2.size ≤ N → t3.size ≤ N → t4.size ≤ N → fewV N 100 (.e modS) x5 → fewRow N 100 effectS r from fun h1 h2 h3 h4 h5 => few_of_places hrkl hrkr (ps := [10, 29, 40, 48, 63]) (by decide) (fun p hp => by
            simp at hp
            rcases hp with rfl | rfl | rfl | rfl | rfl
            · exact Q1 N 100 h1
            · exact Q2 N 100 h2
            · exact Q3 N 100 h3
            · exact Q4 N 100 h4
            · exact Q5 N 100 h5))
          have HRK := Lib.hid hrk
          have HRG := Lib.hid hrg
          have HI := Lib.hid (show (Try.prog.info? 138).map (·.size) = some ce.length by rw [hcl]; exact size138)
          have HI2 := Lib.hid (show (Try.prog.info? 138).map (·.size) = some ce.toArray.size by rw [List.size_toArray, hcl]; exact size138)
          have HONE := Lib.hid (all_oneCell_toArray (row_one hcr))
          have HCSL := Lib.hid (show ce.toArray.size = 64 by rw [List.size_toArray, hcl])
          have hbk2 : (wr2.alloc (.cells ce.toArray 138)).heap[wr2.heap.size]? = some (.cells ce.toArray 138 (0, 0)) := heap_alloc_new wr2 _
          have hbb : Below w.heap.size w (wr2.alloc (.cells ce.toArray 138)) := HBW.out.alloc HBW.out.size _
          have HB3 := Lib.hid hbb
          have HB4 := Lib.hid (HB2.out.alloc HB2.out.size (.cells ce.toArray 138))
          have HR5 := Lib.hid (hr5.later hbb)
          have g1 := blk_f hbk2 ((hcf 10 (by decide)).trans hg1) (by rw [HCSL.out]; decide)
          have g2 := blk_f hbk2 ((hcf 29 (by decide)).trans hg2) (by rw [HCSL.out]; decide)
          have g3 := blk_f hbk2 ((hcf 40 (by decide)).trans hg3) (by rw [HCSL.out]; decide)
          have g4 := blk_f hbk2 ((hcf 48 (by decide)).trans hg4) (by rw [HCSL.out]; decide)
          have g5 := blk_f hbk2 ((hcf 63 (by decide)).trans hg5) (by rw [HCSL.out]; decide)
          clear hrk hrkl hrkr hcells hcr hrg hcl hcf hg1 hg2 hg3 hg4 hg5 hh1 hh2 hh3 hh4 hh5 hr5 Q1 Q2 Q3 Q4 Q5 hbk2 hbb
          go_wp2_with (first | (refine wpList_load_mid rfl 138 (.tmp 78) rfl g (o + k2 * 64) rfl ce _ HRG.out Try.underlying138 rfl HI.out ?_) | (refine wpList_store_new rfl 138 (.tmp 7) (.tmp 79) rfl _ ce.toArray rfl rfl HI2.out (by rw [HCSL.out]; rfl) HONE.out ?_) | (go_at_call 40; refine halt_here ?_))
          generalize hwx : wr2.alloc (.cells ce.toArray 138) = wx at HB3 HB4 HR5 g1 g2 g3 g4 g5
          clear hwx
          refine go_on ((fewMods_any N a5 n5 c5 x5 wx hN HR5.out).mono ?_)
          rintro e w' ⟨rfl, b5, rfl, hb5⟩
          have HB5 := Lib.hid hb5
          clear hb5
          cases b5 with
          | false =>
            go_wp2_with fail
            go_ret
            exact ⟨HB3.out, false, rfl, fun h => by cases h⟩
          | true =>
          by_cases z3 : N < t3.size
          · go_wp2_with fail
            go_ret
            exact ⟨HB3.out, false, rfl, fun h => by cases h⟩
          by_cases z4 : N < t4.size
          · go_wp2_with fail
            go_ret
            exact ⟨HB3.out, false, rfl, fun h => by cases h⟩
          by_cases z1 : N < t1.size
          · go_wp2_with fail
            go_ret
            exact ⟨HB3.out, false, rfl, fun h => by cases h⟩
          by_cases z2 : N < t2.size
          · go_wp2_with fail
            go_ret
            exact ⟨HB3.out, false, rfl, fun h => by cases h⟩
          go_wp2_with fail
          go_roundw
          case rel => exact ⟨k2 + 1, by go_num, by omega, HB4, HF2.succ HRK.out (HPP.out (by omega) (by omega) (by omega) (by omega) (HB5.out (by first | rfl | trivial)))⟩
          case measure => simp [intOf]; omega
        · have HFE := Lib.hid (HF2.all (by have := HEL.out; omega) (by have := HEL.out; omega))
          go_wp2_with fail
          go_ret
          exact ⟨HBW.out, true, rfl, fun _ => HP.out (by omega) (HBM.out (by first | rfl | trivial)) (by omega) HFS.out HFE.out (by omega)⟩
end Go.Proofs.Ytbcpdjhpceimlaa
