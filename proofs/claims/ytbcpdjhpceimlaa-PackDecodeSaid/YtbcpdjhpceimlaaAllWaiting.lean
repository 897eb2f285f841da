/-
  'all' of layer 27's coder at Waiting: a slice of structs, in both modes.
-/
import Derived.Test.YtbcpdjhpceimlaaComp3
import Derived.Test.YtbcpdjhpceimlaaAllLib
namespace Go.Proofs.Ytbcpdjhpceimlaa
open Go.ChangeShapes Go.WideShapes Go.ChangeAt Go.RowKit
set_option linter.unusedVariables false

theorem size100 : (Try.prog.info? 100).map (·.size) = some 89 := by kernel_rfl
theorem info100 : (Try.prog.info? 100).map (fun i => (i.zero.map (·.cells.size), i.size, i.bytes)) = some (some 89, 89, 768) := by kernel_rfl
theorem len_waitingS : (waitingS : List Fld).length = 89 := by decide

set_option maxRecDepth 100000 in
set_option maxHeartbeats 4000000 in
theorem allWaiting_enc (C b o : Nat) (bs : Bytes) (v : Nat → V) (w : World) (hpre : Pre C b (.enc bs v) [.e waitingS] o w) :
    Calls Try.prog 80 #[.pointer (some ⟨C, 0, none⟩), .pointer (some ⟨b, o, none⟩), .func (.func 81) #[] #[]] w fun e w' => e = .returned (.tuple #[]) ∧ Post C b (.enc bs v) [.e waitingS] o w w' := by
  obtain ⟨henc, hbC, hfld, hbd⟩ := hpre
  obtain ⟨u0, hcell, hrep⟩ := hfld 0 _ rfl
  have hrep0 := hrep
  obtain ⟨ga, n, gc, rfl⟩ := rep_e hrep
  obtain ⟨rows, f, hvx, hrl, hlc, hlm, hrs, -, hcl, hrp⟩ := vals_open hrep0
  have hcell : w.cell? ⟨b, o, none⟩ = some (.slice ga n gc) := hcell
  have HVX := Lib.hid (show encRow (vals v o 1) = leb n ++ encRows rows by rw [vals_one, encRow_one, show v o = .e rows from hvx, encV, hrl])
  have HBD := Lib.hid (show bs.length + (leb n).length + (encRows rows).length ≤ 140737488355000 by have h : bs.length + (encRow (vals v o 1)).length ≤ 140737488355000 := hbd; rw [HVX.out, List.length_append] at h; omega)
  have HRL := Lib.hid hrl
  have HRS := Lib.hid hrs
  have HCL := Lib.hid hcl
  have HRP := Lib.hid hrp
  unfold maxLen at hlm
  have hn63 : n ≤ 9223372036854775807 := by omega
  obtain ⟨a, n1, c, he1, he2, he3, he4, he5⟩ := henc
  have e0 : w.cell? ⟨C, 0, none⟩ = some (.slice a n1 c) := by rw [blk_cell he1]; rfl
  have e1 : w.cell? ⟨C, 1, none⟩ = some (.pointer none) := by rw [blk_cell he1]; rfl
  have hfr : ∀ off, w.frozen? ⟨C, off, none⟩ = false := blk_free he1
  have HE0 := Lib.hid (show Enc w C bs from ⟨a, n1, c, he1, he2, he3, he4, he5⟩)
  have HE1 := Lib.hid he1
  have HC := Lib.hid he2
  have HL := Lib.hid he3
  have HN := Lib.hid he4
  have HBW := Lib.hid (World.block_lt_of_cell? w _ hcell)
  have hwn : IntKind.u64.wrap (n : Int) = (n : Int) := wrapU _ (by omega) (by omega)
  clear he1 he2 he3 he4 hrep hrep0 hvx hbd hfld hrl hrs hcl hrp hlm
  have a0 : (w.alloc (.cells #[.int .u64 (n : Int)] 28)).cell? ⟨C, 0, none⟩ = some (.slice a n1 c) := ext_of_below ((Below.refl _ _).alloc (Nat.le_refl _) _) _ _ e0
  have a1 : (w.alloc (.cells #[.int .u64 (n : Int)] 28)).cell? ⟨b, o, none⟩ = some (.slice ga n gc) := ext_of_below ((Below.refl _ _).alloc (Nat.le_refl _) _) _ _ hcell
  go_enter Try.func80, Try.ntmps80
  go_wp2_with fail
  refine wp_region_plan [(0, none), (1, none), (2, none), (3, none), (4, some none), (5, none), (6, none), (7, some none), (8, none), (9, none), (10, some (some true)), (11, some (some false)), (12, none), (13, none), (14, some (some false))] (by kernel_rfl) (by kernel_rfl) ?_
  repeat (first | (refine plan_free (v := ?_) rfl rfl (fun _ => ?_) (fun K hK => ?_); rotate_left 1; (focus (go_simp <;> exact rfl)); go_simp; refine hK _ _ ?_; clear hK K) | (refine plan_held (v := ?_) rfl rfl ?_ (fun K hK => ?_); rotate_left 1; (focus (go_simp <;> exact rfl)); go_simp; refine hK _ _ ?_; clear hK K) | (refine plan_skip rfl rfl (fun K hK => ?_); go_simp; refine hK _ _ ?_; clear hK K))
  refine plan_effH rfl rfl (fun K hK => ?_)
  go_wp2_with fail
  refine ⟨⟨by go_simp, by go_simp, trivial⟩, ?_⟩
  repeat (first | (refine plan_free (v := ?_) rfl rfl (fun _ => ?_) (fun K hK => ?_); rotate_left 1; (focus (go_simp <;> exact rfl)); go_simp; refine hK _ _ ?_; clear hK K) | (refine plan_held (v := ?_) rfl rfl ?_ (fun K hK => ?_); rotate_left 1; (focus (go_simp <;> exact rfl)); go_simp; refine hK _ _ ?_; clear hK K) | (refine plan_skip rfl rfl (fun K hK => ?_); go_simp; refine hK _ _ ?_; clear hK K))
  refine plan_eff rfl rfl (fun K hK => ?_)
  go_wp2_with (go_at_call 24; refine halt_here ?_)
  have hbx : Below w.heap.size w (w.alloc (.cells #[.int .u64 (n : Int)] 28)).drew := ((Below.refl _ _).alloc (Nat.le_refl _) _).drew
  have HBX := Lib.hid hbx
  clear hbx
  refine go_on ((Put_any a n1 c bs _ 1 1 [n] _ (HC.out.below HBX.out) HN.out HL.out ((uc_one w n).below (Below.refl _ _).drew) rfl (by decide) (fun y hy => by simp at hy; omega) (by simp [encU]; have := HBD.out; omega)).mono ?_)
  rintro e w1 ⟨v1, rfl, how, hb1⟩
  have e2 : encU [n] = leb n := by simp [encU]
  rw [e2] at how
  have HB1 := Lib.hid (HBX.out.trans (hb1.mono HBX.out.size))
  have HP1 := Lib.hid (HE0.out.put HB1.out how)
  have f2 : ∀ off, w1.frozen? ⟨C, off, none⟩ = false := blk_free ((HB1.out.block C (blk_lt HE1.out)).trans HE1.out)
  have f3 : (w1.cell? ⟨C, 0, none⟩) = some (.slice a n1 c) := by rw [HB1.out.cell (blk_lt HE1.out)]; exact e0
  obtain ⟨a2, n2, c2, rfl, -, -, -⟩ := own_open how
  clear how hb1 e2
  go_wp2_with fail
  repeat (first | (refine plan_free (v := ?_) rfl rfl (fun _ => ?_) (fun K hK => ?_); rotate_left 1; (focus (go_simp <;> exact rfl)); go_simp; refine hK _ _ ?_; clear hK K) | (refine plan_held (v := ?_) rfl rfl ?_ (fun K hK => ?_); rotate_left 1; (focus (go_simp <;> exact rfl)); go_simp; refine hK _ _ ?_; clear hK K) | (refine plan_skip rfl rfl (fun K hK => ?_); go_simp; refine hK _ _ ?_; clear hK K))
  refine plan_eff rfl rfl (fun K hK => ?_)
  go_wp2_with fail
  repeat (first | (refine plan_free (v := ?_) rfl rfl (fun _ => ?_) (fun K hK => ?_); rotate_left 1; (focus (go_simp <;> exact rfl)); go_simp; refine hK _ _ ?_; clear hK K) | (refine plan_held (v := ?_) rfl rfl ?_ (fun K hK => ?_); rotate_left 1; (focus (go_simp <;> exact rfl)); go_simp; refine hK _ _ ?_; clear hK K) | (refine plan_skip rfl rfl (fun K hK => ?_); go_simp; refine hK _ _ ?_; clear hK K))
  refine plan_nil ?_
  have e4 : (w1.setCell ⟨C, 0, none⟩ (.slice a2 n2 c2)).cell? ⟨b, o, none⟩ = some (.slice ga n gc) := by
    rw [World.cell?_of_block ((Lib.grownBy_setCell w1 C 0 (.slice a2 n2 c2)).block b (Nat.lt_of_lt_of_le HBW.out HB1.out.size) (fun e => by injection e with e; exact hbC e)), HB1.out.cell HBW.out]
    exact hcell
  have HG2 := Lib.hid HP1.out.2
  have HE2 := Lib.hid HP1.out.1
  clear f2 f3 e0 e1 hfr hcell HP1 HB1 hwn a0 a1
  generalize w1.setCell ⟨C, 0, none⟩ (.slice a2 n2 c2) = w2 at HE2 HG2 e4
  go_wp2_with fail
  go_loopw [33] (fun i wr => ∃ k : Nat, i = .int .i64 k ∧ k ≤ n ∧ Hid (Enc wr C (bs ++ leb n ++ encRows (rows.take k))) ∧ Hid (w.grownBy wr (some C))) (fun i _ => n - (intOf i).toNat)
  case atStart => exact ⟨0, rfl, Nat.zero_le _, Lib.hid (by simpa [encRows] using HE2.out), HG2⟩
  case round =>
    clear e4
    obtain ⟨k, rfl, hk, HE, HG⟩ := hrel
    by_cases hlt : k < n
    · obtain ⟨g, og, rfl, hgC, hgl, hcells⟩ := HCL.out (by omega)
      have hrk : rows[k]? = some (rows[k]'(by rw [HRL.out]; exact hlt)) := List.getElem?_eq_getElem _
      have hrkl := HRS.out _ (List.getElem_mem (l := rows) (n := k) (by rw [HRL.out]; exact hlt))
      have hrkr := fun j q x h1 h2 => HRP.out k j _ q x hrk h1 h2
      generalize rows[k]'(by rw [HRL.out]; exact hlt) = r at hrk hrkl hrkr
      have HTK := Lib.hid (show encRows (rows.take (k + 1)) = encRows (rows.take k) ++ encRow r by
        obtain ⟨hi, h⟩ := List.getElem?_eq_some_iff.1 hrk
        rw [List.take_succ_eq_append_getElem hi, encRows_append, h, encRows_one])
      have HLE := Lib.hid (show (encRows (rows.take (k + 1))).length ≤ (encRows rows).length by
        conv => rhs; rw [← List.take_append_drop (k + 1) rows, encRows_append, List.length_append]
        omega)
      have HCS := Lib.hid (show ∃ cs : List Value, RowRep (· ≠ C) w waitingS r cs ∧ wr.rangeAt g (og + k * 89) cs by
        refine ⟨(List.range 89).map (f k), ⟨hrkl, by rw [len_waitingS]; simp, fun j q x u h1 h2 h3 => ?_⟩, fun j u hj => ?_⟩
        · have hj : j < 89 := by rw [← len_waitingS]; exact (List.getElem?_eq_some_iff.1 h1).1
          simp [List.getElem?_map, List.getElem?_range hj] at h3
          subst h3
          exact hrkr j q x h1 h2
        · have hj2 : j < 89 := by have := (List.getElem?_eq_some_iff.1 hj).1; simpa using this
          simp [List.getElem?_map, List.getElem?_range hj2] at hj
          subst hj
          have h1 := hcells k j hlt (by rw [len_waitingS]; exact hj2)
          rw [len_waitingS, ← Nat.add_assoc] at h1
          exact ext_of_grown HG.out _ _ (fun e => by injection e with e; exact hgC e) h1)
      obtain ⟨cs, hcsr, hrange⟩ := HCS.out
      have hcsl : cs.length = 89 := by rw [hcsr.2.1, len_waitingS]
      have HCSR := Lib.hid hcsr
      have HRG := Lib.hid hrange
      have HI := Lib.hid (show (Try.prog.info? 100).map (·.size) = some cs.length by rw [hcsl]; exact size100)
      have HI2 := Lib.hid (show (Try.prog.info? 100).map (·.size) = some cs.toArray.size by rw [List.size_toArray, hcsl]; exact size100)
      have HONE := Lib.hid (all_oneCell_toArray (row_one hcsr))
      have HCSL := Lib.hid (show cs.toArray.size = 89 by rw [List.size_toArray, hcsl])
      have HKL := Lib.hid hrkl
      clear hcells hrk hrkl hrkr hcsr hrange hcsl HCS
      go_wp2_with (first | (refine wpList_load_mid rfl 100 (.tmp 35) rfl g (og + k * 89) rfl cs _ HRG.out Try.underlying100 rfl HI.out ?_) | (refine wpList_store_new rfl 100 (.tmp 7) (.tmp 36) rfl _ cs.toArray rfl rfl HI2.out (by rw [HCSL.out]; rfl) HONE.out ?_) | (go_at_call 81; refine halt_here ?_))
      have hgx : wr.grownBy (wr.alloc (.cells cs.toArray 100)) none := World.grownBy_alloc _ _ _
      have hpre : Pre C wr.heap.size (.enc (bs ++ leb n ++ encRows (rows.take k)) (fun j => r.getD j (.i 0))) waitingS 0 (wr.alloc (.cells cs.toArray 100)) := by
        refine ⟨HE.out.grown hgx, fun e => ?_, fun j q hj => ?_, ?_⟩
        · obtain ⟨_, _, _, h1, _⟩ := HE.out
          have := blk_lt h1
          omega
        · have hjl : j < (waitingS : List Fld).length := (List.getElem?_eq_some_iff.1 hj).1
          have hcl : cs.length = (waitingS : List Fld).length := HCSR.out.2.1
          have hrl2 := HKL.out
          refine ⟨cs[j]'(by omega), ?_, ?_⟩
          · rw [Nat.zero_add, cell_of_row (wr.alloc _) wr.heap.size j _ 100 (0, 0) (heap_alloc_new wr _)]
            simp
          · have h1 := HCSR.out.2.2 j q (r[j]'(by omega)) (cs[j]'(by omega)) hj (List.getElem?_eq_getElem _) (List.getElem?_eq_getElem _)
            have h2 : r.getD (0 + j) (.i 0) = r[j]'(by omega) := by rw [Nat.zero_add, List.getD_eq_getElem?_getD, List.getElem?_eq_getElem (by omega)]; rfl
            show Rep _ _ _ (r.getD (0 + j) (.i 0)) _
            rw [h2]
            exact h1.mono (fun _ h => h) (Nat.le_trans HG.out.size hgx.size) (fun i hi hlt => (hgx.block i (Nat.lt_of_lt_of_le hlt HG.out.size) (by simp)).trans (HG.out.block i hlt (fun e => by injection e with e; exact hi e)))
        · have h1 : vals (fun j => r.getD j (.i 0)) 0 (waitingS : List Fld).length = r := by rw [← HKL.out]; exact vals_getD r _
          rw [h1]
          have h2 := HLE.out
          have h3 := HBD.out
          rw [HTK.out, List.length_append] at h2
          rw [List.length_append, List.length_append]
          omega
      refine go_on ((waiting_coder C wr.heap.size 0 _ _ hpre).mono ?_)
      rintro e w3 ⟨rfl, hp3⟩
      have HE3 := Lib.hid (show Enc w3 C (bs ++ leb n ++ encRows (rows.take (k + 1))) by
        have h1 : vals (fun j => r.getD j (.i 0)) 0 (waitingS : List Fld).length = r := by rw [← HKL.out]; exact vals_getD r _
        have h2 := hp3.1
        rw [h1] at h2
        rw [HTK.out, ← List.append_assoc]
        exact h2)
      have HG3 := Lib.hid (show w.grownBy w3 (some C) from HG.out.trans ((World.grownBy_alloc wr _ _).trans hp3.2))
      clear hp3 hpre hgx
      go_wp2_with fail
      go_roundw
      case rel => exact ⟨k + 1, by go_num, by omega, HE3, HG3⟩
      case measure => simp [intOf]; omega
    · obtain rfl : k = n := by omega
      have HE4 := Lib.hid (show Enc wr C (bs ++ encRow (vals v o 1)) by
        have := HE.out
        rw [List.take_of_length_le (by rw [HRL.out]; exact Nat.le_refl _)] at this
        rw [HVX.out, ← List.append_assoc]
        exact this)
      go_wp2_with fail
      refine bodyPost_ret (results_none rfl _ _ _) rfl ?_
      exact ⟨rfl, HE4.out, HG.out⟩

set_option maxRecDepth 100000 in
set_option maxHeartbeats 4000000 in
theorem allWaiting_dec (C b o R : Nat) (st : St) (w : World) (hpre : Pre C b (.dec R st) [.e waitingS] o w) :
    Calls Try.prog 80 #[.pointer (some ⟨C, 0, none⟩), .pointer (some ⟨b, o, none⟩), .func (.func 81) #[] #[]] w fun e w' => e = .returned (.tuple #[]) ∧ Post C b (.dec R st) [.e waitingS] o w w' := by
  obtain ⟨i0, hi, hz0, hz1, hz2⟩ : ∃ i, Try.prog.info? 100 = some i ∧ i.zero.map (·.cells.size) = some 89 ∧ i.size = 89 ∧ i.bytes = 768 := by
    have h := info100
    cases hq : Try.prog.info? 100 with
    | none => rw [hq] at h; cases h
    | some i => rw [hq] at h; simp at h; exact ⟨i, rfl, by simpa using h.1, h.2.1, h.2.2⟩
  obtain ⟨z0, hz, hzs⟩ : ∃ z, i0.zero = some z ∧ z.cells.size = 89 := by
    cases hq : i0.zero with
    | none => rw [hq] at hz0; cases hz0
    | some z => rw [hq] at hz0; exact ⟨z, rfl, by simpa using hz0⟩
  have HI0 := Lib.hid hi
  have HZ := Lib.hid hz
  have HZS := Lib.hid hzs
  have HZ1 := Lib.hid hz1
  have HZ2 := Lib.hid hz2
  clear hi hz hzs hz0 hz1 hz2
  obtain ⟨hdec, hbC, hRb, cs, Tb, hblk, hsz⟩ := hpre
  have hsz : o + 1 ≤ cs.size := hsz
  obtain ⟨⟨oC, hC1⟩, a, n, c, bs, at', e, hrd, hst, hn⟩ := hdec
  have e1 : w.cell? ⟨C, 1, none⟩ = some (.pointer (some ⟨R, 0, none⟩)) := by rw [blk_cell hC1]; rfl
  have hfr : ∀ off, w.frozen? ⟨b, off, none⟩ = false := blk_free hblk
  obtain ⟨uo, e3⟩ : ∃ u, w.cell? ⟨b, o, none⟩ = some u := ⟨_, by rw [blk_cell hblk]; exact Array.getElem?_eq_getElem (by omega)⟩
  have HBR := Lib.hid hblk
  have HST := Lib.hid hst
  have HNN := Lib.hid hn
  have HC1 := Lib.hid hC1
  have HSZ := Lib.hid hsz
  have hkb : Kept w (w.setCell ⟨b, o, none⟩ (.slice none 0 0)) (fun i => i = b) := Kept.of_grown (Lib.grownBy_setCell w b o _) (fun i hi _ => by injection hi with hi; exact hi.symm)
  have HKB := Lib.hid hkb
  have HD1 := Lib.hid (show Dec (w.setCell ⟨b, o, none⟩ (.slice none 0 0)) C R st from Dec.other ⟨⟨oC, hC1⟩, a, n, c, bs, at', e, hrd, hst, hn⟩ hkb (fun e => hbC e.symm) (fun k hk e => by omega))
  have e1b : (w.setCell ⟨b, o, none⟩ (.slice none 0 0)).cell? ⟨C, 1, none⟩ = some (.pointer (some ⟨R, 0, none⟩)) := by rw [cell?_heap (hkb.block C (blk_lt hC1) (fun e => hbC e.symm))]; exact e1
  have HBK1 := Lib.hid (show (w.setCell ⟨b, o, none⟩ (.slice none 0 0)).heap[b]? = some (.cells (cs.setIfInBounds o (.slice none 0 0)) Tb (0, 0)) from blk_setCell hblk o _)
  have HCW := Lib.hid (blk_lt hC1)
  have HBW := Lib.hid (blk_lt hblk)
  clear hC1 hrd hst hn hblk hsz hkb
  go_enter Try.func80, Try.ntmps80
  go_wp2_with (go_at_call 19; refine halt_here ?_)
  obtain ⟨_, a, n, c, bs, at', e, hrd, hst, hn⟩ := HD1.out
  have HST := Lib.hid hst
  refine go_on ((Uint_any R a n c bs at' e 4096 _ hrd).mono ?_)
  rw [HST.out]
  rintro x w1 ⟨rfl, at2, e2', hr2, hs2, hg2⟩
  have hfin : rdV (.e waitingS) st = (.e (rdN (rdRow waitingS) (uS 4096 st).1 [] (uS 4096 st).2).1, (rdN (rdRow waitingS) (uS 4096 st).1 [] (uS 4096 st).2).2) := by rw [rdV]
  have hv := uS_bd 4096 st
  have HREL := Lib.hid (show AllRel C b R o 100 89 waitingS w cs Tb (rdN (rdRow waitingS) (uS 4096 st).1 [] (uS 4096 st).2) (uS 4096 st).1 [] [] (.slice none 0 0) (uS 4096 st).2 w1 from
    ⟨⟨⟨oC, by rw [hg2.block C (by have := HKB.out.size; have := HCW.out; omega) (fun e => by injection e with e; subst e; exact coder_ne (by rw [HKB.out.block C HCW.out (fun e => hbC e.symm)]; exact HC1.out) hrd rfl), HKB.out.block C HCW.out (fun e => hbC e.symm)]; exact HC1.out⟩, a, n, c, bs, at2, e2', hr2, hs2, hn⟩,
     rfl, by simpa using hv, rfl, fun i r c h => by simp at h, World.ownsRow_nil _ _ _ _, by rw [hg2.block b (by have := HKB.out.size; have := HBW.out; omega) (fun e => by injection e with e; omega)]; exact HBK1.out,
     (HKB.out.mono (fun k _ h => .inr h)).trans (Kept.of_grown hg2 (fun k hk _ => by injection hk with hk; exact .inl hk.symm))⟩)
  generalize rdN (rdRow waitingS) (uS 4096 st).1 [] (uS 4096 st).2 = fin at HREL hfin
  generalize (uS 4096 st).1 = v at HREL hv
  generalize (uS 4096 st).2 = st1 at HREL
  have HFIN := Lib.hid hfin
  clear hrd hst hn hr2 hs2 hg2 hfin e1 e1b e3 hfr HD1 HBK1
  go_wp2_with fail
  go_loopw [8] (fun i wr => ∃ rem : Nat, i = .int .u64 (rem : Int) ∧ rem ≤ 4096 ∧ Hid (∃ acc cells ov stk, AllRel C b R o 100 89 waitingS w cs Tb fin rem acc cells ov stk wr)) (fun i _ => (intOf i).toNat)
  case atStart => exact ⟨v, rfl, hv, Lib.hid ⟨_, _, _, _, HREL.out⟩⟩
  case round =>
    obtain ⟨rem, rfl, hrem, HR⟩ := hrel
    clear HREL
    obtain ⟨acc, cells, ov, stk, hrel⟩ := HR.out
    have HREL := Lib.hid hrel
    clear HR
    obtain ⟨hd, hf, hlen, hcl, hrows, hown, hbk, hkp⟩ := hrel
    obtain ⟨⟨oC1, hC1⟩, a1, n1, c1, bs1, at1, er, hrd1, hst1, hn1⟩ := hd
    have e1 : wr.cell? ⟨C, 1, none⟩ = some (.pointer (some ⟨R, 0, none⟩)) := by rw [blk_cell hC1]; rfl
    have HRD1 := Lib.hid hrd1
    have HST1 := Lib.hid hst1
    have HF := Lib.hid hf
    have HOWN := Lib.hid hown
    have HBK := Lib.hid hbk
    have HKP := Lib.hid hkp
    have HLEN := Lib.hid hlen
    have HDW := Lib.hid (show Dec wr C R stk from ⟨⟨oC1, hC1⟩, a1, n1, c1, bs1, at1, er, hrd1, hst1, hn1⟩)
    clear hC1 hrd1 hst1 hn1 hf hlen hcl hrows hown hbk hkp
    by_cases h0 : rem = 0
    · subst h0
      have HPO := Lib.hid (HREL.out.post len_waitingS (st := st) (by rw [HF.out, rdN]) hRb HBR.out HFIN.out)
      go_wp2_with fail
      refine bodyPost_end (results_none rfl _ _ _) rfl ?_
      exact ⟨rfl, HPO.out⟩
    · have p0 : decide (0 < rem) = true := by simp; omega
      have p0' : decide ((0 : Int) < (rem : Int)) = true := by simp; omega
      obtain ⟨m, hm⟩ : ∃ m, rem = m + 1 := ⟨rem - 1, by omega⟩
      have HM := Lib.hid hm
      clear h0 hm
      go_wp2_with (go_at_call 21; refine halt_here ?_)
      refine go_on ((Err_any R a1 n1 c1 bs1 at1 er wr HRD1.out).mono ?_)
      rintro x w2 ⟨rfl, rfl⟩
      cases stk with
      | error ce =>
        obtain rfl : er = ce := stOf_err_inv HST1.out
        have hne : er ≠ 0 := fun h => by have := HST1.out; rw [h, stOf_ok] at this; cases this
        have p1 : ((er : Int) == 0) = false := by simp; omega
        have HPO := Lib.hid (HREL.out.post len_waitingS (st := st) (by rw [HF.out, HM.out, rdN]) hRb HBR.out HFIN.out)
        clear hne
        go_wp2_with fail
        refine bodyPost_end (results_none rfl _ _ _) rfl ?_
        exact ⟨rfl, HPO.out⟩
      | ok bk =>
        obtain ⟨rfl, -⟩ := stOf_ok_inv HST1.out
        have HPRE := Lib.hid (show ∀ zs : Array Value, zs.size = 89 → Pre C wr.heap.size (.dec R (.ok bk)) waitingS 0 (wr.alloc (.cells zs 100)) from fun zs hzs =>
          ⟨HDW.out.grown (World.grownBy_alloc _ _ _), fun e => by have := HCW.out; have := HKP.out.size; omega, by have := HBW.out; have := HKP.out.size; omega, zs, 100, heap_alloc_new wr _, by rw [hzs]; exact Nat.le_of_eq (by rw [Nat.zero_add]; exact len_waitingS)⟩)
        obtain ⟨ao, co, hov, -⟩ := ownsRow_rd HOWN.out
        have HNA := Lib.hid (show acc.length ≤ 4095 by have := HLEN.out; have := HM.out; omega)
        generalize hal : acc.length = na at hov
        have HAL := Lib.hid hal
        clear hal
        subst hov
        have hwr : IntKind.u64.wrap ((rem : Int) - 1) = (m : Int) := by have := HM.out; rw [wrapU _ (by omega) (by omega)]; omega
        go_wp2_with (go_at_call 81; refine halt_here ?_)
        refine go_on ((waiting_coder C wr.heap.size 0 _ _ (HPRE.out _ rfl)).mono ?_)
        rintro x w2 ⟨rfl, hd2, -, -, hk2, us, hrow, hX⟩
        have hus : us.length = 89 := by rw [hrow.2.1, len_waitingS]
        have hX2 : w2.heap[wr.heap.size]? = some (.cells us.toArray 100 (0, 0)) := by
          have := hX _ _ (heap_alloc_new wr _)
          rwa [splice_all (by rw [hus]; rfl)] at this
        have hkb2 : w2.heap[b]? = some (.cells (cs.setIfInBounds o (.slice ao na co)) Tb (0, 0)) := by
          have h1 : b < wr.heap.size := blk_lt HBK.out
          rw [hk2.block b (by simp; omega) (fun e => by rcases e with e | e <;> omega), (World.grownBy_alloc wr _ none).block b h1 (by simp)]
          exact HBK.out
        have HX2 := Lib.hid hX2
        have HKB2 := Lib.hid hkb2
        have HD2 := Lib.hid hd2
        have HK2 := Lib.hid hk2
        have HROW := Lib.hid hrow
        have HUS := Lib.hid hus
        have HUSZ := Lib.hid (show us.toArray.size = 89 by rw [List.size_toArray, hus])
        have HI2 := Lib.hid (show (Try.prog.info? 100).map (·.size) = some us.toArray.size by rw [List.size_toArray, hus]; exact size100)
        have HONE := Lib.hid (row_one hrow)
        have d1 : w2.cell? ⟨b, o, none⟩ = some (.slice ao na co) := by rw [blk_cell hkb2]; exact set_get (by have := HSZ.out; omega)
        clear hd2 hk2 hrow hX hus hX2 hkb2
        go_wp2_with fail
        refine wp_region_plan [(0, none), (1, none), (2, none), (3, some none), (4, some none), (5, some (some true)), (6, some (some false)), (7, none), (8, some (some false))] (by kernel_rfl) (by kernel_rfl) ?_
        refine plan_free (v := ?_) rfl rfl (fun _ => ?_) (fun K hK => ?_); rotate_left 1; (focus (go_simp <;> exact rfl)); go_simp; refine hK _ _ ?_; clear hK K
        refine plan_free (v := ?_) rfl rfl (fun _ => ?_) (fun K hK => ?_); rotate_left 1; (focus (go_simp <;> exact rfl)); go_simp; refine hK _ _ ?_; clear hK K
        refine plan_free (v := ?_) rfl rfl (fun _ => ?_) (fun K hK => ?_); rotate_left 1; (focus (go_simp <;> exact rfl)); go_simp; refine hK _ _ ?_; clear hK K
        refine plan_held (v := ?_) rfl rfl ?_ (fun K hK => ?_); rotate_left 1; (focus (go_simp <;> exact rfl)); go_simp; refine hK _ _ ?_; clear hK K
        refine plan_held (v := .agg us.toArray) rfl rfl (exec_load_row 100 (.tmp 9) rfl wr.heap.size rfl 100 us.toArray (0, 0) _ HX2.out Try.underlying100 rfl HI2.out) (fun K hK => ?_)
        refine hK _ _ ?_
        clear hK K
        refine plan_effH rfl rfl (fun K hK => ?_)
        refine wp_build_one 26 100 (.tmp 67) rfl us.toArray i0 z0 89 Try.underlying26 HI0.out HZ.out HZ1.out (by decide) (by decide) rfl HUSZ.out ?_
        have HG3 := Lib.hid (show w2.grownBy (w2.drew.alloc (.cells us.toArray 100)) none from drew_g (World.grownBy_alloc w2.drew _ _))
        have HX3 := Lib.hid (show (w2.drew.alloc (.cells us.toArray 100)).heap[wr.heap.size]? = some (.cells us.toArray 100 (0, 0)) by rw [HG3.out.block _ (blk_lt HX2.out) (by simp)]; exact HX2.out)
        have HY3 := Lib.hid (show (w2.drew.alloc (.cells us.toArray 100)).heap[w2.drew.heap.size]? = some (.cells us.toArray 100 (0, 0)) from heap_alloc_new w2.drew _)
        have HKB3 := Lib.hid (show (w2.drew.alloc (.cells us.toArray 100)).heap[b]? = some (.cells (cs.setIfInBounds o (.slice ao na co)) Tb (0, 0)) by rw [HG3.out.block _ (blk_lt HKB2.out) (by simp)]; exact HKB2.out)
        have d3 : (w2.drew.alloc (.cells us.toArray 100)).cell? ⟨b, o, none⟩ = some (.slice ao na co) := by rw [blk_cell HKB3.out]; exact set_get (by have := HSZ.out; omega)
        have HOWN3 := Lib.hid (show (w2.drew.alloc (.cells us.toArray 100)).ownsRow w.heap.size 100 89 (.slice ao na co) na cells.flatten by
          have h1 := HOWN.out
          rw [HAL.out] at h1
          refine World.ownsRow.kept (row := none) (own_keptR (h1.alloc _) HK2.out (fun k hk => ?_)) HG3.out (by cases ao with | none => exact .inl rfl | some ad => exact .inr (by simp [Value.ownBlock]))
          have h2 := HOWN.out.lt k hk
          have h3 := HBW.out
          intro e
          rcases e with e | e <;> omega)
        generalize w2.drew.alloc (.cells us.toArray 100) = w3 at HG3 HX3 HY3 HKB3 d3 HOWN3
        generalize w2.drew.heap.size = Y at HY3
        refine hK _ _ ⟨⟨exec_load_row 100 (.tmp 9) rfl wr.heap.size rfl 100 us.toArray (0, 0) _ HX3.out Try.underlying100 rfl HI2.out, by go_simp, trivial⟩, ?_⟩
        clear hK K
        refine plan_eff rfl rfl (fun K hK => ?_)
        refine wp_append_one (.tmp 66) (.tmp 68) 26 rfl w.heap.size 100 i0 z0 89 768 Try.underlying26 HI0.out HZ.out HZ1.out HZ2.out HZS.out (by decide) _ na cells.flatten rfl HOWN3.out Y 1 us rfl HUS.out (fun j u hj => by rw [blk_cell HY3.out]; simpa using hj) HONE.out (by have := HNA.out; have := HAL.out; omega) (by have := HNA.out; have := HAL.out; omega) (Nat.le_trans HKP.out.size (Nat.le_trans (Nat.le_trans (by simp) HK2.out.size) HG3.out.size)) ?_
        intro v' w4 how4 hg4 hv4
        refine hK _ _ ?_
        clear hK K
        have hb3 : b < w3.heap.size := blk_lt HKB3.out
        have hbo : ∀ k, (Value.slice ao na co).ownBlock = some k → k ≠ b := fun k hk e => by have := HOWN.out.lt k hk; have := HBW.out; omega
        have HKB4 := Lib.hid (show w4.heap[b]? = some (.cells (cs.setIfInBounds o (.slice ao na co)) Tb (0, 0)) by rw [hg4.block b hb3 (fun e => hbo b e.symm rfl)]; exact HKB3.out)
        have d4 : w4.cell? ⟨b, o, none⟩ = some (.slice ao na co) := by rw [blk_cell HKB4.out]; exact set_get (by have := HSZ.out; omega)
        have dfr : ∀ off, w4.frozen? ⟨b, off, none⟩ = false := blk_free HKB4.out
        have HREL2 := Lib.hid (AllRel.step (zs := _) (m := m) (by have := HREL.out; rwa [HM.out] at this) hbC hRb HCW.out HBW.out HD2.out HK2.out HROW.out HG3.out (by rw [HAL.out]; exact how4) hg4 hv4)
        obtain ⟨a5, c5, rfl, -⟩ := ownsRow_rd how4
        clear how4 hg4 hv4 hb3 hbo d1 d3
        refine plan_free (v := ?_) rfl rfl (fun _ => ?_) (fun K hK => ?_); rotate_left 1; (focus (go_simp <;> exact rfl)); go_simp; refine hK _ _ ?_; clear hK K
        refine plan_eff rfl rfl (fun K hK => ?_)
        go_wp2_with fail
        refine plan_nil ?_
        go_wp2_with fail
        go_roundw
        case rel => exact ⟨m, rfl, by have := HM.out; omega, Lib.hid ⟨_, _, _, _, HREL2.out⟩⟩
        case measure => simp [intOf]; have := HM.out; omega

theorem allWaiting_coder : CoderA 80 81 waitingS := by
  intro C b o M w hpre
  cases M with
  | enc bs v => exact allWaiting_enc C b o bs v w hpre
  | dec R st => exact allWaiting_dec C b o R st w hpre
end Go.Proofs.Ytbcpdjhpceimlaa
