/-
  A state of layer 27's coder.
-/
import Derived.Test.YtbcpdjhpceimlaaAllPlayer
import Derived.Test.YtbcpdjhpceimlaaAllObject
import Derived.Test.YtbcpdjhpceimlaaAllCont
import Derived.Test.YtbcpdjhpceimlaaAllItem
import Derived.Test.YtbcpdjhpceimlaaAllWaiting
namespace Go.Proofs.Ytbcpdjhpceimlaa
open Go.ChangeShapes Go.WideShapes Go.ChangeAt Go.RowKit
set_option linter.unusedVariables false

/-- The seed, encoded: what the walk needs and what it owes. -/
theorem seed_enc {C b o : Nat} {bs : Bytes} {v : Nat → V} {w : World} (h : Pre C b (.enc bs v) [.u] o w) : ∃ (a : Option Addr) (n c x : Nat), w.heap[C]? = some (.cells #[.slice a n c, .pointer none] 104 (0, 0)) ∧ CellsAt w a (bc bs) ∧ bs.length = n ∧ (a = none → n = 0 ∧ c = 0) ∧
    w.cell? ⟨b, o, none⟩ = some (.int .u64 (x : Int)) ∧ x < 18446744073709551616 ∧ bs.length + (leb x).length ≤ 140737488355000 ∧
    ∀ (w2 : World) (v2 : Value) (B : Nat), Below w.heap.size w w2 → w2.ownsRow B 5 1 v2 (bs ++ leb x).length (bc (bs ++ leb x)) → Post C b (.enc bs v) [.u] o w (w2.setCell ⟨C, 0, none⟩ v2) := by
  obtain ⟨henc, hbC, hfld, hbd⟩ := h
  have HE := henc
  obtain ⟨a, n, c, h1, h2, h3, h4, h5⟩ := henc
  obtain ⟨u0, hcell, hrep⟩ := hfld 0 .u rfl
  obtain ⟨x, hvx, rfl, hx⟩ := rep_u hrep
  have hvx' : encRow (vals v o 1) = leb x := by rw [vals_one, encRow_one, show v o = .u x from hvx]; rfl
  refine ⟨a, n, c, x, h1, h2, h3, h4, hcell, hx, by rw [← hvx']; exact hbd, fun w2 v2 B hb how => ?_⟩
  obtain ⟨p1, p2⟩ := HE.put hb how
  exact ⟨by show Enc _ C (bs ++ encRow (vals v o 1)); rw [hvx']; exact p1, p2⟩

/-- The seed, decoded. -/
theorem seed_dec {C b o R : Nat} {st : St} {w : World} (h : Pre C b (.dec R st) [.u] o w) : ∃ (oC : Value) (a : Option Addr) (n c : Nat) (bs : Bytes) (at' e : Nat) (uo : Value), w.heap[C]? = some (.cells #[oC, .pointer (some ⟨R, 0, none⟩)] 104 (0, 0)) ∧ RdrAt 109 w R a n c bs at' e ∧ stOf bs at' e = st ∧
    w.cell? ⟨b, o, none⟩ = some uo ∧ (∀ off, w.frozen? ⟨b, off, none⟩ = false) ∧
    ∀ w2 : World, Left' 109 w w2 R a n c bs (uS top64 st).2 → w2.cell? ⟨b, o, none⟩ = some uo ∧ (∀ off, w2.frozen? ⟨b, off, none⟩ = false) ∧ Post C b (.dec R st) [.u] o w (w2.setCell ⟨b, o, none⟩ (.int .u64 ((uS top64 st).1 : Nat))) := by
  obtain ⟨hdec, hbC, hRb, cs, Tb, hblk, hsz⟩ := h
  have hrel := DecRel.start (b := b) (o := o) (q := .u) hdec
  obtain ⟨⟨oC, hC1⟩, a, n, c, bs, at', e, hrd, hst, hn⟩ := hdec
  have hsz : o + 1 ≤ cs.size := hsz
  have hcell : w.cell? ⟨b, o, none⟩ = some (cs[o]'(by omega)) := by rw [blk_cell hblk]; exact Array.getElem?_eq_getElem (by omega)
  refine ⟨oC, a, n, c, bs, at', e, _, hC1, hrd, hst, hcell, blk_free hblk, fun w2 hleft => ?_⟩
  obtain ⟨at2, e2, hr2, hs2, hg2⟩ := hleft
  have hb2 : w2.heap[b]? = some (.cells cs Tb (0, 0)) := by rw [hg2.block b (blk_lt hblk) (fun e => by injection e with e; omega)]; exact hblk
  have hd2 : Dec w2 C R (rdV .u (rdRow (List.replicate 0 .u) st).2).2 := ⟨⟨oC, by rw [hg2.block C (blk_lt hC1) (fun e => by injection e with e; exact coder_ne hC1 hrd e)]; exact hC1⟩, a, n, c, bs, at2, e2, hr2, hs2, hn⟩
  have hb := uS_bd top64 st
  have hrel2 := hrel.step hbC hRb (blk_lt hblk) hg2 hd2 (u := .int .u64 ((uS top64 st).1 : Nat)) (Rep.u _ (show (uS top64 st).1 < 18446744073709551616 by unfold top64 at hb ⊢; omega))
  obtain ⟨g1, g2, us, g3, g4⟩ := hrel2
  exact ⟨by rw [blk_cell hb2, ← blk_cell hblk]; exact hcell, blk_free hb2, g1, hRb, blk_lt hblk, g2, us, g3, g4⟩

/-- A state. -/
abbrev stateS : List Fld := [.e playerS] ++ ([.e objectS] ++ (List.replicate 2 .l ++ ([.e itemS] ++ ([.e waitingS] ++ ([.e contS] ++ (List.replicate 3 .i ++ (List.replicate 1 .b ++ (List.replicate 4 .i ++ ([.u] ++ (List.replicate 1 .l ++ (List.replicate 2 .i ++ [])))))))))))

set_option maxRecDepth 100000 in
set_option maxHeartbeats 8000000 in
theorem state_coder : Coder 41 stateS := by
  intro C b o M w hpre
  have HM0 := Lib.hid (Mid.start hpre)
  clear hpre
  go_enter Try.func41, Try.ntmps41
  go_wp2_with (go_at_call 73; refine halt_here ?_)
  refine go_on ((HM0.out.all allPlayer_coder _ rfl).mono ?_)
  rintro e w1 ⟨rfl, HM1⟩
  clear HM0
  go_wp2_with (go_at_call 75; refine halt_here ?_)
  refine go_on ((HM1.out.all allObject_coder _ rfl).mono ?_)
  rintro e w2 ⟨rfl, HM2⟩
  clear HM1
  go_wp2_with fail
  refine wp_region_plan [(0, none), (1, none), (2, none), (3, none), (4, none), (5, none), (6, none), (7, some (some false)), (8, some (some false))] (by kernel_rfl) (by kernel_rfl) ?_
  repeat (first | (refine plan_free (v := ?_) rfl rfl (fun _ => ?_) (fun K hK => ?_); rotate_left 1; (focus (go_simp <;> exact rfl)); go_simp; refine hK _ _ ?_; clear hK K) | (refine plan_held (v := ?_) rfl rfl ?_ (fun K hK => ?_); rotate_left 1; (focus (go_simp <;> exact rfl)); go_simp; refine hK _ _ ?_; clear hK K) | (refine plan_skip rfl rfl (fun K hK => ?_); go_simp; refine hK _ _ ?_; clear hK K))
  refine plan_eff rfl rfl (fun K hK => ?_)
  go_wp2_with fail
  repeat (first | (refine plan_free (v := ?_) rfl rfl (fun _ => ?_) (fun K hK => ?_); rotate_left 1; (focus (go_simp <;> exact rfl)); go_simp; refine hK _ _ ?_; clear hK K) | (refine plan_held (v := ?_) rfl rfl ?_ (fun K hK => ?_); rotate_left 1; (focus (go_simp <;> exact rfl)); go_simp; refine hK _ _ ?_; clear hK K) | (refine plan_skip rfl rfl (fun K hK => ?_); go_simp; refine hK _ _ ?_; clear hK K))
  refine plan_eff rfl rfl (fun K hK => ?_)
  go_wp2_with (go_at_call 77; refine halt_here ?_)
  refine go_on ((HM2.out.leaf lists_coder (m := 2) (by decide) _ (g_drew (World.grownBy_alloc _ _ _)) _ (Nat.le_refl _) _ (heap_alloc_new _ _) rfl).mono ?_)
  rintro e w3 ⟨rfl, HM3⟩
  clear HM2
  go_wp2_with fail
  repeat (first | (refine plan_free (v := ?_) rfl rfl (fun _ => ?_) (fun K hK => ?_); rotate_left 1; (focus (go_simp <;> exact rfl)); go_simp; refine hK _ _ ?_; clear hK K) | (refine plan_held (v := ?_) rfl rfl ?_ (fun K hK => ?_); rotate_left 1; (focus (go_simp <;> exact rfl)); go_simp; refine hK _ _ ?_; clear hK K) | (refine plan_skip rfl rfl (fun K hK => ?_); go_simp; refine hK _ _ ?_; clear hK K))
  refine plan_nil ?_
  go_wp2_with (go_at_call 78; refine halt_here ?_)
  refine go_on ((HM3.out.all allItem_coder _ rfl).mono ?_)
  rintro e w4 ⟨rfl, HM4⟩
  clear HM3
  go_wp2_with (go_at_call 80; refine halt_here ?_)
  refine go_on ((HM4.out.all allWaiting_coder _ rfl).mono ?_)
  rintro e w5 ⟨rfl, HM5⟩
  clear HM4
  go_wp2_with (go_at_call 82; refine halt_here ?_)
  refine go_on ((HM5.out.all allCont_coder _ rfl).mono ?_)
  rintro e w6 ⟨rfl, HM6⟩
  clear HM5
  go_wp2_with fail
  refine wp_region_plan [(0, none), (1, none), (2, none), (3, none), (4, none), (5, none), (6, none), (7, none), (8, none), (9, none), (10, some (some false)), (11, some (some false))] (by kernel_rfl) (by kernel_rfl) ?_
  repeat (first | (refine plan_free (v := ?_) rfl rfl (fun _ => ?_) (fun K hK => ?_); rotate_left 1; (focus (go_simp <;> exact rfl)); go_simp; refine hK _ _ ?_; clear hK K) | (refine plan_held (v := ?_) rfl rfl ?_ (fun K hK => ?_); rotate_left 1; (focus (go_simp <;> exact rfl)); go_simp; refine hK _ _ ?_; clear hK K) | (refine plan_skip rfl rfl (fun K hK => ?_); go_simp; refine hK _ _ ?_; clear hK K))
  refine plan_eff rfl rfl (fun K hK => ?_)
  go_wp2_with fail
  repeat (first | (refine plan_free (v := ?_) rfl rfl (fun _ => ?_) (fun K hK => ?_); rotate_left 1; (focus (go_simp <;> exact rfl)); go_simp; refine hK _ _ ?_; clear hK K) | (refine plan_held (v := ?_) rfl rfl ?_ (fun K hK => ?_); rotate_left 1; (focus (go_simp <;> exact rfl)); go_simp; refine hK _ _ ?_; clear hK K) | (refine plan_skip rfl rfl (fun K hK => ?_); go_simp; refine hK _ _ ?_; clear hK K))
  refine plan_eff rfl rfl (fun K hK => ?_)
  go_wp2_with (go_at_call 84; refine halt_here ?_)
  refine go_on ((HM6.out.leaf ints_coder (m := 3) (by decide) _ (g_drew (World.grownBy_alloc _ _ _)) _ (Nat.le_refl _) _ (heap_alloc_new _ _) rfl).mono ?_)
  rintro e w7 ⟨rfl, HM7⟩
  clear HM6
  go_wp2_with fail
  repeat (first | (refine plan_free (v := ?_) rfl rfl (fun _ => ?_) (fun K hK => ?_); rotate_left 1; (focus (go_simp <;> exact rfl)); go_simp; refine hK _ _ ?_; clear hK K) | (refine plan_held (v := ?_) rfl rfl ?_ (fun K hK => ?_); rotate_left 1; (focus (go_simp <;> exact rfl)); go_simp; refine hK _ _ ?_; clear hK K) | (refine plan_skip rfl rfl (fun K hK => ?_); go_simp; refine hK _ _ ?_; clear hK K))
  refine plan_nil ?_
  go_wp2_with (go_at_call 85; refine halt_here ?_)
  refine go_on ((HM7.out.leaf bools_coder (m := 1) (by decide) _ (World.grownBy_alloc _ _ _) _ (Nat.le_refl _) _ (heap_alloc_new _ _) rfl).mono ?_)
  rintro e w8 ⟨rfl, HM8⟩
  clear HM7
  go_wp2_with fail
  refine wp_region_plan [(0, none), (1, none), (2, none), (3, none), (4, none), (5, none), (6, none), (7, none), (8, none), (9, none), (10, none), (11, none), (12, none), (13, some (some false)), (14, some (some false))] (by kernel_rfl) (by kernel_rfl) ?_
  repeat (first | (refine plan_free (v := ?_) rfl rfl (fun _ => ?_) (fun K hK => ?_); rotate_left 1; (focus (go_simp <;> exact rfl)); go_simp; refine hK _ _ ?_; clear hK K) | (refine plan_held (v := ?_) rfl rfl ?_ (fun K hK => ?_); rotate_left 1; (focus (go_simp <;> exact rfl)); go_simp; refine hK _ _ ?_; clear hK K) | (refine plan_skip rfl rfl (fun K hK => ?_); go_simp; refine hK _ _ ?_; clear hK K))
  refine plan_eff rfl rfl (fun K hK => ?_)
  go_wp2_with fail
  repeat (first | (refine plan_free (v := ?_) rfl rfl (fun _ => ?_) (fun K hK => ?_); rotate_left 1; (focus (go_simp <;> exact rfl)); go_simp; refine hK _ _ ?_; clear hK K) | (refine plan_held (v := ?_) rfl rfl ?_ (fun K hK => ?_); rotate_left 1; (focus (go_simp <;> exact rfl)); go_simp; refine hK _ _ ?_; clear hK K) | (refine plan_skip rfl rfl (fun K hK => ?_); go_simp; refine hK _ _ ?_; clear hK K))
  refine plan_eff rfl rfl (fun K hK => ?_)
  go_wp2_with (go_at_call 84; refine halt_here ?_)
  refine go_on ((HM8.out.leaf ints_coder (m := 4) (by decide) _ (g_drew (World.grownBy_alloc _ _ _)) _ (Nat.le_refl _) _ (heap_alloc_new _ _) rfl).mono ?_)
  rintro e w9 ⟨rfl, HM9⟩
  clear HM8
  go_wp2_with fail
  repeat (first | (refine plan_free (v := ?_) rfl rfl (fun _ => ?_) (fun K hK => ?_); rotate_left 1; (focus (go_simp <;> exact rfl)); go_simp; refine hK _ _ ?_; clear hK K) | (refine plan_held (v := ?_) rfl rfl ?_ (fun K hK => ?_); rotate_left 1; (focus (go_simp <;> exact rfl)); go_simp; refine hK _ _ ?_; clear hK K) | (refine plan_skip rfl rfl (fun K hK => ?_); go_simp; refine hK _ _ ?_; clear hK K))
  refine plan_nil ?_
  have hpre9 := HM9.out.pre (s := [.u]) (World.grownBy.refl _ _)
  cases M with
  | enc bs v =>
    obtain ⟨a, n, c, x, h1, h2, h3, h4, h5, h6, h7, h8⟩ := seed_enc hpre9
    have HPOST := Lib.hid h8
    have e0 : w9.cell? ⟨C, 0, none⟩ = some (.slice a n c) := by rw [blk_cell h1]; rfl
    have e1 : w9.cell? ⟨C, 1, none⟩ = some (.pointer none) := by rw [blk_cell h1]; rfl
    have hfr : ∀ off, w9.frozen? ⟨C, off, none⟩ = false := blk_free h1
    have e3 : w9.cell? ⟨b, o + 15, none⟩ = some (.int .u64 (x : Int)) := h5
    have a0 : (w9.alloc (.cells #[.int .u64 (x : Int)] 28)).cell? ⟨C, 0, none⟩ = some (.slice a n c) := ext_of_below ((Below.refl _ _).alloc (Nat.le_refl _) _) _ _ e0
    have a1 : (w9.alloc (.cells #[.int .u64 (x : Int)] 28)).cell? ⟨b, o + 15, none⟩ = some (.int .u64 (x : Int)) := ext_of_below ((Below.refl _ _).alloc (Nat.le_refl _) _) _ _ e3
    have HC1 := Lib.hid h1
    have HC := Lib.hid h2
    have HL := Lib.hid h3
    have HN := Lib.hid h4
    have HX := Lib.hid h6
    have HB := Lib.hid h7
    clear h1 h2 h3 h4 h5 h6 h7 h8 hpre9
    go_wp2_with fail
    refine wp_region_plan [(0, none), (1, none), (2, none), (3, none), (4, some none), (5, none), (6, none), (7, none), (8, some none), (9, some (some true)), (10, some (some false)), (11, none), (12, none), (13, some (some false))] (by kernel_rfl) (by kernel_rfl) ?_
    repeat (first | (refine plan_free (v := ?_) rfl rfl (fun _ => ?_) (fun K hK => ?_); rotate_left 1; (focus (go_simp <;> exact rfl)); go_simp; refine hK _ _ ?_; clear hK K) | (refine plan_held (v := ?_) rfl rfl ?_ (fun K hK => ?_); rotate_left 1; (focus (go_simp <;> exact rfl)); go_simp; refine hK _ _ ?_; clear hK K) | (refine plan_skip rfl rfl (fun K hK => ?_); go_simp; refine hK _ _ ?_; clear hK K))
    refine plan_effH rfl rfl (fun K hK => ?_)
    go_wp2_with fail
    refine ⟨⟨by go_simp, by go_simp, trivial⟩, ?_⟩
    repeat (first | (refine plan_free (v := ?_) rfl rfl (fun _ => ?_) (fun K hK => ?_); rotate_left 1; (focus (go_simp <;> exact rfl)); go_simp; refine hK _ _ ?_; clear hK K) | (refine plan_held (v := ?_) rfl rfl ?_ (fun K hK => ?_); rotate_left 1; (focus (go_simp <;> exact rfl)); go_simp; refine hK _ _ ?_; clear hK K) | (refine plan_skip rfl rfl (fun K hK => ?_); go_simp; refine hK _ _ ?_; clear hK K))
    refine plan_eff rfl rfl (fun K hK => ?_)
    go_wp2_with (go_at_call 24; refine halt_here ?_)
    have hbx : Below w9.heap.size w9 (w9.alloc (.cells #[.int .u64 (x : Int)] 28)).drew := ((Below.refl _ _).alloc (Nat.le_refl _) _).drew
    have HBX := Lib.hid hbx
    clear hbx
    have e2 : encU [x] = leb x := by simp [encU]
    have HE2 := Lib.hid e2
    clear e2
    refine go_on ((Put_any a n c _ _ 1 1 [x] _ (HC.out.below HBX.out) HN.out HL.out ((uc_one w9 x).below (Below.refl _ _).drew) rfl (by decide) (fun y hy => by simp at hy; have := HX.out; omega) (by rw [HE2.out]; exact HB.out)).mono ?_)
    rintro e wa ⟨v1, rfl, how, hb1⟩
    rw [HE2.out] at how
    have HB1 := Lib.hid (HBX.out.trans (hb1.mono HBX.out.size))
    have HP1 := Lib.hid (HPOST.out wa v1 _ HB1.out how)
    have f2 : ∀ off, wa.frozen? ⟨C, off, none⟩ = false := blk_free ((HB1.out.block C (blk_lt HC1.out)).trans HC1.out)
    have f3 : (wa.cell? ⟨C, 0, none⟩) = some (.slice a n c) := by rw [HB1.out.cell (blk_lt HC1.out)]; exact e0
    obtain ⟨a2, n2, c2, rfl, -, -, -⟩ := own_open how
    clear how hb1
    go_wp2_with fail
    repeat (first | (refine plan_free (v := ?_) rfl rfl (fun _ => ?_) (fun K hK => ?_); rotate_left 1; (focus (go_simp <;> exact rfl)); go_simp; refine hK _ _ ?_; clear hK K) | (refine plan_held (v := ?_) rfl rfl ?_ (fun K hK => ?_); rotate_left 1; (focus (go_simp <;> exact rfl)); go_simp; refine hK _ _ ?_; clear hK K) | (refine plan_skip rfl rfl (fun K hK => ?_); go_simp; refine hK _ _ ?_; clear hK K))
    refine plan_eff rfl rfl (fun K hK => ?_)
    go_wp2_with fail
    repeat (first | (refine plan_free (v := ?_) rfl rfl (fun _ => ?_) (fun K hK => ?_); rotate_left 1; (focus (go_simp <;> exact rfl)); go_simp; refine hK _ _ ?_; clear hK K) | (refine plan_held (v := ?_) rfl rfl ?_ (fun K hK => ?_); rotate_left 1; (focus (go_simp <;> exact rfl)); go_simp; refine hK _ _ ?_; clear hK K) | (refine plan_skip rfl rfl (fun K hK => ?_); go_simp; refine hK _ _ ?_; clear hK K))
    refine plan_nil ?_
    have HM10 := Lib.hid (HM9.out.step (World.grownBy.refl _ _) HP1.out)
    clear HM9 HP1 HPOST f2 f3 e0 e1 e3 a0 a1 hfr HB1 HBX HC HC1
    generalize wa.setCell ⟨C, 0, none⟩ (.slice a2 n2 c2) = w10 at HM10
    go_wp2_with (go_at_call 77; refine halt_here ?_)
    refine go_on ((HM10.out.leaf lists_coder (m := 1) (by decide) _ (World.grownBy_alloc _ _ _) _ (Nat.le_refl _) _ (heap_alloc_new _ _) rfl).mono ?_)
    rintro e w11 ⟨rfl, HM11⟩
    clear HM10
    go_wp2_with fail
    refine wp_region_plan [(0, none), (1, none), (2, none), (3, none), (4, none), (5, none), (6, none), (7, some (some false)), (8, some (some false))] (by kernel_rfl) (by kernel_rfl) ?_
    repeat (first | (refine plan_free (v := ?_) rfl rfl (fun _ => ?_) (fun K hK => ?_); rotate_left 1; (focus (go_simp <;> exact rfl)); go_simp; refine hK _ _ ?_; clear hK K) | (refine plan_held (v := ?_) rfl rfl ?_ (fun K hK => ?_); rotate_left 1; (focus (go_simp <;> exact rfl)); go_simp; refine hK _ _ ?_; clear hK K) | (refine plan_skip rfl rfl (fun K hK => ?_); go_simp; refine hK _ _ ?_; clear hK K))
    refine plan_eff rfl rfl (fun K hK => ?_)
    go_wp2_with fail
    repeat (first | (refine plan_free (v := ?_) rfl rfl (fun _ => ?_) (fun K hK => ?_); rotate_left 1; (focus (go_simp <;> exact rfl)); go_simp; refine hK _ _ ?_; clear hK K) | (refine plan_held (v := ?_) rfl rfl ?_ (fun K hK => ?_); rotate_left 1; (focus (go_simp <;> exact rfl)); go_simp; refine hK _ _ ?_; clear hK K) | (refine plan_skip rfl rfl (fun K hK => ?_); go_simp; refine hK _ _ ?_; clear hK K))
    refine plan_eff rfl rfl (fun K hK => ?_)
    go_wp2_with (go_at_call 84; refine halt_here ?_)
    refine go_on ((HM11.out.leaf ints_coder (m := 2) (by decide) _ (g_drew (World.grownBy_alloc _ _ _)) _ (Nat.le_refl _) _ (heap_alloc_new _ _) rfl).mono ?_)
    rintro e w12 ⟨rfl, HM12⟩
    clear HM11
    go_wp2_with fail
    repeat (first | (refine plan_free (v := ?_) rfl rfl (fun _ => ?_) (fun K hK => ?_); rotate_left 1; (focus (go_simp <;> exact rfl)); go_simp; refine hK _ _ ?_; clear hK K) | (refine plan_held (v := ?_) rfl rfl ?_ (fun K hK => ?_); rotate_left 1; (focus (go_simp <;> exact rfl)); go_simp; refine hK _ _ ?_; clear hK K) | (refine plan_skip rfl rfl (fun K hK => ?_); go_simp; refine hK _ _ ?_; clear hK K))
    refine plan_nil ?_
    go_wp2_with fail
    refine bodyPost_end (results_none rfl _ _ _) rfl ?_
    exact ⟨rfl, HM12.out.last rfl rfl⟩
  | dec R st =>
    obtain ⟨oC, a, n, c, bs, at', e, uo, h1, h2, h3, h4, h5, h6⟩ := seed_dec hpre9
    have HPOST := Lib.hid h6
    have e1 : w9.cell? ⟨C, 1, none⟩ = some (.pointer (some ⟨R, 0, none⟩)) := by rw [blk_cell h1]; rfl
    have e3 : w9.cell? ⟨b, o + 15, none⟩ = some uo := h4
    have hfr := h5
    have HRD := Lib.hid h2
    have HST := Lib.hid h3
    clear h1 h2 h3 h4 h5 h6 hpre9
    obtain ⟨vv, hvv⟩ : ∃ vv, (uS 18446744073709551615 (stOf bs at' e)).1 = vv := ⟨_, rfl⟩
    have HVV := Lib.hid hvv
    clear hvv
    go_wp2_with (go_at_call 19; refine halt_here ?_)
    refine go_on ((Uint_any R a n c bs at' e 18446744073709551615 w9 HRD.out).mono ?_)
    rw [HVV.out]
    rintro x wa ⟨rfl, hl⟩
    rw [HST.out] at hl
    obtain ⟨d1, d2, d3⟩ := HPOST.out wa hl
    have d1' : wa.cell? ⟨b, o + 15, none⟩ = some uo := d1
    have hv2 := HVV.out
    rw [HST.out] at hv2
    have HM10 := Lib.hid (show Mid C b (.dec R st) (((((((((([] ++ [.e playerS]) ++ [.e objectS]) ++ List.replicate 2 .l) ++ [.e itemS]) ++ [.e waitingS]) ++ [.e contS]) ++ List.replicate 3 .i) ++ List.replicate 1 .b) ++ List.replicate 4 .i) ++ [.u]) (List.replicate 1 .l ++ (List.replicate 2 .i ++ ([]))) o w (wa.setCell ⟨b, o + 15, none⟩ (.int .u64 (vv : Int))) by
      have h := HM9.out.step (World.grownBy.refl _ _) d3
      have e : (uS top64 (rdRow (((((((((([] ++ [.e playerS]) ++ [.e objectS]) ++ List.replicate 2 .l) ++ [.e itemS]) ++ [.e waitingS]) ++ [.e contS]) ++ List.replicate 3 .i) ++ List.replicate 1 .b) ++ List.replicate 4 .i)) st).2).1 = vv := hv2
      rw [← e]
      exact h)
    clear HM9 hl d3 d1 e3 e1 hfr HPOST hv2
    go_wp2_with (go_at_call 77; refine halt_here ?_)
    refine go_on ((HM10.out.leaf lists_coder (m := 1) (by decide) _ (World.grownBy_alloc _ _ _) wa.heap.size (Nat.le_of_eq (by simp)) #[.pointer (some ⟨b, o + 16, none⟩)] (by have h := heap_alloc_new (wa.setCell ⟨b, o + 15, none⟩ (.int .u64 (vv : Int))) (.cells #[.pointer (some ⟨b, o + 16, none⟩)] 146); rwa [show (wa.setCell ⟨b, o + 15, none⟩ (.int .u64 (vv : Int))).heap.size = wa.heap.size by simp] at h) rfl).mono ?_)
    rintro e w11 ⟨rfl, HM11⟩
    clear HM10
    go_wp2_with fail
    refine wp_region_plan [(0, none), (1, none), (2, none), (3, none), (4, none), (5, none), (6, none), (7, some (some false)), (8, some (some false))] (by kernel_rfl) (by kernel_rfl) ?_
    repeat (first | (refine plan_free (v := ?_) rfl rfl (fun _ => ?_) (fun K hK => ?_); rotate_left 1; (focus (go_simp <;> exact rfl)); go_simp; refine hK _ _ ?_; clear hK K) | (refine plan_held (v := ?_) rfl rfl ?_ (fun K hK => ?_); rotate_left 1; (focus (go_simp <;> exact rfl)); go_simp; refine hK _ _ ?_; clear hK K) | (refine plan_skip rfl rfl (fun K hK => ?_); go_simp; refine hK _ _ ?_; clear hK K))
    refine plan_eff rfl rfl (fun K hK => ?_)
    go_wp2_with fail
    repeat (first | (refine plan_free (v := ?_) rfl rfl (fun _ => ?_) (fun K hK => ?_); rotate_left 1; (focus (go_simp <;> exact rfl)); go_simp; refine hK _ _ ?_; clear hK K) | (refine plan_held (v := ?_) rfl rfl ?_ (fun K hK => ?_); rotate_left 1; (focus (go_simp <;> exact rfl)); go_simp; refine hK _ _ ?_; clear hK K) | (refine plan_skip rfl rfl (fun K hK => ?_); go_simp; refine hK _ _ ?_; clear hK K))
    refine plan_eff rfl rfl (fun K hK => ?_)
    go_wp2_with (go_at_call 84; refine halt_here ?_)
    refine go_on ((HM11.out.leaf ints_coder (m := 2) (by decide) _ (g_drew (World.grownBy_alloc _ _ _)) _ (Nat.le_refl _) _ (heap_alloc_new _ _) rfl).mono ?_)
    rintro e w12 ⟨rfl, HM12⟩
    clear HM11
    go_wp2_with fail
    repeat (first | (refine plan_free (v := ?_) rfl rfl (fun _ => ?_) (fun K hK => ?_); rotate_left 1; (focus (go_simp <;> exact rfl)); go_simp; refine hK _ _ ?_; clear hK K) | (refine plan_held (v := ?_) rfl rfl ?_ (fun K hK => ?_); rotate_left 1; (focus (go_simp <;> exact rfl)); go_simp; refine hK _ _ ?_; clear hK K) | (refine plan_skip rfl rfl (fun K hK => ?_); go_simp; refine hK _ _ ?_; clear hK K))
    refine plan_nil ?_
    go_wp2_with fail
    refine bodyPost_end (results_none rfl _ _ _) rfl ?_
    exact ⟨rfl, HM12.out.last rfl rfl⟩
end Go.Proofs.Ytbcpdjhpceimlaa
