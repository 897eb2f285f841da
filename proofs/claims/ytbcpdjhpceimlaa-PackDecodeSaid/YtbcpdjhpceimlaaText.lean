/-
  Text of a reader, the program's.
-/
import Derived.Test.YtbcpdjhpceimlaaErrs
namespace Go.Proofs.Ytbcpdjhpceimlaa
open Go.ChangeShapes Go.WideShapes Go.ChangeAt Go.RowKit

theorem CellsAt.sub {w : World} {ad : Addr} {bs : Bytes} (h : CellsAt w (some ad) (bc bs)) (k c v : Nat) (hc : bs.length ≤ c) : CellsAt w (if c = k then some ad else some (ad.add k)) (bc ((bs.drop k).take v)) := by
  refine CellsAt.take_bc ?_ v
  by_cases hk : c = k
  · rw [List.drop_eq_nil_of_le (by omega)]
    exact .inl rfl
  · rw [if_neg hk]
    rcases h with h | ⟨b, off, h, hg⟩
    · have : bs = [] := by
        cases bs with
        | nil => rfl
        | cons x t => simp [bc] at h
      subst this
      exact .inl (by simp [bc])
    · cases h
      refine .inr ⟨b, off + k, by rw [Addr.add_lit], fun j u hj => ?_⟩
      rw [Nat.add_assoc]
      refine hg (k + j) u ?_
      rw [← hj]
      simp [bc, List.getElem?_drop]

theorem tS_er {most : Int} {st : St} {ce : Nat} (h : (uS most.toNat st).2 = .error ce) : tS most st = ([], .error ce) := by
  unfold tS
  rw [h]
theorem tS_ok {most : Int} {st : St} {rest : Bytes} (mm : Nat) (hm : most.toNat = mm) (h : (uS mm st).2 = .ok rest) :
    tS most st = if rest.length < (uS mm st).1 then ([], .error 4) else (rest.take (uS mm st).1, .ok (rest.drop (uS mm st).1)) := by
  subst hm
  unfold tS
  rw [h]

set_option maxRecDepth 100000 in
set_option maxHeartbeats 4000000 in
theorem Text_any (R : Nat) (a : Option Addr) (n c : Nat) (bs : Bytes) (at' e : Nat) (most : Int) (hm : most ≤ 9223372036854775807) (w : World) (h : RdrAt 109 w R a n c bs at' e) :
    Calls Try.prog 32 #[.pointer (some ⟨R, 0, none⟩), .int .i64 most] w fun x w' => x = .returned (.string ⟨(tS most (stOf bs at' e)).1.toArray⟩) ∧ Left' 109 w w' R a n c bs (tS most (stOf bs at' e)).2 := by
  have H := Lib.hid h
  have hB := h.bd
  have hnc := h.nc
  have HNIL := Lib.hid h.nil
  have HLN := Lib.hid h.len
  clear h
  have hmx : max most 0 = (most.toNat : Int) := by omega
  have hwr : IntKind.u64.wrap (most.toNat : Int) = (most.toNat : Int) := wrapU _ (by omega) (by omega)
  generalize hmm : most.toNat = mm at hmx hwr
  have HMM := Lib.hid hmm
  clear hmm
  go_enter Try.func32, Try.ntmps32
  go_wp2_with (go_at_call 19; refine halt_here ?_)
  refine go_on ((Uint_any R a n c bs at' e mm w H.out).mono ?_)
  have HTE := Lib.hid (fun ce (hq : (uS mm (stOf bs at' e)).2 = .error ce) => tS_er (most := most) (st := stOf bs at' e) (ce := ce) (by rw [HMM.out]; exact hq))
  have HTO := Lib.hid (fun rest (hq : (uS mm (stOf bs at' e)).2 = .ok rest) => tS_ok (most := most) (st := stOf bs at' e) (rest := rest) mm HMM.out hq)
  have hv18 : (uS mm (stOf bs at' e)).1 ≤ mm := uS_bd mm _
  generalize (uS mm (stOf bs at' e)).1 = v at HTO hv18
  generalize (uS mm (stOf bs at' e)).2 = st at HTE HTO
  rintro x w1 ⟨rfl, at2, e2, hrd, hst, hg⟩
  have HR := Lib.hid hrd
  have hc0 := hrd.c0
  have hc1 := hrd.c1
  have hc2 := hrd.c2
  have hfr := hrd.fr
  have hle := hrd.le
  have HG := Lib.hid hg
  clear hrd hg H
  cases st with
  | error ce =>
    obtain rfl : e2 = ce := stOf_err_inv hst
    have hne : e2 ≠ 0 := fun h0 => by subst h0; cases hst
    have p1 : ((e2 : Int) == 0) = false := by simp; omega
    have HS := Lib.hid hst
    clear hst hne
    go_wp2_with fail
    go_ret
    rw [HTE.out _ rfl]
    exact ⟨rfl, at2, e2, HR.out, HS.out, HG.out⟩
  | ok rest =>
    obtain ⟨rfl, hdr⟩ := stOf_ok_inv hst
    have HD := Lib.hid hdr
    have hlen := Lib.hid (show rest.length = n - at2 by rw [← HD.out, List.length_drop, HLN.out])
    have hw1 : IntKind.i64.wrap ((n : Int) - (at2 : Int)) = ((n - at2 : Nat) : Int) := by rw [wrapI _ (by omega) (by omega)]; omega
    have hw2 : IntKind.u64.wrap ((n - at2 : Nat) : Int) = ((n - at2 : Nat) : Int) := wrapU _ (by omega) (by omega)
    clear hst hdr
    obtain ⟨d, hd⟩ : ∃ d, n - at2 = d := ⟨_, rfl⟩
    rw [hd] at hw1 hw2 hlen
    have HDD := Lib.hid hd
    clear hd
    by_cases hsh : d < v
    · have q1 : decide (d < v) = true := by simp; omega
      go_wp2_with fail
      refine wp_region_plan [(0, none), (1, none), (2, none), (3, none), (4, some none), (5, none), (6, none), (7, none), (8, none), (9, some none), (10, none), (11, none), (12, none)] (by kernel_rfl) (by kernel_rfl) ?_
      repeat (first | (refine plan_free (v := ?_) rfl rfl (fun _ => ?_) (fun K hK => ?_); rotate_left 1; (focus (go_simp <;> exact rfl)); go_simp; refine hK _ _ ?_; clear hK K) | (refine plan_held (v := ?_) rfl rfl ?_ (fun K hK => ?_); rotate_left 1; (focus (go_simp <;> exact rfl)); go_simp; refine hK _ _ ?_; clear hK K))
      refine plan_nil ?_
      go_wp2_with (go_at_call 44; refine halt_here ?_)
      refine go_on ((fails_any R a n c bs at2 0 4 _ HR.out.drew).mono ?_)
      rintro x w2 ⟨rfl, hr2, hg2⟩
      have HR2 := Lib.hid hr2
      have HG2 := Lib.hid hg2
      clear hr2 hg2
      go_wp2_with fail
      go_ret
      rw [HTO.out _ rfl, if_pos (by rw [hlen.out]; exact hsh)]
      exact ⟨rfl, at2, 4, HR2.out, rfl, HG.out.trans (drew_g HG2.out)⟩
    · have q1 : decide (d < v) = false := by simp; omega
      go_wp2_with fail
      refine wp_region_plan [(0, none), (1, none), (2, none), (3, none), (4, some none), (5, none), (6, none), (7, none), (8, none), (9, some none), (10, none), (11, none), (12, none)] (by kernel_rfl) (by kernel_rfl) ?_
      repeat (first | (refine plan_free (v := ?_) rfl rfl (fun _ => ?_) (fun K hK => ?_); rotate_left 1; (focus (go_simp <;> exact rfl)); go_simp; refine hK _ _ ?_; clear hK K) | (refine plan_held (v := ?_) rfl rfl ?_ (fun K hK => ?_); rotate_left 1; (focus (go_simp <;> exact rfl)); go_simp; refine hK _ _ ?_; clear hK K))
      refine plan_nil ?_
      have hw3 : IntKind.i64.wrap (v : Int) = (v : Int) := wrapI _ (by omega) (by have := HDD.out; omega)
      obtain ⟨u, hu⟩ : ∃ u, at2 + v = u := ⟨_, rfl⟩
      have HU := Lib.hid hu
      have hw4 : IntKind.i64.wrap ((at2 : Int) + (v : Int)) = (u : Int) := by rw [wrapI _ (by omega) (by have := HDD.out; omega)]; omega
      have hu1 : at2 ≤ u := by omega
      have hu2 : u ≤ n := by have := HDD.out; omega
      clear hu
      go_wp2_with fail
      refine wp_region_plan [(0, none), (1, none), (2, none), (3, some none), (4, none), (5, none), (6, none), (7, some none), (8, none), (9, none), (10, none), (11, some none), (12, none), (13, none), (14, none), (15, none), (16, some none), (17, none)] (by kernel_rfl) (by kernel_rfl) ?_
      cases a with
      | none =>
        obtain ⟨rfl, rfl⟩ := HNIL.out rfl
        obtain rfl : u = 0 := by omega
        obtain rfl : at2 = 0 := by omega
        obtain rfl : v = 0 := by have := HU.out; omega
        have hcv := fun w' => conv_str (w := w') (a := none) (n := 0) 0 (bs := []) (CellsAt.nil _ _) rfl
        repeat (first | (refine plan_free (v := ?_) rfl rfl (fun _ => ?_) (fun K hK => ?_); rotate_left 1; (focus (go_simp <;> exact rfl)); go_simp; refine hK _ _ ?_; clear hK K) | (refine plan_held (v := ?_) rfl rfl ?_ (fun K hK => ?_); rotate_left 1; (focus (go_simp <;> exact rfl)); go_simp; refine hK _ _ ?_; clear hK K))
        refine plan_nil ?_
        have HRS := HR.out
        go_wp2_with fail
        go_ret
        rw [HTO.out _ rfl, if_neg (by simp)]
        exact ⟨rfl, 0, 0, (HRS.setAt' 0 (Nat.le_refl _) _ (by omega)).drew.drew, by rw [stOf_ok, HD.out]; rfl, HG.out.trans (g_drew (g_drew (Lib.grownBy_setCell _ _ _ _)))⟩
      | some ad =>
        have hcap : u ≤ c := by omega
        have hvl : ((bs.drop at2).take v).length = u - at2 := by rw [List.length_take, HD.out, hlen.out]; have := HU.out; omega
        have hcv1 := conv_str (c - at2) (HR.out.drew.cells.sub at2 c v (by rw [HLN.out]; omega)) hvl
        have hcv2 := conv_str (c - at2) (HR.out.drew.drew.cells.sub at2 c v (by rw [HLN.out]; omega)) hvl
        rw [HD.out] at hcv1 hcv2
        clear hvl
        by_cases hk : c = at2
        · subst hk
          rw [if_pos rfl] at hcv1 hcv2
          repeat (first | (refine plan_free (v := ?_) rfl rfl (fun _ => ?_) (fun K hK => ?_); rotate_left 1; (focus (go_simp <;> exact rfl)); go_simp; refine hK _ _ ?_; clear hK K) | (refine plan_held (v := ?_) rfl rfl ?_ (fun K hK => ?_); rotate_left 1; (focus (go_simp <;> exact rfl)); go_simp; refine hK _ _ ?_; clear hK K))
          refine plan_nil ?_
          have HRS := HR.out
          go_wp2_with fail
          go_ret
          rw [HTO.out _ rfl, if_neg (by rw [hlen.out]; exact hsh)]
          obtain rfl : v = 0 := by have := HU.out; omega
          exact ⟨rfl, u, 0, (HRS.setAt' u hu2 _ (by first | rfl | (have := HU.out; omega))).drew.drew, by rw [stOf_ok, ← HD.out, List.drop_drop, HU.out], HG.out.trans (g_drew (g_drew (Lib.grownBy_setCell _ _ _ _)))⟩
        · rw [if_neg hk] at hcv1 hcv2
          repeat (first | (refine plan_free (v := ?_) rfl rfl (fun _ => ?_) (fun K hK => ?_); rotate_left 1; (focus (go_simp <;> exact rfl)); go_simp; refine hK _ _ ?_; clear hK K) | (refine plan_held (v := ?_) rfl rfl ?_ (fun K hK => ?_); rotate_left 1; (focus (go_simp <;> exact rfl)); go_simp; refine hK _ _ ?_; clear hK K))
          refine plan_nil ?_
          have HRS := HR.out
          go_wp2_with fail
          go_ret
          rw [HTO.out _ rfl, if_neg (by rw [hlen.out]; exact hsh)]
          exact ⟨rfl, u, 0, (HRS.setAt' u hu2 _ (by first | rfl | (have := HU.out; omega))).drew.drew, by rw [stOf_ok, ← HD.out, List.drop_drop, HU.out], HG.out.trans (g_drew (g_drew (Lib.grownBy_setCell _ _ _ _)))⟩
end Go.Proofs.Ytbcpdjhpceimlaa
