/-
  Text and Ints of the reference's reader.
-/
import Derived.Test.YtbcpdjhpceimlaaRefRead
namespace Go.Proofs.Ytbcpdjhpceimlaa
open Go.ChangeShapes Go.WideShapes Go.ChangeAt Go.RowKit
set_option linter.unusedVariables false

set_option maxRecDepth 100000 in
set_option maxHeartbeats 1000000 in
theorem Rlength_any (R : Nat) (bs : Bytes) (e : Nat) (a : Option Addr) (n c : Nat) (most : Int) (hm : most ≤ 9223372036854775807) (w : World) (h : RefAt w R bs e a n c) :
    Calls Try.prog 89 #[.pointer (some ⟨R, 0, none⟩), .int .i64 most] w fun x w' => x = .returned (.int .i64 ((uS most.toNat (stR bs e)).1 : Nat)) ∧ LeftR w w' R (uS most.toNat (stR bs e)).2 := by
  have H := Lib.hid h
  clear h
  by_cases hneg : most < 0
  · have e0 : most.toNat = 0 := by omega
    rw [e0]
    clear e0
    go_enter Try.func89, Try.ntmps89
    go_wp2_with (go_at_call 56; refine halt_here ?_)
    refine go_on ((RUint_any R bs e a n c 0 w H.out).mono ?_)
    rintro x w1 ⟨rfl, hl⟩
    have HL := Lib.hid hl
    have hz : (uS 0 (stR bs e)).1 = 0 := by have := uS_bd 0 (stR bs e); omega
    have HZ := Lib.hid hz
    rw [hz]
    clear hl hz
    go_wp2_with fail
    go_ret
    exact ⟨ret1 (by rw [HZ.out]; rfl), HL.out⟩
  · obtain ⟨m, rfl⟩ : ∃ m : Nat, most = (m : Int) := ⟨most.toNat, by omega⟩
    rw [Int.toNat_natCast]
    have hw : IntKind.u64.wrap (m : Int) = (m : Int) := wrapU _ (by omega) (by omega)
    clear hneg
    go_enter Try.func89, Try.ntmps89
    go_wp2_with (go_at_call 56; refine halt_here ?_)
    refine go_on ((RUint_any R bs e a n c m w H.out).mono ?_)
    rintro x w1 ⟨rfl, hl⟩
    have HL := Lib.hid hl
    have hb := uS_bd m (stR bs e)
    generalize hvv : (uS m (stR bs e)).1 = v at hb
    have HVV := Lib.hid hvv
    clear hvv
    have hw2 : IntKind.i64.wrap (v : Int) = (v : Int) := wrapI _ (by omega) (by omega)
    clear hl
    go_wp2_with fail
    go_ret
    exact ⟨ret1 (by rw [HVV.out]; rfl), HL.out⟩

set_option maxRecDepth 100000 in
set_option maxHeartbeats 4000000 in
theorem RText_any (R : Nat) (bs : Bytes) (e : Nat) (a : Option Addr) (n c : Nat) (most : Int) (hm : most ≤ 9223372036854775807) (w : World) (h : RefAt w R bs e a n c) :
    Calls Try.prog 59 #[.pointer (some ⟨R, 0, none⟩), .int .i64 most] w fun x w' => x = .returned (.string ⟨(tS most (stR bs e)).1.toArray⟩) ∧ LeftR w w' R (tS most (stR bs e)).2 := by
  have H := Lib.hid h
  clear h
  go_enter Try.func59, Try.ntmps59
  go_wp2_with (go_at_call 89; refine halt_here ?_)
  refine go_on ((Rlength_any R bs e a n c most hm w H.out).mono ?_)
  have HTE := Lib.hid (fun ce (hq : (uS most.toNat (stR bs e)).2 = .error ce) => tS_er (most := most) (st := stR bs e) (ce := ce) hq)
  have HTO := Lib.hid (fun rest (hq : (uS most.toNat (stR bs e)).2 = .ok rest) => tS_ok (most := most) (st := stR bs e) (rest := rest) most.toNat rfl hq)
  generalize (uS most.toNat (stR bs e)).1 = v at HTO
  generalize (uS most.toNat (stR bs e)).2 = st at HTE HTO
  rintro x w1 ⟨rfl, bs2, e2, a2, n2, c2, hrd, hst, hg⟩
  have HR := Lib.hid hrd
  have hc0 := hrd.c0
  have hc1 := hrd.c1
  have hfr := hrd.fr
  have hnc := hrd.nc
  have HNIL := Lib.hid hrd.nil
  have HLN := Lib.hid hrd.len
  have HC := Lib.hid hrd.cells
  have hbd := hrd.bd
  have HG := Lib.hid hg
  clear hrd hg H
  cases st with
  | error ce =>
    obtain rfl : e2 = ce := stR_err_inv hst
    have hne : e2 ≠ 0 := fun h0 => by subst h0; cases hst
    have p1 : ((e2 : Int) == 0) = false := by simp; omega
    have HS := Lib.hid hst
    clear hst hne
    go_wp2_with fail
    go_ret
    rw [HTE.out _ rfl]
    exact ⟨rfl, bs2, e2, a2, n2, c2, HR.out, HS.out, HG.out⟩
  | ok rest =>
    obtain ⟨rfl, rfl⟩ := stR_ok_inv hst
    clear hst
    by_cases hsh : n2 < v
    · have q1 : decide (n2 < v) = true := by simp; omega
      have HE := Lib.hid (show tS most (stR bs e) = ([], .error 4) by rw [HTO.out _ rfl, if_pos (by rw [HLN.out]; exact hsh)])
      go_wp2_with (go_at_call 88; refine halt_here ?_)
      refine go_on ((Rfail_any R bs2 a2 n2 c2 4 w1 HR.out).mono ?_)
      rintro x w2 ⟨rfl, hr2, hg2⟩
      have HR2 := Lib.hid hr2
      have HG2 := Lib.hid (HG.out.trans hg2)
      clear hr2 hg2
      go_wp2_with fail
      go_ret
      rw [HE.out]
      exact ⟨rfl, bs2, 4, a2, n2, c2, HR2.out, rfl, HG2.out⟩
    · have q1 : decide (n2 < v) = false := by simp; omega
      have HE := Lib.hid (show tS most (stR bs e) = (bs2.take v, .ok (bs2.drop v)) by rw [HTO.out _ rfl, if_neg (by rw [HLN.out]; exact hsh)])
      have hvc : v ≤ c2 := by omega
      have hcv := conv_str c2 (HC.out.take_bc v) (n := v) (by rw [List.length_take, HLN.out]; omega)
      cases a2 with
      | none =>
        obtain ⟨rfl, rfl⟩ := HNIL.out rfl
        obtain rfl : v = 0 := by omega
        have HF := Lib.hid (show RefAt (w1.setCell ⟨R, 0, none⟩ (.slice none 0 0)) R (bs2.drop 0) 0 none 0 0 from HR.out.skip 0 (Nat.le_refl _) none rfl)
        go_wp2_with fail
        go_ret
        rw [HE.out]
        exact ⟨rfl, bs2.drop 0, 0, none, 0, 0, HF.out, rfl, HG.out.trans (Lib.grownBy_setCell _ _ _ _)⟩
      | some ad =>
        by_cases hck : c2 = v
        · subst hck
          obtain rfl : n2 = c2 := by omega
          have HF := Lib.hid (show RefAt (w1.setCell ⟨R, 0, none⟩ (.slice (some ad) 0 0)) R (bs2.drop n2) 0 (some ad) 0 0 by
            have := HR.out.skip n2 (Nat.le_refl _) (some ad) (by simp)
            rwa [Nat.sub_self] at this)
          go_wp2_with fail
          go_ret
          rw [HE.out]
          exact ⟨rfl, bs2.drop n2, 0, some ad, 0, 0, HF.out, rfl, HG.out.trans (Lib.grownBy_setCell _ _ _ _)⟩
        · have HF := Lib.hid (show RefAt (w1.setCell ⟨R, 0, none⟩ (.slice (some (ad.add v)) (n2 - v) (c2 - v))) R (bs2.drop v) 0 (some (ad.add v)) (n2 - v) (c2 - v) from
            HR.out.skip v (by omega) (some (ad.add v)) (by simp [hck]))
          go_wp2_with fail
          go_ret
          rw [HE.out]
          exact ⟨rfl, bs2.drop v, 0, some (ad.add v), n2 - v, c2 - v, HF.out, rfl, HG.out.trans (Lib.grownBy_setCell _ _ _ _)⟩

/-! ### Ints -/
theorem uS_le {most : Nat} {b r : Bytes} (h : (uS most (.ok b)).2 = .ok r) : r.length ≤ b.length := by
  unfold uS at h
  simp only at h
  rcases hq : num 0 0 b with e | ⟨v, rest⟩
  · rw [hq] at h; cases h
  · rw [hq] at h
    simp only at h
    split at h
    · cases h
    · injection h with h
      subst h
      exact Nat.le_of_lt (num_len _ _ _ _ _ hq)

/-- What a round of Ints finds. -/
def RIntsRel (base R : Nat) (N : Nat) (w : World) (res : List Int × St) (v k : Nat) (o : Value) (wr : World) : Prop :=
  ∃ (bs : Bytes) (a : Option Addr) (n c : Nat) (acc : List Int), RefAt wr R bs 0 a n c ∧ res = isN (v - k) acc (stR bs 0) ∧ acc.length = k ∧ acc.length + bs.length ≤ N ∧ wr.ownsRow base 3 1 o acc.length (ic acc) ∧ w.grownBy wr (some R)

/-- What Ints leaves. -/
def RIntsPost (R : Nat) (w : World) (res : List Int × St) (x : Ending) (w' : World) : Prop :=
  ∃ o, x = .returned o ∧ w'.ownsRow w.heap.size 3 1 o res.1.length (ic res.1) ∧ LeftR w w' R res.2

theorem rints_err {R : Nat} {bs : Bytes} {w : World} {res : List Int × St} {v k : Nat} {acc : List Int} {wr w' : World}
    (hres : res = isN (v - k) acc (stR bs 0)) (hk : k < v) (hg : w.grownBy wr (some R)) {bs2 : Bytes} {e2 : Nat} {a : Option Addr} {n c : Nat} (h2 : RefAt w' R bs2 e2 a n c) (hs : stR bs2 e2 = (iS (stR bs 0)).2) (hg2 : wr.grownBy w' (some R)) (he : e2 ≠ 0) :
    RIntsPost R w res (.returned (.slice none 0 0)) w' := by
  obtain ⟨m, hm⟩ : ∃ m, v - k = m + 1 := ⟨v - k - 1, by omega⟩
  rw [hm, isN, ← hs, stR_er _ _ he] at hres
  subst hres
  exact ⟨_, rfl, World.ownsRow_nil _ _ _ _, bs2, e2, a, n, c, h2, stR_er _ _ he, hg.trans hg2⟩

theorem rints_ok {base R N : Nat} {bs : Bytes} {w : World} {res : List Int × St} {v k : Nat} {acc : List Int} {wr w2 : World}
    (hres : res = isN (v - k) acc (stR bs 0)) (hk : k < v) (hl : acc.length = k) (hle : acc.length + bs.length ≤ N) (hg : w.grownBy wr (some R))
    {bs2 : Bytes} {a : Option Addr} {n c : Nat} (h2 : RefAt w2 R bs2 0 a n c) (hs : stR bs2 0 = (iS (stR bs 0)).2) {x : Int} (hx : x = (iS (stR bs 0)).1) {o : Value} (how : w2.ownsRow base 3 1 o (acc.length + 1) (ic acc ++ [.int .i64 x])) (hg2 : w.grownBy w2 (some R)) :
    RIntsRel base R N w res v (k + 1) o w2 := by
  obtain ⟨m, hm⟩ : ∃ m, v - k = m + 1 := ⟨v - k - 1, by omega⟩
  have hlt : bs2.length < bs.length := by
    rw [stR_ok, stR_ok] at hs
    exact iS_len hs.symm
  refine ⟨bs2, a, n, c, acc ++ [x], h2, ?_, by simp [hl], by simp; omega, ?_, hg2⟩
  · rw [hres, hm, isN, ← hs, stR_ok, show v - (k + 1) = m by omega, hx]
  · rw [List.length_append, ic_append]
    exact how

set_option maxRecDepth 100000 in
set_option maxHeartbeats 4000000 in
theorem RInts_any (R : Nat) (bs : Bytes) (e : Nat) (a : Option Addr) (n c : Nat) (most : Int) (hm : most ≤ 9223372036854775807) (hbig : e = 0 → n ≤ 17592186044415) (w : World) (h : RefAt w R bs e a n c) :
    Calls Try.prog 61 #[.pointer (some ⟨R, 0, none⟩), .int .i64 most] w (RIntsPost R w (lS most (stR bs e))) := by
  obtain ⟨i0, hi, hz0, hz1, hz2⟩ := info_parts info3
  have H := Lib.hid h
  have HRW := Lib.hid (show R < w.heap.size from blk_lt h.blk)
  have HLE0 := Lib.hid (show ∀ r, (uS most.toNat (stR bs e)).2 = .ok r → r.length ≤ n ∧ n ≤ 17592186044415 by
    intro r hr
    have hlen := h.len
    cases he : stR bs e with
    | error ce => rw [he] at hr; cases hr
    | ok b =>
      obtain ⟨rfl, rfl⟩ := stR_ok_inv he
      rw [he] at hr
      exact ⟨by rw [← hlen]; exact uS_le hr, hbig rfl⟩)
  clear h hbig
  have HRES := Lib.hid (show lS most (stR bs e) = isN (uS most.toNat (stR bs e)).1 [] (uS most.toNat (stR bs e)).2 from rfl)
  generalize lS most (stR bs e) = res at HRES
  go_enter Try.func61, Try.ntmps61
  go_wp2_with (go_at_call 89; refine halt_here ?_)
  refine go_on ((Rlength_any R bs e a n c most hm w H.out).mono ?_)
  have hv18 : (uS most.toNat (stR bs e)).1 ≤ 9223372036854775807 := by have := uS_bd most.toNat (stR bs e); omega
  have HV0 := Lib.hid (fun ce h => uS_zero (most := most.toNat) (c := ce) (st := stR bs e) h)
  generalize (uS most.toNat (stR bs e)).1 = v at HRES hv18 HV0
  generalize (uS most.toNat (stR bs e)).2 = st at HRES HV0 HLE0
  rintro x w1 ⟨rfl, bs2, e2, a2, n2, c2, hrd, hst, hg⟩
  have HR := Lib.hid hrd
  have HG := Lib.hid hg
  have HST := Lib.hid hst
  clear hrd hg hst
  by_cases he : e2 = 0
  · subst he
    have hbn := (HLE0.out bs2 (by rw [← HST.out]; rfl)).2
    have HS := Lib.hid (show RIntsRel w.heap.size R n w res v 0 (.slice none 0 0) w1 from ⟨bs2, a2, n2, c2, [], HR.out, by rw [HRES.out, ← HST.out]; rfl, rfl, by have := (HLE0.out bs2 (by rw [← HST.out]; rfl)).1; simpa using this, World.ownsRow_nil _ _ _ _, HG.out⟩)
    clear H
    go_wp2_with fail
    go_loopw [6, 7] (fun o i wr => ∃ k : Nat, k ≤ v ∧ i = .int .i64 (k : Int) ∧ Hid (RIntsRel w.heap.size R n w res v k o wr)) (fun _ i _ => v - (intOf i).toNat)
    case atStart => exact ⟨0, Nat.zero_le _, rfl, HS⟩
    case round =>
      obtain ⟨k, hk, rfl, HS⟩ := hrel
      clear HR HG HST
      obtain ⟨bs1, a1, n1, c1, acc, hr1, hres, hacc, hle, how, hg1⟩ := HS.out
      have HR1 := Lib.hid hr1
      have HRS := Lib.hid hres
      have HACC := Lib.hid hacc
      have HLE := Lib.hid hle
      have HOW := Lib.hid how
      have HG1 := Lib.hid hg1
      clear hr1 hres hacc hle how hg1
      by_cases hlt : k < v
      · go_wp2_with (go_at_call 57; refine halt_here ?_)
        refine go_on ((RInt_any R bs1 0 a1 n1 c1 wr HR1.out).mono ?_)
        have HXB := Lib.hid (iS_bd (stR bs1 0))
        generalize hx : (iS (stR bs1 0)).1 = y at HXB
        have HX := Lib.hid hx
        clear hx
        rintro x w2 ⟨rfl, bs3, e3, a3, n3, c3, hr3, hs3, hg3⟩
        have HR3 := Lib.hid hr3
        have HS3 := Lib.hid hs3
        have HG3 := Lib.hid hg3
        have hc1 := hr3.c1
        clear hr3 hs3 hg3
        by_cases he3 : e3 = 0
        · subst he3
          have HO3 := Lib.hid (own_grown HOW.out HG3.out HRW.out)
          go_wp2_with (at_builtin; refine wpList_wp rfl (fun K hK => ?_); refine halt_here ?_)
          refine go_on (wp_append (.tmp 24) (.tmp 26) 24 rfl w.heap.size 3 i0 (.int .i64 0) 1 8 Try.underlying24 hi hz0 hz1 hz2 rfl (by decide) _ acc.length _ rfl (HO3.out.alloc _) _ 1 [.int .i64 y] rfl ⟨_, _, rfl, cells_one w2 _ 3⟩ (fun cap hc => by cases hc) rfl (one_of rfl) (by unfold maxLen; have := HLE.out; omega) (by have := HLE.out; have := iS_len (r := bs1) (r' := bs3) (by rw [← stR_ok bs1, ← HS3.out]; rfl); omega) (size_alloc_le _ _ (Nat.le_trans HG1.out.size HG3.out.size)) ?_)
          intro v' w' how' hgr'
          have hsz : w.heap.size ≤ w2.heap.size := Nat.le_trans HG1.out.size HG3.out.size
          have hown : ∀ k, u6.ownBlock = some k → w.heap.size ≤ k := fun k hk => (HO3.out.lt k hk).1
          have hg4 : w2.grownBy w' u6.ownBlock := ((World.grownBy_alloc w2 _ _).trans hgr')
          have HREL := Lib.hid (rints_ok HRS.out hlt HACC.out HLE.out HG1.out (HR3.out.other hg4 (fun k hk => by have := hown k hk; have := HRW.out; omega)) HS3.out HX.out.symm how' (ints_room (HG1.out.trans HG3.out) hg4 hown))
          clear how' hgr' hg4
          refine hK _ _ ?_
          clear hK K
          go_wp2_with fail
          go_roundw
          case rel => exact ⟨k + 1, by omega, by go_num, HREL⟩
          case measure => simp [intOf]; omega
        · have p1 : ((e3 : Int) == 0) = false := by simp; omega
          have HE := Lib.hid (rints_err HRS.out hlt HG1.out HR3.out HS3.out HG3.out he3)
          clear he3
          go_wp2_with fail
          go_ret
          exact HE.out
      · obtain rfl : k = v := by omega
        have HE := Lib.hid (show RIntsPost R w res (.returned u6) wr from ⟨_, rfl, by rw [HRS.out, Nat.sub_self, isN]; exact HOW.out, bs1, 0, a1, n1, c1, HR1.out, by rw [HRS.out, Nat.sub_self, isN], HG1.out⟩)
        go_wp2_with fail
        go_ret
        exact HE.out
  · have hv0 : v = 0 := HV0.out e2 (by rw [← HST.out, stR_er _ _ he])
    subst hv0
    have HE := Lib.hid (show RIntsPost R w res (.returned (.slice none 0 0)) w1 from ⟨_, rfl, by rw [HRES.out, isN]; exact World.ownsRow_nil _ _ _ _, bs2, e2, a2, n2, c2, HR.out, by rw [HRES.out, isN, ← HST.out], HG.out⟩)
    clear he
    go_wp2_with fail
    go_loopw [6, 7] (fun o i wr => o = .slice none 0 0 ∧ i = .int .i64 0 ∧ wr = w1) (fun _ _ _ => 0)
    case atStart => exact ⟨rfl, rfl, rfl⟩
    case round =>
      obtain ⟨rfl, rfl, rfl⟩ := hrel
      go_wp2_with fail
      go_ret
      exact HE.out
end Go.Proofs.Ytbcpdjhpceimlaa
