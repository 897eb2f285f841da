/-
  The contracts of the reading functions of layer 4's reference, on: New, Uint, Int, Bool, length, Text, Ints, Left, Err.
-/
import Derived.Test.YtbcpdjhpceimlaaRefGet
import Derived.Test.YtbcpdjhpceimlaaInts
namespace Go.Proofs.Ytbcpdjhpceimlaa
open Go.ChangeShapes Go.WideShapes Go.ChangeAt Go.RowKit
set_option linter.unusedVariables false

theorem uS_of (most : Nat) (st : St) : uS most st = match (uS top64 st).2 with
    | .error c => (0, .error c)
    | .ok r => if most < (uS top64 st).1 then (0, .error 2) else ((uS top64 st).1, .ok r) := by
  cases st with
  | error c => rfl
  | ok bs =>
    obtain ⟨q, hq⟩ : ∃ q, num 0 0 bs = q := ⟨_, rfl⟩
    rcases q with ce | ⟨v, r⟩
    · have h1 : ∀ m, uS m (.ok bs) = (0, .error ce) := fun m => by simp only [uS, hq]
      rw [h1 most, h1 top64]
    · have h1 : ∀ m, uS m (.ok bs) = if m < v then (0, .error 2) else (v, .ok r) := fun m => by simp only [uS, hq]
      have := num_lt bs 0 0 v r (by omega) (by decide) hq
      rw [h1 most, h1 top64, if_neg (show ¬ top64 < v by unfold top64; omega)]

theorem uS_zero {most c : Nat} {st : St} (h : (uS most st).2 = .error c) : (uS most st).1 = 0 := by
  unfold uS at h ⊢
  split at h
  · rfl
  · split at h
    · rfl
    · split at h
      · rename_i hq2; simp only [if_pos hq2]
      · cases h

/-- number, as Uint of whatever number. -/
theorem Rnum_any (R : Nat) (bs : Bytes) (e : Nat) (a : Option Addr) (n c : Nat) (w : World) (h : RefAt w R bs e a n c) :
    Calls Try.prog 87 #[.pointer (some ⟨R, 0, none⟩)] w fun x w' => x = .returned (.int .u64 ((uS top64 (stR bs e)).1 : Nat)) ∧ LeftR w w' R (uS top64 (stR bs e)).2 := by
  by_cases he : e = 0
  · subst he
    refine (Rnumber_any R bs a n c w h).mono ?_
    rintro x w' ⟨v, st, rfl, hl, hc⟩
    rcases hc with ⟨r, hn, rfl⟩ | ⟨e, hn, rfl, rfl⟩
    · have := num_lt bs 0 0 v r (by omega) (by decide) hn
      have hu : uS top64 (stR bs 0) = (v, .ok r) := by
        rw [stR_ok, uS, hn]
        exact if_neg (by unfold top64; omega)
      rw [hu]
      exact ⟨rfl, hl⟩
    · have hu : uS top64 (stR bs 0) = (0, .error e) := by rw [stR_ok, uS, hn]
      rw [hu]
      exact ⟨rfl, hl⟩
  · refine (Rnumber_err R bs e a n c he w h).mono ?_
    rintro x w' ⟨rfl, rfl⟩
    rw [stR_er _ _ he]
    exact ⟨rfl, bs, e, a, n, c, h, stR_er _ _ he, World.grownBy.refl _ _⟩

set_option maxRecDepth 100000 in
set_option maxHeartbeats 1000000 in
theorem RUint_any (R : Nat) (bs : Bytes) (e : Nat) (a : Option Addr) (n c most : Nat) (w : World) (h : RefAt w R bs e a n c) :
    Calls Try.prog 56 #[.pointer (some ⟨R, 0, none⟩), .int .u64 (most : Int)] w fun x w' => x = .returned (.int .u64 ((uS most (stR bs e)).1 : Nat)) ∧ LeftR w w' R (uS most (stR bs e)).2 := by
  have H := Lib.hid h
  clear h
  have HU := Lib.hid (uS_of most (stR bs e))
  have HZ := Lib.hid (fun c h => uS_zero (most := top64) (c := c) (st := stR bs e) h)
  go_enter Try.func56, Try.ntmps56
  go_wp2_with (go_at_call 87; refine halt_here ?_)
  refine go_on ((Rnum_any R bs e a n c w H.out).mono ?_)
  generalize (uS top64 (stR bs e)).1 = v at HU HZ
  generalize (uS top64 (stR bs e)).2 = st at HU HZ
  rintro x w1 ⟨rfl, bs2, e2, a2, n2, c2, hr, hs, hg⟩
  have HR := Lib.hid hr
  have HS := Lib.hid hs
  have HG := Lib.hid hg
  clear hr hs hg
  cases st with
  | error ce =>
    obtain rfl : v = 0 := HZ.out ce rfl
    have HE := Lib.hid (show uS most (stR bs e) = (0, .error ce) from HU.out)
    have p1 : decide ((0 : Nat) ≤ most) = true := by simp
    go_wp2_with fail
    go_ret
    rw [HE.out]
    exact ⟨rfl, bs2, e2, a2, n2, c2, HR.out, HS.out, HG.out⟩
  | ok r =>
    obtain ⟨rfl, rfl⟩ := stR_ok_inv HS.out
    by_cases hv : most < v
    · have HE := Lib.hid (show uS most (stR bs e) = (0, .error 2) by rw [HU.out]; exact if_pos hv)
      have p1 : decide (v ≤ most) = false := by simp; omega
      go_wp2_with (go_at_call 88; refine halt_here ?_)
      refine go_on ((Rfail_any R bs2 a2 n2 c2 2 w1 HR.out).mono ?_)
      rintro x w2 ⟨rfl, hr2, hg2⟩
      have HR2 := Lib.hid hr2
      have HG2 := Lib.hid (HG.out.trans hg2)
      clear hr2 hg2
      go_wp2_with fail
      go_ret
      rw [HE.out]
      exact ⟨rfl, bs2, 2, a2, n2, c2, HR2.out, rfl, HG2.out⟩
    · have HE := Lib.hid (show uS most (stR bs e) = (v, .ok bs2) by rw [HU.out]; exact if_neg hv)
      have p1 : decide (v ≤ most) = true := by simp; omega
      go_wp2_with fail
      go_ret
      rw [HE.out]
      exact ⟨rfl, bs2, 0, a2, n2, c2, HR.out, rfl, HG.out⟩

set_option maxRecDepth 100000 in
set_option maxHeartbeats 2000000 in
theorem RInt_any (R : Nat) (bs : Bytes) (e : Nat) (a : Option Addr) (n c : Nat) (w : World) (h : RefAt w R bs e a n c) :
    Calls Try.prog 57 #[.pointer (some ⟨R, 0, none⟩)] w fun x w' => x = .returned (.int .i64 (iS (stR bs e)).1) ∧ LeftR w w' R (iS (stR bs e)).2 := by
  have H := Lib.hid h
  clear h
  go_enter Try.func57, Try.ntmps57
  go_wp2_with (go_at_call 87; refine halt_here ?_)
  refine go_on ((Rnum_any R bs e a n c w H.out).mono ?_)
  rintro x w1 ⟨rfl, HL⟩
  have HL := Lib.hid HL
  have hbd : (uS top64 (stR bs e)).1 ≤ 18446744073709551615 := uS_bd top64 (stR bs e)
  have HI := Lib.hid (show (iS (stR bs e)).1 = unzz (uS top64 (stR bs e)).1 from rfl)
  have HI2 := Lib.hid (show (iS (stR bs e)).2 = (uS top64 (stR bs e)).2 from rfl)
  generalize (uS top64 (stR bs e)).1 = v at HI hbd
  generalize (uS top64 (stR bs e)).2 = st at HI2 HL
  by_cases hv : v % 2 = 1
  · have HZ := Lib.hid (show unzz v = -((v / 2 : Nat) : Int) - 1 by rw [unzz, if_pos hv])
    have p1 : ((v : Int) % 2 == 1) = true := by simp; omega
    have p2 : (v % 2 == 1) = true := by simp; omega
    go_wp2_with fail
    go_ret
    rw [HI.out, HI2.out, HZ.out]
    refine ⟨ret1 ?_, HL.out⟩
    show Value.int .i64 (-((v : Int) / 2) - 1) = _
    rw [show ((v / 2 : Nat) : Int) = (v : Int) / 2 by omega]
  · have HZ := Lib.hid (show unzz v = ((v / 2 : Nat) : Int) by rw [unzz, if_neg hv])
    have p1 : ((v : Int) % 2 == 1) = false := by simp; omega
    have p2 : (v % 2 == 1) = false := by simp; omega
    go_wp2_with fail
    go_ret
    rw [HI.out, HI2.out, HZ.out]
    refine ⟨ret1 ?_, HL.out⟩
    show Value.int .i64 ((v : Int) / 2) = _
    rw [show ((v / 2 : Nat) : Int) = (v : Int) / 2 by omega]

set_option maxRecDepth 100000 in
theorem RBool_any (R : Nat) (bs : Bytes) (e : Nat) (a : Option Addr) (n c : Nat) (w : World) (h : RefAt w R bs e a n c) :
    Calls Try.prog 58 #[.pointer (some ⟨R, 0, none⟩)] w fun x w' => x = .returned (.bool (bS (stR bs e)).1) ∧ LeftR w w' R (bS (stR bs e)).2 := by
  have H := Lib.hid h
  clear h
  go_enter Try.func58, Try.ntmps58
  go_wp2_with (go_at_call 56; refine halt_here ?_)
  refine go_on ((RUint_any R bs e a n c 1 w H.out).mono ?_)
  rintro x w1 ⟨rfl, HL⟩
  have HL := Lib.hid HL
  have HI := Lib.hid (show (bS (stR bs e)).1 = decide ((uS 1 (stR bs e)).1 = 1) from rfl)
  have HI2 := Lib.hid (show (bS (stR bs e)).2 = (uS 1 (stR bs e)).2 from rfl)
  generalize (uS 1 (stR bs e)).1 = v at HI
  generalize (uS 1 (stR bs e)).2 = st at HI2 HL
  go_wp2_with fail
  go_ret
  rw [HI.out, HI2.out]
  refine ⟨ret1 ?_, HL.out⟩
  show Value.bool ((v : Int) == 1) = _
  congr 1
  by_cases hv : v = 1
  · subst hv; rfl
  · rw [decide_eq_false hv]; simp; omega

set_option maxRecDepth 100000 in
theorem RErr_any (R : Nat) (bs : Bytes) (e : Nat) (a : Option Addr) (n c : Nat) (w : World) (h : RefAt w R bs e a n c) :
    Calls Try.prog 63 #[.pointer (some ⟨R, 0, none⟩)] w fun x w' => x = .returned (.int .i64 (e : Int)) ∧ w = w' := by
  have hc1 := h.c1
  clear h
  go_enter Try.func63, Try.ntmps63
  go_wp2_with fail
  go_ret
  exact ⟨rfl, rfl⟩

set_option maxRecDepth 100000 in
theorem RLeft_any (R : Nat) (bs : Bytes) (e : Nat) (a : Option Addr) (n c : Nat) (w : World) (h : RefAt w R bs e a n c) :
    Calls Try.prog 62 #[.pointer (some ⟨R, 0, none⟩)] w fun x w' => x = .returned (.int .i64 (leftS (stR bs e) : Nat)) ∧ w = w' := by
  have hc0 := h.c0
  have hc1 := h.c1
  have HLN := Lib.hid h.len
  clear h
  by_cases he : e = 0
  · subst he
    have HU := Lib.hid (show leftS (stR bs 0) = n from HLN.out)
    go_enter Try.func62, Try.ntmps62
    go_wp2_with fail
    go_ret
    rw [HU.out]
    exact ⟨rfl, rfl⟩
  · have HU := Lib.hid (show leftS (stR bs e) = 0 by rw [stR_er _ _ he]; rfl)
    have p1 : ((e : Int) == 0) = false := by simp; omega
    clear he
    go_enter Try.func62, Try.ntmps62
    go_wp2_with fail
    go_ret
    rw [HU.out]
    exact ⟨rfl, rfl⟩

set_option maxRecDepth 100000 in
set_option maxHeartbeats 1000000 in
theorem RNew_any (a : Option Addr) (n c : Nat) (bs : Bytes) (w : World) (h : CellsAt w a (bc bs)) (hnil : a = none → n = 0 ∧ c = 0) (hl : bs.length = n) (hb : n ≤ 140737488355328) :
    Calls Try.prog 29 #[.slice a n c] w fun x w' => ∃ R a2 n2 c2, x = .returned (.pointer (some ⟨R, 0, none⟩)) ∧ w.heap.size ≤ R ∧ RefAt w' R bs 0 a2 n2 c2 ∧ Below w.heap.size w w' := by
  have H := Lib.hid h
  have HN := Lib.hid hnil
  have HL := Lib.hid hl
  clear h hnil hl
  go_enter Try.func29, Try.ntmps29
  go_wp2_with (go_at_call 49; refine halt_here ?_)
  refine go_on ((after_any a n c bs none 0 0 [] w H.out HN.out HL.out (CellsAt.nil _ _) (fun _ => ⟨rfl, rfl⟩) rfl (by omega)).mono ?_)
  rintro e w1 ⟨v0, rfl, how, hbel⟩
  rw [List.append_nil] at how
  have hlt := fun k hk => (how.lt k hk).2
  obtain ⟨a2, c2, rfl, hcells⟩ := ownsRow_rd how
  have HOC := Lib.hid (own_cap how)
  have HON := Lib.hid (own_nil how)
  have HB := Lib.hid hbel
  have HC := Lib.hid hcells
  have hne : ∀ x, a2 = some x → x.block < w1.heap.size := fun x hx => by subst hx; exact hlt _ rfl
  have HNE := Lib.hid hne
  have hle : bs.length ≤ 140737488355328 := by rw [HL.out]; exact hb
  generalize hbl : bs.length = m at hle HOC HON HL how
  have HBL := Lib.hid hbl
  clear hlt how hbel hcells hne hbl
  go_wp2_with fail
  go_ret
  refine ⟨w1.heap.size, a2, m, c2, rfl, HB.out.size, ⟨?_, ?_, fun x hx => HNE.out x hx, HOC.out, HON.out, HBL.out, hle⟩, ?_⟩
  · exact heap_alloc_new w1 _
  · exact HC.out.below ((Below.refl _ _).alloc (Nat.le_refl _) _)
  · exact HB.out.alloc HB.out.size _
end Go.Proofs.Ytbcpdjhpceimlaa
