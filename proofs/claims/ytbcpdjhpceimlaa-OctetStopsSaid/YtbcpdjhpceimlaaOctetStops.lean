/-
  Whatever the bytes and the values: after the first error all results are zero and the error stays; the chapter's examples hold; no condition.
-/
import Derived.Test.YtbcpdjhpceimlaaRows
import Derived.SizedLaws
import Derived.Test.YtbcpdjhpceimlaaErrs
import Derived.Test.YtbcpdjhpceimlaaSch
import Derived.WalkKit
import Derived.ProofKit
import Derived.OpenShut
import Derived.ShutString
import Derived.ChangeOld
import Derived.Below
namespace Go.Proofs.Ytbcpdjhpceimlaa.octetStops
open Go.ChangeShapes Go.WideShapes Go.ChangeAt Go.RowKit Go.Deep
open Go.ChangeMaps (open_string shut_string)
set_option linter.unusedVariables false

theorem own_knob : ownKnob Try.prog.godebug = none := by kernel_rfl
theorem bytes_5 : Try.prog.bytesOf 5 = 1 := by kernel_rfl
theorem laidOut : laidOutB Try.prog = true := by kernel_rfl

/-- What the walk is told of a slice of integers that came in: it is nil; or it leads to a row of 'cap' cells, the numbers 'zs' (the first 'len' are its elements, the rest its spare room), each fitting its kind. -/
def IsRow (k : IntKind) (w : World) (a : Option Addr) (len cap : Nat) (zs : List Int) : Prop :=
  (a = none ∧ len = 0 ∧ cap = 0 ∧ zs = []) ∨
  ∃ x, a = some x ∧ len ≤ cap ∧ cap ≤ maxLen ∧ zs.length = cap ∧ (∀ i, i < zs.length → w.cell? (x.add i) = some (.int k (zs.getD i 0))) ∧ ∀ n ∈ zs, (Lit.int k n).wf = true

/-- What a round of the first loop of OctetStops finds. -/
def StopsRel (bs : Bytes) (R : Nat) (a : Option Addr) (n c : Nat) (k : Nat) (w : World) : Prop :=
  ∃ at1 e1, RdrAt 109 w R a n c bs at1 e1 ∧ (e1 ≠ 0 ∨ e1 = 0 ∧ (bs.drop at1).length + k ≤ n)

theorem _root_.Go.Proofs.Ytbcpdjhpceimlaa.RdrAt.same {T : TypeId} {w : World} {R : Nat} {a : Option Addr} {n c : Nat} {bs : Bytes} {at1 e1 at2 e2 : Nat} (h : RdrAt T w R a n c bs at1 e1) (h2 : RdrAt T w R a n c bs at2 e2) : at1 = at2 ∧ e1 = e2 := by
  have h1 := h.blk
  rw [h2.blk] at h1
  injection h1 with h1
  injection h1 with h1
  injection h1 with h1
  simp at h1
  omega

theorem stops_step {bs : Bytes} {R : Nat} {a : Option Addr} {n c k at1 : Nat} {w w' : World} (h : StopsRel bs R a n c k w) (hr : RdrAt 109 w R a n c bs at1 0) (hl : Left' 109 w w' R a n c bs (iS (stOf bs at1 0)).2) : StopsRel bs R a n c (k + 1) w' := by
  obtain ⟨at2, e2, hr2, hst, _⟩ := hl
  obtain ⟨at0, e0, hr0, hc0⟩ := h
  refine ⟨at2, e2, hr2, ?_⟩
  by_cases he : e2 = 0
  · subst he
    refine .inr ⟨rfl, ?_⟩
    obtain ⟨hat, hee⟩ := hr.same hr0
    subst hat hee
    have h2 : (bs.drop at1).length + k ≤ n := by
      rcases hc0 with h | h
      · exact absurd rfl h
      · exact h.2
    rw [stOf_ok, stOf_ok] at hst
    have h3 : (bs.drop at2).length < (bs.drop at1).length := by
      unfold iS uS at hst
      simp only at hst
      rcases hq : num 0 0 (bs.drop at1) with e | ⟨v, rest⟩
      · rw [hq] at hst; cases hst
      · rw [hq] at hst
        simp only at hst
        split at hst
        · cases hst
        · injection hst with hst
          rw [hst]
          exact num_len _ _ _ _ _ hq
    omega
  · exact .inl he

/-! ### the walk -/
set_option maxRecDepth 100000 in
set_option maxHeartbeats 2000000 in
theorem walk (a0 : Option Addr) (len0 cap0 : Nat) (z0 : List Int) (a1 : Option Addr) (len1 cap1 : Nat) (x1 : V) (w : World) (w0 : IsRow .u8 w a0 len0 cap0 z0) (s0 : len0 * 1 ≤ 140737488351232) (w1 : Rep (Old w) w (.e valS) x1 (.slice a1 len1 cap1)) :
    Calls Try.prog 8 #[.slice a0 len0 cap0, .slice a1 len1 cap1] w fun e w' => e = .returned (.bool true) ∧ Below w.heap.size w w' := by
  obtain ⟨hrd, hnil, hzl⟩ := isRow_cells w0
  obtain ⟨hlc, hwf⟩ := isRow_wf w0
  obtain ⟨bs, hbl, hbe⟩ := bytes_of (z0.take len0) hwf
  rw [hbe] at hrd
  have HL := Lib.hid (hbl.trans hzl)
  have HN := Lib.hid hnil
  have HRD := Lib.hid hrd
  have hsz : len0 ≤ 140737488355328 := by omega
  clear hrd hnil hzl hwf hbe hbl w0
  obtain ⟨rows, f, rfl, hrl, hlc, hlm, hrs, -, hcl, hrp⟩ := vals_open w1
  have HRS := Lib.hid hrs
  have HC := Lib.hid hcl
  have HP := Lib.hid hrp
  have HRL := Lib.hid hrl
  unfold maxLen at hlm
  clear hcl hrp hrl hrs w1
  go_enter Try.func8, Try.ntmps8
  go_wp2_with (go_at_call 18; refine halt_here ?_)
  refine go_on ((New_any _ len0 cap0 bs w HRD.out HN.out HL.out hsz).mono ?_)
  rintro e w1 ⟨R, a2, c2, rfl, hR, hrd1, hb1⟩
  have HR := Lib.hid hR
  have HR1 := Lib.hid (show StopsRel bs R a2 len0 c2 0 w1 from ⟨0, 0, hrd1, .inr ⟨rfl, by rw [List.drop_zero, HL.out]; omega⟩⟩)
  have HB1 := Lib.hid hb1
  clear hR hrd1 hb1
  go_wp2_with fail
  go_loopw [6] (fun i wr => ∃ k : Nat, i = .int .i64 k ∧ k ≤ len0 + 1 ∧ Hid (StopsRel bs R a2 len0 c2 k wr) ∧ Hid (Below w.heap.size w wr)) (fun i _ => len0 + 1 - (intOf i).toNat)
  case atStart => exact ⟨0, rfl, Nat.zero_le _, HR1, HB1⟩
  case round =>
    obtain ⟨k, rfl, hk, HS, HB⟩ := hrel
    clear HR1 HB1
    obtain ⟨at1, e1, hrd, hcase⟩ := HS.out
    have HRD1 := Lib.hid hrd
    clear hrd
    by_cases hkn : k ≤ len0
    · by_cases he : e1 = 0
      · subst he
        go_wp2_with (go_at_call 21; refine halt_here ?_)
        refine go_on ((Err_any R a2 len0 c2 bs at1 0 wr HRD1.out).mono ?_)
        rintro e w2 ⟨rfl, rfl⟩
        go_wp2_with (go_at_call 20; refine halt_here ?_)
        refine go_on ((Int_any R a2 len0 c2 bs at1 0 wr HRD1.out).mono ?_)
        rintro x w2 ⟨rfl, hl⟩
        have HL2 := Lib.hid (stops_step HS.out HRD1.out hl)
        have HB2 := Lib.hid (by obtain ⟨_, _, _, _, hg⟩ := hl; exact HB.out.grown hg HB.out.size (fun k hk => by cases hk; exact HR.out) : Below w.heap.size w w2)
        clear hl hcase
        go_wp2_with fail
        go_roundw
        case rel => exact ⟨k + 1, by go_num, by omega, HL2, HB2⟩
        case measure => simp [intOf]; omega
      · have p1 : ((e1 : Int) == 0) = false := by simp; omega
        have HE := Lib.hid he
        clear he hcase
        go_wp2_with (go_at_call 21; refine halt_here ?_)
        refine go_on ((Err_any R a2 len0 c2 bs at1 e1 wr HRD1.out).mono ?_)
        rintro e w2 ⟨rfl, rfl⟩
        go_wp2_with (go_at_call 21; refine halt_here ?_)
        refine go_on ((Err_any R a2 len0 c2 bs at1 e1 wr HRD1.out).mono ?_)
        rintro e w2 ⟨rfl, rfl⟩
        clear HS
        go_wp2_with fail
        generalize wr = wq at HB HRD1
        go_loopw [31] (fun i wr => ∃ k : Nat, i = .int .i64 k ∧ k ≤ len1 ∧ Hid (RdrAt 109 wr R a2 len0 c2 bs at1 e1) ∧ Hid (Below w.heap.size w wr)) (fun i _ => len1 - (intOf i).toNat)
        case atStart => exact ⟨0, rfl, Nat.zero_le _, HRD1, HB⟩
        case round =>
          obtain ⟨k, rfl, hk, HRD1, HB⟩ := hrel
          by_cases hlt : k < len1
          · obtain ⟨g, o, rfl, -, hgl, hcells⟩ := HC.out (by omega)
            obtain ⟨kk, u, nn, s, l, -, e0, -, e1', -, e2', -, e3, -, la, ln, lc, e4, -⟩ := val_open HRS.out (by rw [HRL.out]; omega) HP.out (i := k)
            have cell : ∀ j, j < 5 → wr.cell? ⟨g, o + (k * 5 + j), none⟩ = some (f k j) := fun j hj => by rw [HB.out.cell (by exact hgl)]; exact hcells k j hlt hj
            have c0 : wr.cell? ⟨g, o + k * 5, none⟩ = some (.int .i64 kk) := by rw [← e0]; exact cell 0 (by decide)
            have c1 : wr.cell? ⟨g, o + k * 5 + 1, none⟩ = some (.int .u64 (u : Int)) := by rw [← e1', Nat.add_assoc]; exact cell 1 (by decide)
            have c2' : wr.cell? ⟨g, o + k * 5 + 2, none⟩ = some (.int .i64 nn) := by rw [← e2', Nat.add_assoc]; exact cell 2 (by decide)
            have c3 : wr.cell? ⟨g, o + k * 5 + 3, none⟩ = some (.string s) := by rw [← e3, Nat.add_assoc]; exact cell 3 (by decide)
            have c4 : wr.cell? ⟨g, o + k * 5 + 4, none⟩ = some (.slice la ln lc) := by rw [← e4, Nat.add_assoc]; exact cell 4 (by decide)
            clear cell e0 e1' e2' e3 e4 hcells
            have HRD2 := Lib.hid (HRD1.out.below ((Below.refl _ _).alloc (Nat.le_refl _) (.cells #[.int .i64 kk, .int .u64 (u : Int), .int .i64 nn, .string s, .slice la ln lc] 61)))
            have HB2 := Lib.hid (HB.out.alloc HB.out.size (.cells #[.int .i64 kk, .int .u64 (u : Int), .int .i64 nn, .string s, .slice la ln lc] 61))
            go_wp2_with (go_at_call 19; refine halt_here ?_)
            refine go_on ((Uint_err R a2 len0 c2 bs at1 e1 HE.out _ _ HRD2.out).mono ?_)
            rintro x w2 ⟨rfl, rfl⟩
            go_wp2_with (go_at_call 20; refine halt_here ?_)
            refine go_on ((Int_err R a2 len0 c2 bs at1 e1 HE.out _ HRD2.out).mono ?_)
            rintro x w2 ⟨rfl, rfl⟩
            go_wp2_with (go_at_call 31; refine halt_here ?_)
            refine go_on ((Bool_err R a2 len0 c2 bs at1 e1 HE.out _ HRD2.out).mono ?_)
            rintro x w2 ⟨rfl, rfl⟩
            go_wp2_with (go_at_call 32; refine halt_here ?_)
            refine go_on ((Text_err R a2 len0 c2 bs at1 e1 HE.out _ _ HRD2.out).mono ?_)
            rintro x w2 ⟨rfl, rfl⟩
            go_wp2_with (go_at_call 33; refine halt_here ?_)
            refine go_on ((Ints_err R a2 len0 c2 bs at1 e1 HE.out _ _ HRD2.out).mono ?_)
            rintro x w2 ⟨rfl, rfl⟩
            go_wp2_with (go_at_call 23; refine halt_here ?_)
            refine go_on ((Left_err R a2 len0 c2 bs at1 e1 HE.out _ HRD2.out).mono ?_)
            rintro x w2 ⟨rfl, rfl⟩
            go_wp2_with (go_at_call 21; refine halt_here ?_)
            refine go_on ((Err_any R a2 len0 c2 bs at1 e1 _ HRD2.out).mono ?_)
            rintro x w2 ⟨rfl, rfl⟩
            go_wp2_with fail
            go_roundw
            case rel => exact ⟨k + 1, by go_num, by omega, HRD2, HB2⟩
            case measure => simp [intOf]; omega
          · go_wp2_with (go_at_call 22; refine halt_here ?_)
            refine go_on ((alive_any wr).mono ?_)
            rintro e w5 ⟨rfl, hb5⟩
            have HX5 := Lib.hid (HB.out.trans (hb5.mono HB.out.size))
            clear hb5
            go_wp2_with fail
            go_ret
            exact ⟨rfl, HX5.out⟩
    · have he : e1 ≠ 0 := by omega
      have p1 : ((e1 : Int) == 0) = false := by simp; omega
      have HE := Lib.hid he
      clear he hcase
      go_wp2_with (go_at_call 21; refine halt_here ?_)
      refine go_on ((Err_any R a2 len0 c2 bs at1 e1 wr HRD1.out).mono ?_)
      rintro e w2 ⟨rfl, rfl⟩
      clear HS
      go_wp2_with fail
      generalize wr = wq at HB HRD1
      go_loopw [31] (fun i wr => ∃ k : Nat, i = .int .i64 k ∧ k ≤ len1 ∧ Hid (RdrAt 109 wr R a2 len0 c2 bs at1 e1) ∧ Hid (Below w.heap.size w wr)) (fun i _ => len1 - (intOf i).toNat)
      case atStart => exact ⟨0, rfl, Nat.zero_le _, HRD1, HB⟩
      case round =>
        obtain ⟨k, rfl, hk, HRD1, HB⟩ := hrel
        by_cases hlt : k < len1
        · obtain ⟨g, o, rfl, -, hgl, hcells⟩ := HC.out (by omega)
          obtain ⟨kk, u, nn, s, l, -, e0, -, e1', -, e2', -, e3, -, la, ln, lc, e4, -⟩ := val_open HRS.out (by rw [HRL.out]; omega) HP.out (i := k)
          have cell : ∀ j, j < 5 → wr.cell? ⟨g, o + (k * 5 + j), none⟩ = some (f k j) := fun j hj => by rw [HB.out.cell (by exact hgl)]; exact hcells k j hlt hj
          have c0 : wr.cell? ⟨g, o + k * 5, none⟩ = some (.int .i64 kk) := by rw [← e0]; exact cell 0 (by decide)
          have c1 : wr.cell? ⟨g, o + k * 5 + 1, none⟩ = some (.int .u64 (u : Int)) := by rw [← e1', Nat.add_assoc]; exact cell 1 (by decide)
          have c2' : wr.cell? ⟨g, o + k * 5 + 2, none⟩ = some (.int .i64 nn) := by rw [← e2', Nat.add_assoc]; exact cell 2 (by decide)
          have c3 : wr.cell? ⟨g, o + k * 5 + 3, none⟩ = some (.string s) := by rw [← e3, Nat.add_assoc]; exact cell 3 (by decide)
          have c4 : wr.cell? ⟨g, o + k * 5 + 4, none⟩ = some (.slice la ln lc) := by rw [← e4, Nat.add_assoc]; exact cell 4 (by decide)
          clear cell e0 e1' e2' e3 e4 hcells
          have HRD2 := Lib.hid (HRD1.out.below ((Below.refl _ _).alloc (Nat.le_refl _) (.cells #[.int .i64 kk, .int .u64 (u : Int), .int .i64 nn, .string s, .slice la ln lc] 61)))
          have HB2 := Lib.hid (HB.out.alloc HB.out.size (.cells #[.int .i64 kk, .int .u64 (u : Int), .int .i64 nn, .string s, .slice la ln lc] 61))
          go_wp2_with (go_at_call 19; refine halt_here ?_)
          refine go_on ((Uint_err R a2 len0 c2 bs at1 e1 HE.out _ _ HRD2.out).mono ?_)
          rintro x w2 ⟨rfl, rfl⟩
          go_wp2_with (go_at_call 20; refine halt_here ?_)
          refine go_on ((Int_err R a2 len0 c2 bs at1 e1 HE.out _ HRD2.out).mono ?_)
          rintro x w2 ⟨rfl, rfl⟩
          go_wp2_with (go_at_call 31; refine halt_here ?_)
          refine go_on ((Bool_err R a2 len0 c2 bs at1 e1 HE.out _ HRD2.out).mono ?_)
          rintro x w2 ⟨rfl, rfl⟩
          go_wp2_with (go_at_call 32; refine halt_here ?_)
          refine go_on ((Text_err R a2 len0 c2 bs at1 e1 HE.out _ _ HRD2.out).mono ?_)
          rintro x w2 ⟨rfl, rfl⟩
          go_wp2_with (go_at_call 33; refine halt_here ?_)
          refine go_on ((Ints_err R a2 len0 c2 bs at1 e1 HE.out _ _ HRD2.out).mono ?_)
          rintro x w2 ⟨rfl, rfl⟩
          go_wp2_with (go_at_call 23; refine halt_here ?_)
          refine go_on ((Left_err R a2 len0 c2 bs at1 e1 HE.out _ HRD2.out).mono ?_)
          rintro x w2 ⟨rfl, rfl⟩
          go_wp2_with (go_at_call 21; refine halt_here ?_)
          refine go_on ((Err_any R a2 len0 c2 bs at1 e1 _ HRD2.out).mono ?_)
          rintro x w2 ⟨rfl, rfl⟩
          go_wp2_with fail
          go_roundw
          case rel => exact ⟨k + 1, by go_num, by omega, HRD2, HB2⟩
          case measure => simp [intOf]; omega
        · go_wp2_with (go_at_call 22; refine halt_here ?_)
          refine go_on ((alive_any wr).mono ?_)
          rintro e w5 ⟨rfl, hb5⟩
          have HX5 := Lib.hid (HB.out.trans (hb5.mono HB.out.size))
          clear hb5
          go_wp2_with fail
          go_ret
          exact ⟨rfl, HX5.out⟩

/-! ### the row -/
set_option maxRecDepth 100000 in
theorem lifted (os : Os) (started : os.Started) (H : Type) (enc : TypeId × Value → H) :
    ReturnsInHanded {} Try.checked os 8 .any (Rows.octetStopsSpec.pre6 enc Try.prog Try.f8 Rows.octetStopsRow.domain false) (Rows.octetStopsSpec.post enc Try.prog Try.f8 false true false false) := by
  refine returnsInHanded_of_change_sized (C := Try.checked) own_knob started (by kernel_rfl) Try.func8
    (ChangeSpec.witness6 (enc := enc) (C := Try.checked) false ⟨#[], #[.slice none 0 0, .slice none 0 0], []⟩ 8 (by kernel_rfl) (by kernel_rfl) (by kernel_rfl) (by kernel_rfl)) ?_
  intro W base args ds gs before hval0 hW hcnd hsz0 _
  have hsz : (DataW.weightsEach Try.prog (Try.f8.params.toList ++ Rows.octetStopsSpec.plain.varTypes Try.prog) (ds ++ gs)).all (· ≤ reachBytes) = true := hsz0
  clear hsz0
  have hval : ∀ (j : Nat) t v, Try.f8.params[j]? = some t → args[j]? = some v → Value.okWide Try.prog W .any base t v := hval0
  have hW' := hW
  obtain ⟨p, q, hA0, hV, rfl, hfz, hnd⟩ := hW
  have hA : DataW.TrodAll enc Try.prog W 0 (fun _ => true) true Try.f8.params.toList args.toList ds p := hA0
  rw [Try.params8] at hA hval hsz
  obtain ⟨v0, vs0, d0, ds0, p0, q0, hargs, rfl, rfl, h0, r0⟩ := trodAll_cons hA
  obtain ⟨v1, vs1, d1, ds1, p1, q1, rfl, rfl, rfl, h1, r1⟩ := trodAll_cons r0
  obtain ⟨rfl, rfl, rfl⟩ := trodAll_nil r1
  obtain rfl : args = #[v0, v1] := by cases args; simp_all
  obtain ⟨rfl, rfl⟩ := trodVars_none hV
  have k0 := h0
  have lt0 : ∀ x ∈ p0, x.block < W.heap.size := by obtain ⟨m, hm⟩ := k0; exact DataW.trod_lt m _ _ _ hm
  obtain ⟨a0, len0, cap0, rfl⟩ := okWide_slice Try.underlying34 (hval 0 34 v0 rfl rfl)
  obtain ⟨z0, w0, s0⟩ : ∃ zs, IsRow .u8 W a0 len0 cap0 zs ∧ len0 * 1 ≤ 140737488351232 := by
    obtain ⟨fuel, hf⟩ := h0
    rcases open_ints Try.underlying34 Try.underlying5 (by kernel_rfl) hf with ⟨hcs, _⟩ | ⟨x, l, c, zs, hcs, _, hl, hm, hz, hx, hcell, hwz⟩
    · simp [Value.cells] at hcs
      obtain ⟨rfl, rfl, rfl⟩ := hcs
      exact ⟨[], .inl ⟨rfl, rfl, rfl, rfl⟩, by omega⟩
    · simp [Value.cells] at hcs
      obtain ⟨rfl, rfl, rfl⟩ := hcs
      have hz2 := hz
      simp only [if_true] at hz2
      simp only [Prod.mk.injEq] at hx
      have hb := sized_slice hsz (j := 0) (t := 34) (e := 5) rfl (by rw [hx.1]; rfl) Try.underlying34
      rw [bytes_5] at hb
      simp only [lits, List.length_map, List.length_take, List.length_drop, reachBytes] at hb
      exact ⟨zs, .inr ⟨_, rfl, hl, hm, hz2, hcell, hwz⟩, by omega⟩
  have k1 := h1
  have lt1 : ∀ x ∈ p1, x.block < W.heap.size := by obtain ⟨m, hm⟩ := k1; exact DataW.trod_lt m _ _ _ hm
  obtain ⟨a1, len1, cap1, rfl⟩ := okWide_slice Try.underlying58 (hval 1 58 v1 rfl rfl)
  obtain ⟨x1, w1⟩ : ∃ x, Rep (Old W) W (.e valS) x (.slice a1 len1 cap1) := by
    obtain ⟨fuel, hf⟩ := h1
    obtain ⟨v, hv⟩ := flat_rep 5 58 [(.e valS)] (by kernel_rfl) _ _ _ hf
    match v, hv.1 with
    | [x], _ => exact ⟨x, hv.2.2 0 _ x _ rfl rfl rfl⟩
  clear hA0 hval0
  refine (walk a0 len0 cap0 z0 a1 len1 cap1 x1 W w0 s0 w1).mono fun e W' ⟨he, bel⟩ => ?_
  subst he
  exact ⟨_, rfl, _, _, _, [], _, [], hW', trodAll_mk1 (shut_bool Try.underlying4 _), (trodAll_cons_mk (Below.trod laidOut (by kernel_rfl) (of_decide_eq_true (by kernel_rfl)) k0 bel lt0) (trodAll_cons_mk (Below.trod laidOut (by kernel_rfl) (of_decide_eq_true (by kernel_rfl)) k1 bel lt1) trodAll_mk0)), rfl, bel.frame _, fun h => by cases h⟩

theorem over : Rows.octetStopsRow.holds Try.pinned (OpenSpec.ofChange Rows.octetStopsSpec) :=
  OpenClaim.holds_of_wide 8 Try.f8 rfl rfl rfl rfl rfl rfl rfl ⟨rfl, rfl, rfl, rfl, rfl⟩ rfl rfl rfl rfl rfl (by kernel_rfl) Try.func8 (by kernel_rfl)
    (of_decide_eq_true (by kernel_rfl)) (by unfold Func.isWrapper; first | (rw [if_pos (by decide +kernel)]; kernel_rfl) | (rw [if_neg (by decide +kernel)]; exact ⟨rfl, rfl⟩))
    (fun os started H enc _ => lifted os started H enc)

theorem proved : Rows.OctetStopsSaid := over
#print axioms proved
end Go.Proofs.Ytbcpdjhpceimlaa.octetStops
