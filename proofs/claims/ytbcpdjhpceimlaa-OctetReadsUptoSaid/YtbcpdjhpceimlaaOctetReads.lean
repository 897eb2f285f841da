/-
  Where what comes in is of bulk at most 1048576: a Reader of any bytes returns the reference's values, number of bytes left, and error, for any sequence of reads; the chapter's examples hold.
-/
import Derived.Test.YtbcpdjhpceimlaaRows
import Derived.SizedLaws
import Derived.Test.YtbcpdjhpceimlaaAlive
import Derived.Test.YtbcpdjhpceimlaaReadBoth
import Derived.JoinedCond
import Derived.WalkKit
import Derived.ProofKit
import Derived.OpenShut
import Derived.ShutString
import Derived.ChangeOld
import Derived.Below
namespace Go.Proofs.Ytbcpdjhpceimlaa.octetReads
open Go.ChangeShapes Go.WideShapes Go.ChangeAt Go.RowKit Go.Deep
open Go.ChangeMaps (open_string shut_string)
set_option linter.unusedVariables false

theorem own_knob : ownKnob Try.prog.godebug = none := by kernel_rfl
theorem bytes_5 : Try.prog.bytesOf 5 = 1 := by kernel_rfl
theorem laidOut : laidOutB Try.prog = true := by kernel_rfl

/-- What the walk is told of a slice of integers that came in: it is nil; or it leads to a row of 'cap' cells, the numbers 'zs' (the first 'len' are its elements, the rest its spare room), each fitting its kind. -/
def IsRow (k : IntKind) (w : World) (a : Option Addr) (len cap : Nat) (zs : List Int) : Prop :=
  (a = none ∧ len = 0 ∧ cap = 0 ∧ zs = []) ∨
  ∃ x, a = some x ∧ len ≤ cap ∧ cap ≤ maxLen ∧ zs.length = cap ∧ (∀ i, i < zs.length → w.cell? (x.add i) = some (.int k (zs.getD i 0))) ∧ ∀ n ∈ zs, (Lit.int k n).wf = true

/-! ### the walk -/
set_option maxRecDepth 100000 in
set_option maxHeartbeats 2000000 in
theorem walk (a0 : Option Addr) (len0 cap0 : Nat) (z0 : List Int) (a1 : Option Addr) (len1 cap1 : Nat) (x1 : V) (w : World) (w0 : IsRow .u8 w a0 len0 cap0 z0) (b0 : len0 ≤ 1048576) (w1 : Rep (Old w) w (.e valS) x1 (.slice a1 len1 cap1)) (b1 : (encV x1).length ≤ 10485760) :
    Calls Try.prog 7 #[.slice a0 len0 cap0, .slice a1 len1 cap1] w fun e w' => e = .returned (.bool true) ∧ Below w.heap.size w w' := by
  obtain ⟨hrd, hnil, hzl⟩ := isRow_cells w0
  obtain ⟨hlc, hwf⟩ := isRow_wf w0
  obtain ⟨bs, hbl, hbe⟩ := bytes_of (z0.take len0) hwf
  rw [hbe] at hrd
  have HL := Lib.hid (hbl.trans hzl)
  have HN := Lib.hid hnil
  have HRD := Lib.hid hrd
  clear hrd hnil hzl hwf hbe hbl w0
  obtain ⟨rows, f, rfl, hrl, hlc1, hlm, hrs, -, hcl, hrp⟩ := vals_open w1
  have HRS := Lib.hid hrs
  have HC := Lib.hid hcl
  have HP := Lib.hid hrp
  have HRL := Lib.hid hrl
  unfold maxLen at hlm
  clear hcl hrp hrl hrs w1 b1
  go_enter Try.func7, Try.ntmps7
  go_wp2_with (go_at_call 18; refine halt_here ?_)
  refine go_on ((New_any a0 len0 cap0 bs w HRD.out HN.out HL.out (by omega)).mono ?_)
  rintro e w1 ⟨R, a1', c1, rfl, hR, hrd1, hb1⟩
  have HB1 := Lib.hid hb1
  have HRD1 := Lib.hid (HRD.out.below hb1)
  have HR := Lib.hid hR
  have HR1 := Lib.hid hrd1
  clear hR hrd1 hb1
  go_wp2_with (go_at_call 29; refine halt_here ?_)
  refine go_on ((RNew_any a0 len0 cap0 bs w1 HRD1.out HN.out HL.out (by omega)).mono ?_)
  rintro e w2 ⟨Q, a2', n2, c2, rfl, hQ, hrd2, hb2⟩
  have HB2 := Lib.hid (HB1.out.trans (hb2.mono HB1.out.size))
  have HQ := Lib.hid (show w.heap.size ≤ Q from Nat.le_trans HB1.out.size hQ)
  have HPR := Lib.hid (show ∃ st, Pair w2 R Q st from ⟨_, a1', len0, c1, bs, 0, 0, bs, 0, a2', n2, c2, HR1.out.below hb2, hrd2, rfl, by rw [stR_ok, stOf_ok, List.drop_zero], by omega⟩)
  clear hQ hrd2 hb2 HR1 HB1 HRD1
  go_wp2_with fail
  go_loopw [15] (fun i wr => ∃ k : Nat, i = .int .i64 k ∧ k ≤ len1 ∧ Hid (∃ st, Pair wr R Q st) ∧ Hid (Below w.heap.size w wr)) (fun i _ => len1 - (intOf i).toNat)
  case atStart => exact ⟨0, rfl, Nat.zero_le _, HPR, HB2⟩
  case round =>
    obtain ⟨k, rfl, hk, HPW, HW⟩ := hrel
    clear HPR HB2
    obtain ⟨st, hpw⟩ := HPW.out
    have HPS := Lib.hid hpw
    clear hpw
    by_cases hlt : k < len1
    · obtain ⟨g, o, rfl, -, hgl, hcells⟩ := HC.out (by omega)
      obtain ⟨kk, u, nn, s, ll, hrow, e0, -, e1', hu, e2', hnn, e3, hs3, la, ln, lc, e4, hL⟩ := val_open HRS.out (by rw [HRL.out]; omega) HP.out (i := k)
      have hB := HW.out
      have cell : ∀ j, j < 5 → wr.cell? ⟨g, o + (k * 5 + j), none⟩ = some (f k j) := fun j hj => by rw [hB.cell (by exact hgl)]; exact hcells k j hlt hj
      have c0 : wr.cell? ⟨g, o + k * 5, none⟩ = some (.int .i64 kk) := by rw [← e0]; exact cell 0 (by decide)
      have c1 : wr.cell? ⟨g, o + k * 5 + 1, none⟩ = some (.int .u64 (u : Int)) := by rw [← e1', Nat.add_assoc]; exact cell 1 (by decide)
      have c2' : wr.cell? ⟨g, o + k * 5 + 2, none⟩ = some (.int .i64 nn) := by rw [← e2', Nat.add_assoc]; exact cell 2 (by decide)
      have c3' : wr.cell? ⟨g, o + k * 5 + 3, none⟩ = some (.string s) := by rw [← e3, Nat.add_assoc]; exact cell 3 (by decide)
      have c4' : wr.cell? ⟨g, o + k * 5 + 4, none⟩ = some (.slice la ln lc) := by rw [← e4, Nat.add_assoc]; exact cell 4 (by decide)
      have HNN := Lib.hid hnn
      clear cell e0 e1' e2' e3 e4 hcells hB hL hu hnn hrow hs3
      have HA := Lib.hid (HW.out.alloc HW.out.size (.cells #[.int .i64 kk, .int .u64 (u : Int), .int .i64 nn, .string s, .slice la ln lc] 61))
      have HPA := Lib.hid (show Pair (wr.alloc (.cells #[.int .i64 kk, .int .u64 (u : Int), .int .i64 nn, .string s, .slice la ln lc] 61)) R Q st by
        obtain ⟨a, n, c, bs, at', e, bs2, e2, a2, n2, c2, hr, hq, hs1, hs2, hnn⟩ := HPS.out
        have hbx : Below wr.heap.size wr (wr.alloc (.cells #[.int .i64 kk, .int .u64 (u : Int), .int .i64 nn, .string s, .slice la ln lc] 61)) := (Below.refl _ _).alloc (Nat.le_refl _) _
        exact ⟨a, n, c, bs, at', e, bs2, e2, a2, n2, c2, hr.below hbx, hq.below hbx, hs1, hs2, hnn⟩)
      go_wp2_with (go_at_call 30; refine halt_here ?_)
      refine go_on ((read_any w R Q HR.out HQ.out st kk u nn s la ln lc _ HA.out HPA.out HNN.out).mono ?_)
      rintro e w6 ⟨rfl, hb6, hp6⟩
      have HB6 := Lib.hid hb6
      have HP6 := Lib.hid hp6
      clear hb6 hp6
      go_wp2_with fail
      go_roundw
      case rel => exact ⟨k + 1, by go_num, by omega, HP6, HB6⟩
      case measure => simp [intOf]; omega
    · go_wp2_with (go_at_call 22; refine halt_here ?_)
      refine go_on ((alive_any wr).mono ?_)
      rintro e w5 ⟨rfl, hb5⟩
      have HX5 := Lib.hid (HW.out.trans (hb5.mono HW.out.size))
      clear hb5
      go_wp2_with fail
      go_ret
      exact ⟨rfl, HX5.out⟩

/-! ### the row -/
set_option maxRecDepth 100000 in
theorem contract (H : Type) (enc : TypeId × Value → H) (W : World) (base : Nat) (args : Array Value) (ds gs : List (DataW H)) (before : List MemPlace)
    (hval0 : ∀ (j : Nat) t v, Try.f7.params[j]? = some t → args[j]? = some v → Value.okWide Try.prog W .any base t v)
    (hW : DataW.Whole enc Try.prog Try.f7.params.toList Rows.octetReadsSpec.vars false W args.toList ds gs before) (hk : Rows.uptoSmall H (ds ++ gs) = true) :
    Calls Try.prog 7 args W fun e W' => ∃ v, e = .returned v ∧ Rows.octetReadsSpec.post enc Try.prog Try.f7 false true false false W args v W' := by
  have hval : ∀ (j : Nat) t v, Try.f7.params[j]? = some t → args[j]? = some v → Value.okWide Try.prog W .any base t v := hval0
  have hW' := hW
  obtain ⟨p, q, hA0, hV, rfl, hfz, hnd⟩ := hW
  have hA : DataW.TrodAll enc Try.prog W 0 (fun _ => true) true Try.f7.params.toList args.toList ds p := hA0
  rw [Try.params7] at hA hval
  obtain ⟨v0, vs0, d0, ds0, p0, q0, hargs, rfl, rfl, h0, r0⟩ := trodAll_cons hA
  obtain ⟨v1, vs1, d1, ds1, p1, q1, rfl, rfl, rfl, h1, r1⟩ := trodAll_cons r0
  obtain ⟨rfl, rfl, rfl⟩ := trodAll_nil r1
  obtain rfl : args = #[v0, v1] := by cases args; simp_all
  obtain ⟨rfl, rfl⟩ := trodVars_none hV
  have hbulk : Rows.uptoBulkAll ([d0, d1] ++ []) ≤ 1048576 := of_decide_eq_true hk
  simp only [List.append_nil, Rows.uptoBulkAll] at hbulk
  have k0 := h0
  have lt0 : ∀ x ∈ p0, x.block < W.heap.size := by obtain ⟨m, hm⟩ := k0; exact DataW.trod_lt m _ _ _ hm
  obtain ⟨a0, len0, cap0, rfl⟩ := okWide_slice Try.underlying34 (hval 0 34 v0 rfl rfl)
  obtain ⟨z0, w0, b0⟩ : ∃ zs, IsRow .u8 W a0 len0 cap0 zs ∧ len0 ≤ 1048576 := by
    obtain ⟨fuel, hf⟩ := h0
    rcases open_ints Try.underlying34 Try.underlying5 (by kernel_rfl) hf with ⟨hcs, _⟩ | ⟨x, l, c, zs, hcs, _, hl, hm, hz, hx, hcell, hwz⟩
    · simp [Value.cells] at hcs
      obtain ⟨rfl, rfl, rfl⟩ := hcs
      exact ⟨[], .inl ⟨rfl, rfl, rfl, rfl⟩, by omega⟩
    · simp [Value.cells] at hcs
      obtain ⟨rfl, rfl, rfl⟩ := hcs
      have hz2 := hz
      simp only [if_true] at hz2
      simp only [Prod.mk.injEq] at hx
      have hb : len0 ≤ Rows.uptoBulk d0 := by
        rw [hx.1]
        simp only [Rows.uptoBulk]
        have := bulkAll_len (H := H) (lits .u8 (zs.take len0))
        simp only [lits, List.length_map, List.length_take] at this
        simp only [lits]
        omega
      exact ⟨zs, .inr ⟨_, rfl, hl, hm, hz2, hcell, hwz⟩, by omega⟩
  have k1 := h1
  have lt1 : ∀ x ∈ p1, x.block < W.heap.size := by obtain ⟨m, hm⟩ := k1; exact DataW.trod_lt m _ _ _ hm
  obtain ⟨a1, len1, cap1, rfl⟩ := okWide_slice Try.underlying58 (hval 1 58 v1 rfl rfl)
  obtain ⟨x1, w1, b1⟩ : ∃ x, Rep (Old W) W (.e valS) x (.slice a1 len1 cap1) ∧ (encV x).length ≤ 10485760 := by
    obtain ⟨fuel, hf⟩ := h1
    obtain ⟨v, hv, hvl⟩ := flat_rep 5 58 [(.e valS)] (by kernel_rfl) _ _ _ hf
    match v, hv.1 with
    | [x], _ => exact ⟨x, hv.2.2 0 _ x _ rfl rfl rfl, by rw [encRow_one] at hvl; simp only at hvl; omega⟩
  clear hA0 hval0
  refine (walk a0 len0 cap0 z0 a1 len1 cap1 x1 W w0 b0 w1 b1).mono fun e W' ⟨he, bel⟩ => ?_
  subst he
  exact ⟨_, rfl, _, _, _, [], _, [], hW', trodAll_mk1 (shut_bool Try.underlying4 _), (trodAll_cons_mk (Below.trod laidOut (by kernel_rfl) (of_decide_eq_true (by kernel_rfl)) k0 bel lt0) (trodAll_cons_mk (Below.trod laidOut (by kernel_rfl) (of_decide_eq_true (by kernel_rfl)) k1 bel lt1) trodAll_mk0)), rfl, bel.frame _, fun h => by cases h⟩

set_option maxRecDepth 100000 in
theorem lifted (os : Os) (started : os.Started) (H : Type) (enc : TypeId × Value → H) (F : Stop.Interp) :
    ReturnsInHanded {} Try.checked os 7 .any ((Rows.OpenSpec.upto Rows.octetReadsSpec).pre6 enc Try.prog Try.f7 Rows.octetReadsUptoRow.domain false) (((Rows.OpenSpec.upto Rows.octetReadsSpec).at F).post enc Try.prog Try.f7 false true false false) := by
  refine returnsInHanded_of_cond (C := Try.checked) (s := Rows.OpenSpec.upto Rows.octetReadsSpec) (k := Rows.uptoSmall) rfl own_knob started (by kernel_rfl) Try.func7
    (OpenSpec.witness (enc := enc) (C := Try.checked) (s := Rows.OpenSpec.upto Rows.octetReadsSpec) (k := Rows.uptoSmall) rfl false ⟨#[], #[.slice none 0 0, .slice none 0 0], []⟩ 8 (by kernel_rfl) (by kernel_rfl) (by kernel_rfl)
      (x := ([.nil, .nil], [], [])) (by kernel_rfl) rfl (by kernel_rfl)) ?_
  intro W base args ds gs before hval hW _ hk _
  exact contract H enc W base args ds gs before hval hW hk

theorem proved : Rows.OctetReadsUptoSaid :=
  OpenClaim.holds_of_cond 7 Try.f7 rfl rfl rfl rfl rfl rfl rfl ⟨rfl, rfl, rfl, rfl, rfl⟩ rfl rfl rfl rfl rfl (by kernel_rfl) Try.func7 (by kernel_rfl)
    (of_decide_eq_true (by kernel_rfl)) (by unfold Func.isWrapper; first | (rw [if_pos (by decide +kernel)]; kernel_rfl) | (rw [if_neg (by decide +kernel)]; exact ⟨rfl, rfl⟩))
    (fun os started H enc _ F => lifted os started H enc F)
#print axioms proved
end Go.Proofs.Ytbcpdjhpceimlaa.octetReads
