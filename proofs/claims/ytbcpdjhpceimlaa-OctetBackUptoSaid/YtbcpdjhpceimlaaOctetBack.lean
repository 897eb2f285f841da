/-
  Where what comes in is of bulk at most 1048576: values that were written are read unchanged, in order, whatever follows, and nothing else is read; the chapter's examples hold.
-/
import Derived.Test.YtbcpdjhpceimlaaRows
import Derived.SizedLaws
import Derived.Test.YtbcpdjhpceimlaaAlive
import Derived.Test.YtbcpdjhpceimlaaBack2
import Derived.JoinedCond
import Derived.WalkKit
import Derived.ProofKit
import Derived.OpenShut
import Derived.ShutString
import Derived.ChangeOld
import Derived.Below
namespace Go.Proofs.Ytbcpdjhpceimlaa.octetBack
open Go.ChangeShapes Go.WideShapes Go.ChangeAt Go.RowKit Go.Deep
open Go.ChangeMaps (open_string shut_string)
set_option linter.unusedVariables false

theorem own_knob : ownKnob Try.prog.godebug = none := by kernel_rfl
theorem bytes_5 : Try.prog.bytesOf 5 = 1 := by kernel_rfl
theorem laidOut : laidOutB Try.prog = true := by kernel_rfl

/-- What the walk is told of a slice of integers that came in: it is nil; or it leads to a row of 'cap' cells, the numbers 'zs' (the first 'len' are its elements, the rest its spare room), each fitting its kind. -/
def IsRow (k : IntKind) (w : World) (a : Option Addr) (len cap : Nat) (zs : List Int) : Prop :=
  (a = none ∧ len = 0 ∧ cap = 0 ∧ zs = []) ∨
  ∃ x, a = some x ∧ len ≤ cap ∧ cap ≤ maxLen ∧ zs.length = cap ∧ (∀ i, i < zs.length → w.cell? (x.add i) = some (.int k (zs.getD i 0))) ∧ ∀ n ∈ zs, (Lit.int k n).wf = true

/-- What a row of five fields is written as; rows. -/
def valOf : List V → Bytes
  | [.i k, .u u, .i n, .t s, .l l] => encVal k u n s l
  | _ => []
def encVs (rows : List (List V)) : Bytes := rows.flatMap valOf

theorem encVs_take {rows : List (List V)} {i : Nat} {k : Int} {u : Nat} {n : Int} {s : Bytes} {l : List Int} (h : rows[i]? = some [.i k, .u u, .i n, .t s, .l l]) : encVs (rows.take (i + 1)) = encVs (rows.take i) ++ encVal k u n s l := by
  obtain ⟨hi, h⟩ := List.getElem?_eq_some_iff.1 h
  unfold encVs
  rw [List.take_succ_eq_append_getElem hi, List.flatMap_append, h]
  simp [valOf]
theorem encVs_drop {rows : List (List V)} {i : Nat} {k : Int} {u : Nat} {n : Int} {s : Bytes} {l : List Int} (h : rows[i]? = some [.i k, .u u, .i n, .t s, .l l]) : encVs (rows.drop i) = encVal k u n s l ++ encVs (rows.drop (i + 1)) := by
  obtain ⟨hi, h⟩ := List.getElem?_eq_some_iff.1 h
  unfold encVs
  rw [List.drop_eq_getElem_cons hi, List.flatMap_cons, h]
  simp [valOf]
theorem encVs_pre (rows : List (List V)) (i : Nat) : (encVs (rows.take i)).length ≤ (encVs rows).length := by
  conv => rhs; rw [← List.take_append_drop i rows]
  unfold encVs
  rw [List.flatMap_append, List.length_append]
  omega
theorem encB_one (b : Bool) : (encB b).length = 1 := by cases b <;> rfl
theorem valOf_le (r : List V) : (valOf r).length ≤ (encRow r).length := by
  unfold valOf
  split
  · rename_i k u n s l
    simp only [encRow, encV, List.length_append, List.append_nil]
    have h2 := encB_one (decide (0 < n))
    have h3 := (leb_length u).1
    unfold encVal
    split
    · omega
    · split
      · omega
      · split
        · omega
        · split <;> omega
  · simp
theorem encVs_le (rows : List (List V)) : (encVs rows).length ≤ (encRows rows).length := by
  induction rows with
  | nil => simp [encVs]
  | cons r rows ih =>
    have := valOf_le r
    simp only [encVs, encRows, List.flatMap_cons, List.length_append] at ih ⊢
    omega

theorem encL_count (l : List Int) : l.length ≤ (encL l).length := by
  have : l.length ≤ (l.flatMap encI).length := by
    induction l with
    | nil => simp
    | cons x l ih =>
      have h := (leb_length (zz x)).1
      simp only [List.flatMap_cons, List.length_append, List.length_cons, encI] at ih ⊢
      omega
  simp only [encL, List.length_append]
  omega
theorem encRows_le {rows : List (List V)} {i : Nat} {r : List V} (h : rows[i]? = some r) : (encRow r).length ≤ (encRows rows).length := by
  induction rows generalizing i with
  | nil => simp at h
  | cons x rows ih =>
    rw [encRows, List.length_append]
    cases i with
    | zero => simp at h; subst h; omega
    | succ i => have := ih (i := i) (by simpa using h); omega
theorem row_l_le {rows : List (List V)} {i : Nat} {k : Int} {u : Nat} {n : Int} {s : Bytes} {l : List Int} (h : rows[i]? = some [.i k, .u u, .i n, .t s, .l l]) : l.length ≤ (encRows rows).length := by
  have h1 := encRows_le h
  have h2 := encL_count l
  simp only [encRow, encV, List.length_append, List.append_nil] at h1
  omega
theorem row_s_le {rows : List (List V)} {i : Nat} {k : Int} {u : Nat} {n : Int} {s : Bytes} {l : List Int} (h : rows[i]? = some [.i k, .u u, .i n, .t s, .l l]) : s.length ≤ (encRows rows).length := by
  have h1 := encRows_le h
  simp only [encRow, encV, encT, List.length_append, List.append_nil] at h1
  omega
theorem str_le {s : ByteArray} (h : s.data.toList.length ≤ 10485760) : s.size ≤ 4611686018427387904 := by
  have h1 : s.data.toList.length = s.size := by rw [Array.length_toList]; rfl
  omega
theorem rep_l_len {A : Nat → Prop} {w : World} {l : List Int} {a : Option Addr} {n c : Nat} (h : Rep A w .l (.l l) (.slice a n c)) : l.length = n := by
  obtain ⟨l2, la2, ln2, lc2, hv1, hv2, hll, -⟩ := rep_l h
  injection hv1 with hv1
  injection hv2 with hv2 hv3 hv4
  subst hv1 hv3
  exact hll

/-! ### the walk -/
set_option maxRecDepth 100000 in
set_option maxHeartbeats 2000000 in
theorem walk (a0 : Option Addr) (len0 cap0 : Nat) (x0 : V) (a1 : Option Addr) (len1 cap1 : Nat) (z1 : List Int) (w : World) (w0 : Rep (Old w) w (.e valS) x0 (.slice a0 len0 cap0)) (b0 : (encV x0).length ≤ 10485760) (w1 : IsRow .u8 w a1 len1 cap1 z1) (b1 : len1 ≤ 1048576) :
    Calls Try.prog 9 #[.slice a0 len0 cap0, .slice a1 len1 cap1] w fun e w' => e = .returned (.bool true) ∧ Below w.heap.size w w' := by
  obtain ⟨i0, hi, hz0, hz1, hz2⟩ := info_parts info5
  obtain ⟨hrd, hnil, hzl⟩ := isRow_cells w1
  obtain ⟨hlc, hwf⟩ := isRow_wf w1
  obtain ⟨rest, hbl, hbe⟩ := bytes_of (z1.take len1) hwf
  rw [hbe] at hrd
  have HL := Lib.hid (hbl.trans hzl)
  have HN := Lib.hid hnil
  have HRD := Lib.hid hrd
  clear hrd hnil hzl hwf hbe hbl w1
  obtain ⟨rows, f, rfl, hrl, hlc1, hlm, hrs, -, hcl, hrp⟩ := vals_open w0
  have HRS := Lib.hid hrs
  have HC := Lib.hid hcl
  have HP := Lib.hid hrp
  have HRL := Lib.hid hrl
  have HB1 := Lib.hid (show (encRows rows).length ≤ 10485760 by rw [encV, List.length_append] at b0; omega)
  have HSM := Lib.hid (show (encVs rows).length ≤ 10485760 by have := encVs_le rows; have := HB1.out; omega)
  unfold maxLen at hlm
  clear hcl hrp hrl hrs w0 b0
  go_enter Try.func9, Try.ntmps9
  go_wp2_with fail
  go_loopw [5, 13] (fun v i wr => ∃ k : Nat, i = .int .i64 k ∧ k ≤ len0 ∧ Hid (wr.ownsRow w.heap.size 5 1 v (encVs (rows.take k)).length (bc (encVs (rows.take k)))) ∧ Hid (Below w.heap.size w wr)) (fun _ i _ => len0 - (intOf i).toNat)
  case atStart => exact ⟨0, rfl, Nat.zero_le _, Lib.hid (World.ownsRow_nil _ _ _ _), Lib.hid (Below.refl _ _)⟩
  case round =>
    obtain ⟨k, rfl, hk, HOW, HW⟩ := hrel
    obtain ⟨va, vn, vc, rfl, HVL, HVA, HVN⟩ := own_open HOW.out
    by_cases hlt : k < len0
    · obtain ⟨g, o, rfl, -, hgl, hcells⟩ := HC.out (by omega)
      obtain ⟨kk, u, nn, s, ll, hrow, e0, -, e1', hu, e2', hnn, e3, hs3, la, ln, lc, e4, hL⟩ := val_open HRS.out (by rw [HRL.out]; omega) HP.out (i := k)
      have hB := HW.out
      have cell : ∀ j, j < 5 → wr.cell? ⟨g, o + (k * 5 + j), none⟩ = some (f k j) := fun j hj => by rw [hB.cell (by exact hgl)]; exact hcells k j hlt hj
      have c0 : wr.cell? ⟨g, o + k * 5, none⟩ = some (.int .i64 kk) := by rw [← e0]; exact cell 0 (by decide)
      have c1 : wr.cell? ⟨g, o + k * 5 + 1, none⟩ = some (.int .u64 (u : Int)) := by rw [← e1', Nat.add_assoc]; exact cell 1 (by decide)
      have c2' : wr.cell? ⟨g, o + k * 5 + 2, none⟩ = some (.int .i64 nn) := by rw [← e2', Nat.add_assoc]; exact cell 2 (by decide)
      have c3' : wr.cell? ⟨g, o + k * 5 + 3, none⟩ = some (.string s) := by rw [← e3, Nat.add_assoc]; exact cell 3 (by decide)
      have c4' : wr.cell? ⟨g, o + k * 5 + 4, none⟩ = some (.slice la ln lc) := by rw [← e4, Nat.add_assoc]; exact cell 4 (by decide)
      have HLR := Lib.hid hL
      have HU := Lib.hid hu
      have HNN := Lib.hid hnn
      have HTK := Lib.hid (encVs_take hrow)
      have hpre := encVs_pre rows (k + 1)
      rw [HTK.out, List.length_append] at hpre
      have HEV := Lib.hid (show (encVs (rows.take k)).length + (encVal kk u nn s.data.toList ll).length ≤ 20971520 by have := HSM.out; omega)
      have hlnn := rep_l_len hL
      have hll := row_l_le hrow
      have HLN := Lib.hid (show ln ≤ 4611686018427387904 by have := HB1.out; omega)
      clear cell e0 e1' e2' e3 e4 hcells hB hL hu hnn hrow hlnn hs3 hpre hll
      have HA := Lib.hid (HW.out.alloc HW.out.size (.cells #[.int .i64 kk, .int .u64 (u : Int), .int .i64 nn, .string s, .slice la ln lc] 61))
      have HAW := Lib.hid (show Below wr.heap.size wr (wr.alloc (.cells #[.int .i64 kk, .int .u64 (u : Int), .int .i64 nn, .string s, .slice la ln lc] 61)) from (Below.refl _ _).alloc (Nat.le_refl _) _)
      go_wp2_with (go_at_call 27; refine halt_here ?_)
      refine go_on ((valput_any va vn vc (encVs (rows.take k)) kk u nn s la ln lc ll _ (HVA.out.below HAW.out) HVN.out HVL.out HU.out HNN.out (HLR.out.later HA.out) HLN.out (by have := HEV.out; omega)).mono ?_)
      rintro e w6 ⟨v6, rfl, how6, hb6⟩
      have HB6 := Lib.hid (HA.out.trans (hb6.mono HA.out.size))
      have HOW6 := Lib.hid (show w6.ownsRow w.heap.size 5 1 v6 (encVs (rows.take (k + 1))).length (bc (encVs (rows.take (k + 1)))) by rw [HTK.out]; exact ownsRow_base how6 HA.out.size)
      clear how6 hb6
      go_wp2_with fail
      go_roundw
      case rel => exact ⟨k + 1, by go_num, by omega, HOW6, HB6⟩
      case measure => simp [intOf]; omega
    · have hkm : rows.take k = rows := List.take_of_length_le (by rw [HRL.out]; omega)
      rw [hkm] at HOW HVL HVA
      clear hkm
      have hvl : vn ≤ 10485760 := by have := HVL.out; have := HSM.out; omega
      go_wp2_with (at_builtin; refine wpList_wp rfl (fun K hK => ?_); refine halt_here ?_)
      refine go_on (wp_append (.tmp 21) (.tmp 22) 34 rfl w.heap.size 5 i0 (.int .u8 0) 1 1 Try.underlying34 hi hz0 hz1 hz2 rfl (by decide) _ 0 [] rfl (World.ownsRow_lit _ #[] 0 HW.out.size (by decide) rfl) _ vn (bc (encVs rows)) rfl ⟨_, _, rfl, HVA.out.below ((Below.refl _ _).alloc (Nat.le_refl _) _)⟩ (fun cap hc => by cases hc; exact (HVN.out rfl).2) (by rw [bc_length, HVL.out]; omega) (one_bc _) (by unfold maxLen; omega) (by omega) (size_alloc_le _ _ HW.out.size) ?_)
      intro v1 w2 hown1 hgr1
      rw [List.nil_append, Nat.zero_add] at hown1
      have HB2 := Lib.hid (show Below w.heap.size w w2 from (HW.out.alloc HW.out.size _).grown hgr1 (size_alloc_le _ _ HW.out.size) (fun k hk => by cases hk; exact HW.out.size))
      have HOW2 := Lib.hid hown1
      clear hown1 hgr1
      refine hK _ _ ?_
      clear hK K
      go_wp2_with (at_builtin; refine wpList_wp rfl (fun K hK => ?_); refine halt_here ?_)
      refine go_on (wp_append (.tmp 23) (.tmp 24) 34 rfl w.heap.size 5 i0 (.int .u8 0) 1 1 Try.underlying34 hi hz0 hz1 hz2 rfl (by decide) _ vn (bc (encVs rows)) rfl HOW2.out _ len1 (bc rest) rfl ⟨_, _, rfl, HRD.out.below HB2.out⟩ (fun cap hc => by cases hc; exact (HN.out rfl).2) (by rw [bc_length, HL.out]; omega) (one_bc rest) (by unfold maxLen; omega) (by omega) HB2.out.size ?_)
      intro v2 w3 hown2 hgr2
      have HB3 := Lib.hid (HB2.out.grown hgr2 HB2.out.size (fun k hk => (HOW2.out.lt k hk).1))
      have how3 : w3.ownsRow w.heap.size 5 1 v2 (encVs rows ++ rest).length (bc (encVs rows ++ rest)) := by rw [bc_append, List.length_append, HVL.out, HL.out]; exact hown2
      obtain ⟨a3, n3, c3, rfl, HL3, HC3, HN3⟩ := own_open how3
      have hn3 : n3 ≤ 20971520 := by have := HL3.out; rw [List.length_append, HL.out] at this; have := HSM.out; omega
      clear hown2 hgr2 how3
      refine hK _ _ ?_
      clear hK K HOW2 HOW HB2 HVA HVN HVL
      go_wp2_with (go_at_call 18; refine halt_here ?_)
      refine go_on ((New_any a3 n3 c3 (encVs rows ++ rest) w3 HC3.out HN3.out HL3.out (by omega)).mono ?_)
      rintro e w4 ⟨R, a4, c4, rfl, hR, hrd4, hb4⟩
      have HR4 := Lib.hid hrd4
      have HR := Lib.hid (show w.heap.size ≤ R from Nat.le_trans HB3.out.size hR)
      have HB4 := Lib.hid (HB3.out.trans (hb4.mono HB3.out.size))
      clear hR hrd4 hb4 HC3 HN3
      go_wp2_with fail
      have HD4 := Lib.hid (show (encVs rows ++ rest).drop 0 = encVs (rows.drop 0) ++ rest from rfl)
      clear HW hlt
      generalize hbb : encVs rows ++ rest = bb at HR4 HL3 HD4
      clear hbb
      go_loopw [29] (fun i wr => ∃ k : Nat, i = .int .i64 k ∧ k ≤ len0 ∧ ∃ at1, Hid (RdrAt 109 wr R a4 n3 c4 bb at1 0) ∧ Hid (bb.drop at1 = encVs (rows.drop k) ++ rest) ∧ Hid (Below w.heap.size w wr)) (fun i _ => len0 - (intOf i).toNat)
      case atStart => exact ⟨0, rfl, Nat.zero_le _, 0, HR4, HD4, HB4⟩
      case round =>
        clear HR4 HD4 HB4 HB3 hk
        obtain ⟨k, rfl, hk, at1, HR4, HD4, HB4⟩ := hrel
        by_cases hlt : k < len0
        · obtain ⟨g, o, rfl, -, hgl, hcells⟩ := HC.out (by omega)
          obtain ⟨kk, u, nn, s, ll, hrow, e0, -, e1', hu, e2', hnn, e3, hs3, la, ln, lc, e4, hL⟩ := val_open HRS.out (by rw [HRL.out]; omega) HP.out (i := k)
          have hB := HB4.out
          have cell : ∀ j, j < 5 → wr.cell? ⟨g, o + (k * 5 + j), none⟩ = some (f k j) := fun j hj => by rw [hB.cell (by exact hgl)]; exact hcells k j hlt hj
          have c0 : wr.cell? ⟨g, o + k * 5, none⟩ = some (.int .i64 kk) := by rw [← e0]; exact cell 0 (by decide)
          have c1 : wr.cell? ⟨g, o + k * 5 + 1, none⟩ = some (.int .u64 (u : Int)) := by rw [← e1', Nat.add_assoc]; exact cell 1 (by decide)
          have c2' : wr.cell? ⟨g, o + k * 5 + 2, none⟩ = some (.int .i64 nn) := by rw [← e2', Nat.add_assoc]; exact cell 2 (by decide)
          have c3' : wr.cell? ⟨g, o + k * 5 + 3, none⟩ = some (.string s) := by rw [← e3, Nat.add_assoc]; exact cell 3 (by decide)
          have c4' : wr.cell? ⟨g, o + k * 5 + 4, none⟩ = some (.slice la ln lc) := by rw [← e4, Nat.add_assoc]; exact cell 4 (by decide)
          have HLR := Lib.hid hL
          have HU := Lib.hid hu
          have HNN := Lib.hid hnn
          have HDR := Lib.hid (show bb.drop at1 = encVal kk u nn s.data.toList ll ++ (encVs (rows.drop (k + 1)) ++ rest) by rw [HD4.out, encVs_drop hrow, List.append_assoc])
          have hlnn := rep_l_len hL
          have hll := row_l_le hrow
          have hsl := row_s_le hrow
          have HLN := Lib.hid (show ln ≤ 4611686018427387904 by have := HB1.out; omega)
          have HSN := Lib.hid (show s.size ≤ 4611686018427387904 from str_le (Nat.le_trans hsl HB1.out))
          have HLO := Lib.hid (show ∀ x, la = some x → 0 < ln → x.block ≠ R by
            intro x hx h0
            obtain ⟨_, _, _, _, hv1, hv2, -, -, -, -, hA, -, -⟩ := rep_l hL
            injection hv2 with hv2 hv3 hv4
            subst hv2 hv3
            have h1 : x.block < w.heap.size := (hA x hx h0).1
            have := HR.out
            omega)
          clear cell e0 e1' e2' e3 e4 hcells hB hL hu hnn hrow hlnn hs3 hll hsl
          have HA := Lib.hid (HB4.out.alloc HB4.out.size (.cells #[.int .i64 kk, .int .u64 (u : Int), .int .i64 nn, .string s, .slice la ln lc] 61))
          have HAW := Lib.hid (show Below wr.heap.size wr (wr.alloc (.cells #[.int .i64 kk, .int .u64 (u : Int), .int .i64 nn, .string s, .slice la ln lc] 61)) from (Below.refl _ _).alloc (Nat.le_refl _) _)
          go_wp2_with (go_at_call 34; refine halt_here ?_)
          refine go_on ((back_any R a4 n3 c4 bb (encVs (rows.drop (k + 1)) ++ rest) at1 kk u nn s la ln lc ll _ (HR4.out.below HAW.out) HDR.out (by omega) HU.out HNN.out HSN.out (HLR.out.later HA.out) HLO.out HLN.out).mono ?_)
          rintro e w6 ⟨rfl, at2, hr2, hd2, hg2⟩
          have HR6 := Lib.hid hr2
          have HD6 := Lib.hid hd2
          have HB6 := Lib.hid (HA.out.grown hg2 HA.out.size (fun k hk => by cases hk; exact HR.out))
          clear hr2 hd2 hg2
          go_wp2_with (go_at_call 21; refine halt_here ?_)
          refine go_on ((Err_any R a4 n3 c4 bb at2 0 w6 HR6.out).mono ?_)
          rintro e w7 ⟨rfl, rfl⟩
          go_wp2_with fail
          go_roundw
          case rel => exact ⟨k + 1, by go_num, by omega, at2, HR6, HD6, HB6⟩
          case measure => simp [intOf]; omega
        · have HDE := Lib.hid (show bb.drop at1 = rest by rw [HD4.out, List.drop_eq_nil_of_le (by rw [HRL.out]; omega)]; rfl)
          have HLV := Lib.hid (show leftS (stOf bb at1 0) = len1 by rw [stOf_ok, HDE.out]; exact HL.out)
          go_wp2_with (go_at_call 22; refine halt_here ?_)
          refine go_on ((alive_any wr).mono ?_)
          rintro e w5 ⟨rfl, hb5⟩
          have HB5 := Lib.hid (HB4.out.trans (hb5.mono HB4.out.size))
          have HR5 := Lib.hid (HR4.out.below hb5)
          clear hb5
          go_wp2_with (go_at_call 23; refine halt_here ?_)
          refine go_on ((Left_any R a4 n3 c4 bb at1 0 w5 HR5.out).mono ?_)
          rw [HLV.out]
          rintro e w6 ⟨rfl, hg6, -⟩
          have HB6 := Lib.hid (HB5.out.grown hg6 HB5.out.size (fun k hk => by cases hk; exact HR.out))
          clear hg6
          go_wp2_with fail
          go_ret
          exact ⟨rfl, HB6.out⟩

/-! ### the row -/
set_option maxRecDepth 100000 in
theorem contract (H : Type) (enc : TypeId × Value → H) (W : World) (base : Nat) (args : Array Value) (ds gs : List (DataW H)) (before : List MemPlace)
    (hval0 : ∀ (j : Nat) t v, Try.f9.params[j]? = some t → args[j]? = some v → Value.okWide Try.prog W .any base t v)
    (hW : DataW.Whole enc Try.prog Try.f9.params.toList Rows.octetBackSpec.vars false W args.toList ds gs before) (hk : Rows.uptoSmall H (ds ++ gs) = true) :
    Calls Try.prog 9 args W fun e W' => ∃ v, e = .returned v ∧ Rows.octetBackSpec.post enc Try.prog Try.f9 false true false false W args v W' := by
  have hval : ∀ (j : Nat) t v, Try.f9.params[j]? = some t → args[j]? = some v → Value.okWide Try.prog W .any base t v := hval0
  have hW' := hW
  obtain ⟨p, q, hA0, hV, rfl, hfz, hnd⟩ := hW
  have hA : DataW.TrodAll enc Try.prog W 0 (fun _ => true) true Try.f9.params.toList args.toList ds p := hA0
  rw [Try.params9] at hA hval
  obtain ⟨v0, vs0, d0, ds0, p0, q0, hargs, rfl, rfl, h0, r0⟩ := trodAll_cons hA
  obtain ⟨v1, vs1, d1, ds1, p1, q1, rfl, rfl, rfl, h1, r1⟩ := trodAll_cons r0
  obtain ⟨rfl, rfl, rfl⟩ := trodAll_nil r1
  obtain rfl : args = #[v0, v1] := by cases args; simp_all
  obtain ⟨rfl, rfl⟩ := trodVars_none hV
  have hbulk : Rows.uptoBulkAll ([d0, d1] ++ []) ≤ 1048576 := of_decide_eq_true hk
  simp only [List.append_nil, Rows.uptoBulkAll] at hbulk
  have k0 := h0
  have lt0 : ∀ x ∈ p0, x.block < W.heap.size := by obtain ⟨m, hm⟩ := k0; exact DataW.trod_lt m _ _ _ hm
  obtain ⟨a0, len0, cap0, rfl⟩ := okWide_slice Try.underlying58 (hval 0 58 v0 rfl rfl)
  obtain ⟨x0, w0, b0⟩ : ∃ x, Rep (Old W) W (.e valS) x (.slice a0 len0 cap0) ∧ (encV x).length ≤ 10485760 := by
    obtain ⟨fuel, hf⟩ := h0
    obtain ⟨v, hv, hvl⟩ := flat_rep 5 58 [(.e valS)] (by kernel_rfl) _ _ _ hf
    match v, hv.1 with
    | [x], _ => exact ⟨x, hv.2.2 0 _ x _ rfl rfl rfl, by rw [encRow_one] at hvl; simp only at hvl; omega⟩
  have k1 := h1
  have lt1 : ∀ x ∈ p1, x.block < W.heap.size := by obtain ⟨m, hm⟩ := k1; exact DataW.trod_lt m _ _ _ hm
  obtain ⟨a1, len1, cap1, rfl⟩ := okWide_slice Try.underlying34 (hval 1 34 v1 rfl rfl)
  obtain ⟨z1, w1, b1⟩ : ∃ zs, IsRow .u8 W a1 len1 cap1 zs ∧ len1 ≤ 1048576 := by
    obtain ⟨fuel, hf⟩ := h1
    rcases open_ints Try.underlying34 Try.underlying5 (by kernel_rfl) hf with ⟨hcs, _⟩ | ⟨x, l, c, zs, hcs, _, hl, hm, hz, hx, hcell, hwz⟩
    · simp [Value.cells] at hcs
      obtain ⟨rfl, rfl, rfl⟩ := hcs
      exact ⟨[], .inl ⟨rfl, rfl, rfl, rfl⟩, by omega⟩
    · simp [Value.cells] at hcs
      obtain ⟨rfl, rfl, rfl⟩ := hcs
      have hz2 := hz
      simp only [if_true] at hz2
      simp only [Prod.mk.injEq] at hx
      have hb : len1 ≤ Rows.uptoBulk d1 := by
        rw [hx.1]
        simp only [Rows.uptoBulk]
        have := bulkAll_len (H := H) (lits .u8 (zs.take len1))
        simp only [lits, List.length_map, List.length_take] at this
        simp only [lits]
        omega
      exact ⟨zs, .inr ⟨_, rfl, hl, hm, hz2, hcell, hwz⟩, by omega⟩
  clear hA0 hval0
  refine (walk a0 len0 cap0 x0 a1 len1 cap1 z1 W w0 b0 w1 b1).mono fun e W' ⟨he, bel⟩ => ?_
  subst he
  exact ⟨_, rfl, _, _, _, [], _, [], hW', trodAll_mk1 (shut_bool Try.underlying4 _), (trodAll_cons_mk (Below.trod laidOut (by kernel_rfl) (of_decide_eq_true (by kernel_rfl)) k0 bel lt0) (trodAll_cons_mk (Below.trod laidOut (by kernel_rfl) (of_decide_eq_true (by kernel_rfl)) k1 bel lt1) trodAll_mk0)), rfl, bel.frame _, fun h => by cases h⟩

set_option maxRecDepth 100000 in
theorem lifted (os : Os) (started : os.Started) (H : Type) (enc : TypeId × Value → H) (F : Stop.Interp) :
    ReturnsInHanded {} Try.checked os 9 .any ((Rows.OpenSpec.upto Rows.octetBackSpec).pre6 enc Try.prog Try.f9 Rows.octetBackUptoRow.domain false) (((Rows.OpenSpec.upto Rows.octetBackSpec).at F).post enc Try.prog Try.f9 false true false false) := by
  refine returnsInHanded_of_cond (C := Try.checked) (s := Rows.OpenSpec.upto Rows.octetBackSpec) (k := Rows.uptoSmall) rfl own_knob started (by kernel_rfl) Try.func9
    (OpenSpec.witness (enc := enc) (C := Try.checked) (s := Rows.OpenSpec.upto Rows.octetBackSpec) (k := Rows.uptoSmall) rfl false ⟨#[], #[.slice none 0 0, .slice none 0 0], []⟩ 8 (by kernel_rfl) (by kernel_rfl) (by kernel_rfl)
      (x := ([.nil, .nil], [], [])) (by kernel_rfl) rfl (by kernel_rfl)) ?_
  intro W base args ds gs before hval hW _ hk _
  exact contract H enc W base args ds gs before hval hW hk

theorem proved : Rows.OctetBackUptoSaid :=
  OpenClaim.holds_of_cond 9 Try.f9 rfl rfl rfl rfl rfl rfl rfl ⟨rfl, rfl, rfl, rfl, rfl⟩ rfl rfl rfl rfl rfl (by kernel_rfl) Try.func9 (by kernel_rfl)
    (of_decide_eq_true (by kernel_rfl)) (by unfold Func.isWrapper; first | (rw [if_pos (by decide +kernel)]; kernel_rfl) | (rw [if_neg (by decide +kernel)]; exact ⟨rfl, rfl⟩))
    (fun os started H enc _ F => lifted os started H enc F)
#print axioms proved
end Go.Proofs.Ytbcpdjhpceimlaa.octetBack
