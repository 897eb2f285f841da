/-
  Where what comes in is of bulk at most 1048576: the writing functions return the reference's bytes behind any bytes and leave the spare capacity as it is; the chapter's examples hold.
-/
import Derived.Test.YtbcpdjhpceimlaaRows
import Derived.SizedLaws
import Derived.Test.YtbcpdjhpceimlaaAlive
import Derived.Test.YtbcpdjhpceimlaaVal
import Derived.JoinedCond
import Derived.WalkKit
import Derived.ProofKit
import Derived.OpenShut
import Derived.ShutString
import Derived.ChangeOld
import Derived.Below
namespace Go.Proofs.Ytbcpdjhpceimlaa.octetWrites
open Go.ChangeShapes Go.WideShapes Go.ChangeAt Go.RowKit Go.Deep
open Go.ChangeMaps (open_string shut_string)
set_option linter.unusedVariables false

theorem own_knob : ownKnob Try.prog.godebug = none := by kernel_rfl
theorem bytes_5 : Try.prog.bytesOf 5 = 1 := by kernel_rfl
theorem laidOut : laidOutB Try.prog = true := by kernel_rfl

/-- What the walk is told of a slice of integers that came in: it is nil; or it leads to a row of 'cap' cells, the numbers 'zs' (the first 'len' are its elements, the rest its spare room), each fitting its kind. -/
def IsRow (k : IntKind) (w : World) (a : Option Addr) (len cap : Nat) (zs : List Int) : Prop :=
  (a = none ∧ len = 0 ∧ cap = 0 ∧ zs = []) ∨
  ∃ x, a = some x ∧ len ≤ cap ∧ cap ≤ maxLen ∧ zs.length = cap ∧ (∀ i, i < zs.length → w.cell? (x.add i) = some (.int k (zs.getD i 0))) ∧ ∀ n ∈ zs, (Lit.int k n).wf = true

theorem u64s_open {A : Nat → Prop} {w : World} {x : V} {a : Option Addr} {n c : Nat} (h : Rep A w (.e [.u]) x (.slice a n c)) :
    ∃ l : List Nat, l.length = n ∧ n ≤ c ∧ c ≤ maxLen ∧ (∀ x ∈ l, x < 18446744073709551616) ∧ CellsAt w a (uc l) ∧ (a = none → n = 0 ∧ c = 0) ∧ (encU l).length ≤ (encV x).length := by
  obtain ⟨rows, f, rfl, hrl, hlc1, hlm, hrs, hn, hcl, hrp⟩ := vals_open h
  have g : ∀ i, i < n → ∃ m : Nat, rows[i]? = some [.u m] ∧ m < 18446744073709551616 ∧ f i 0 = .int .u64 (m : Int) := by
    intro i hi
    have h0 : rows[i]? = some (rows[i]'(by omega)) := List.getElem?_eq_getElem (by omega)
    have h1 := hrs _ (List.getElem_mem (l := rows) (n := i) (by omega))
    have h2 := fun j q v h3 h4 => hrp i j _ q v h0 h3 h4
    generalize rows[i]'(by omega) = r at h0 h1 h2
    match r, h1 with
    | [v0], _ =>
      obtain ⟨u, rfl, e1, b1⟩ := rep_u (h2 0 _ _ rfl rfl)
      exact ⟨u, h0, b1, e1⟩
  obtain ⟨l, hl, hq⟩ := rows_choose _ n g
  have hrows : rows = l.map fun m => [.u m] := by
    apply List.ext_getElem?
    intro i
    rw [List.getElem?_map]
    by_cases hi : i < n
    · have h1 := (hq i _ (List.getElem?_eq_getElem (by omega))).1
      rw [h1, List.getElem?_eq_getElem (by omega)]
      rfl
    · rw [List.getElem?_eq_none (by omega), List.getElem?_eq_none (by omega)]
      rfl
  refine ⟨l, hl, hlc1, hlm, fun x hx => ?_, ?_, hn, ?_⟩
  · obtain ⟨i, hi⟩ := List.getElem?_of_mem hx
    exact (hq i x hi).2.1
  · by_cases h0 : n = 0
    · exact .inl (by simp [uc, List.eq_nil_of_length_eq_zero (hl.trans h0)])
    · obtain ⟨g', o, rfl, -, -, hc⟩ := hcl (by omega)
      refine .inr ⟨g', o, rfl, fun j u hj => ?_⟩
      simp only [uc, List.getElem?_map, Option.map_eq_some_iff] at hj
      obtain ⟨m, hj, rfl⟩ := hj
      have hjn : j < n := by rw [← hl]; exact (List.getElem?_eq_some_iff.1 hj).1
      have h1 := hc j 0 hjn (by simp)
      rw [(hq j m hj).2.2] at h1
      simpa using h1
  · have : ∀ l : List Nat, encRows (l.map fun m => [.u m]) = encU l := by
      intro l
      induction l with
      | nil => simp [encRows, encU]
      | cons m l ih => simp only [List.map_cons, encRows, encRow, encV, List.append_nil, ih]; simp [encU]
    rw [encV, hrows, this, List.length_append]
    omega

theorem encL_count (l : List Int) : l.length ≤ (encL l).length := by
  have : l.length ≤ (l.flatMap encI).length := by
    induction l with
    | nil => simp
    | cons x l ih =>
      have h := (leb_length (zz x)).1
      simp only [List.flatMap_cons, List.length_append, List.length_cons, encI] at ih ⊢
      omega
  simp only [encL, List.length_append]
  omega

theorem encRows_le {rows : List (List V)} {i : Nat} {r : List V} (h : rows[i]? = some r) : (encRow r).length ≤ (encRows rows).length := by
  induction rows generalizing i with
  | nil => simp at h
  | cons x rows ih =>
    rw [encRows, List.length_append]
    cases i with
    | zero => simp at h; subst h; omega
    | succ i => have := ih (i := i) (by simpa using h); omega

/-- One field is written in at most as many bytes as all; a bool in one. -/
theorem encVal_le (rows : List (List V)) (i : Nat) (k : Int) (u : Nat) (n : Int) (s : Bytes) (l : List Int) (h : rows[i]? = some [.i k, .u u, .i n, .t s, .l l]) : (encVal k u n s l).length ≤ (encRows rows).length + 10 ∧ (encL l).length ≤ (encRows rows).length := by
  have h1 := encRows_le h
  simp only [encRow, encV, List.length_append, List.append_nil] at h1
  have h2 := encB_len (decide (0 < n))
  refine ⟨?_, by omega⟩
  unfold encVal
  split
  · omega
  · split
    · omega
    · split
      · omega
      · split <;> omega

theorem rep_l_len {A : Nat → Prop} {w : World} {l : List Int} {a : Option Addr} {n c : Nat} (h : Rep A w .l (.l l) (.slice a n c)) : l.length = n := by
  obtain ⟨l2, la2, ln2, lc2, hv1, hv2, hll, -⟩ := rep_l h
  injection hv1 with hv1
  injection hv2 with hv2 hv3 hv4
  subst hv1 hv3
  exact hll

theorem encU_count : ∀ l : List Nat, l.length ≤ (encU l).length
  | [] => by simp
  | x :: l => by
    have := encU_count l
    have h := (leb_length x).1
    simp only [encU, List.flatMap_cons, List.length_append, List.length_cons] at this ⊢
    omega

/-! ### the walk -/
set_option maxRecDepth 100000 in
set_option maxHeartbeats 2000000 in
theorem walk (a0 : Option Addr) (len0 cap0 : Nat) (z0 : List Int) (a1 : Option Addr) (len1 cap1 : Nat) (x1 : V) (a2 : Option Addr) (len2 cap2 : Nat) (x2 : V) (w : World) (w0 : IsRow .u8 w a0 len0 cap0 z0) (b0 : len0 ≤ 1048576) (w1 : Rep (Old w) w (.e valS) x1 (.slice a1 len1 cap1)) (b1 : (encV x1).length ≤ 10485760) (w2 : Rep (Old w) w (.e [.u]) x2 (.slice a2 len2 cap2)) (b2 : (encV x2).length ≤ 10485760) :
    Calls Try.prog 6 #[.slice a0 len0 cap0, .slice a1 len1 cap1, .slice a2 len2 cap2] w fun e w' => e = .returned (.bool true) ∧ Below w.heap.size w w' := by
  obtain ⟨i0, hi, hz0, hz1, hz2⟩ := info_parts info5
  obtain ⟨hrd, hnil, hzl⟩ := isRow_cells w0
  obtain ⟨hlc, hwf⟩ := isRow_wf w0
  obtain ⟨bs, hbl, hbe⟩ := bytes_of (z0.take len0) hwf
  rw [hbe] at hrd
  have HL := Lib.hid (hbl.trans hzl)
  have HN := Lib.hid hnil
  have HRD := Lib.hid hrd
  clear hrd hnil hzl hwf hbe hbl w0
  obtain ⟨rows, f, rfl, hrl, hlc1, hlm, hrs, -, hcl, hrp⟩ := vals_open w1
  have HRS := Lib.hid hrs
  have HC := Lib.hid hcl
  have HP := Lib.hid hrp
  have HRL := Lib.hid hrl
  have HB1 := Lib.hid (show (encRows rows).length ≤ 10485760 by rw [encV, List.length_append] at b1; omega)
  unfold maxLen at hlm
  clear hcl hrp hrl hrs w1 b1
  obtain ⟨l, hul, hulc, hulm, hult, hucl, -, hulen⟩ := u64s_open w2
  have HUL := Lib.hid hul
  have HUT := Lib.hid hult
  have HUC := Lib.hid hucl
  have HUB := Lib.hid (Nat.le_trans hulen b2)
  have hu30 : len2 ≤ 10485760 := by have := encU_count l; omega
  clear hul hult hucl hulen b2 w2 hulm
  obtain ⟨m, hm⟩ : ∃ m, len0 + 64 = m := ⟨_, rfl⟩
  have hw1 : IntKind.i64.wrap ((len0 : Int) + 64) = (m : Int) := by rw [wrapI _ (by omega) (by omega)]; omega
  have HM := Lib.hid hm
  clear hm
  go_enter Try.func6, Try.ntmps6
  go_wp2_with (at_make; refine wpList_wp rfl (fun K hK => ?_); refine halt_here ?_)
  refine go_on (wp_make0 34 _ (.tmp 13) rfl w.heap.size 5 i0 (.int .u8 0) 1 Try.underlying34 hi hz0 hz1 .i64 .i64 m rfl rfl (by rw [hz2]; have := HM.out; omega) (by unfold maxLen; have := HM.out; omega) (Nat.le_refl _) ?_)
  intro w1 how hg
  have HOW := Lib.hid how
  have HB := Lib.hid (grown_below hg)
  clear how hg
  refine hK _ _ ?_
  clear hK K
  go_wp2_with (at_builtin; refine wpList_wp rfl (fun K hK => ?_); refine halt_here ?_)
  refine go_on (wp_append (.tmp 14) (.tmp 15) 34 rfl w.heap.size 5 i0 (.int .u8 0) 1 1 Try.underlying34 hi hz0 hz1 hz2 rfl (by decide) _ 0 [] rfl HOW.out _ len0 (bc bs) rfl ⟨_, _, rfl, HRD.out.below HB.out⟩ (fun cap hc => by cases hc; exact (HN.out rfl).2) (by rw [bc_length, HL.out]; omega) (one_bc bs) (by unfold maxLen; omega) (by omega) HB.out.size ?_)
  intro v1 w2 hown1 hgr1
  rw [List.nil_append, Nat.zero_add] at hown1
  have HB2 := Lib.hid (HB.out.grown hgr1 HB.out.size (fun k hk => (HOW.out.lt k hk).1))
  have HOW2 := Lib.hid hown1
  clear hown1 hgr1
  refine hK _ _ ?_
  clear hK K
  go_wp2_with (at_builtin; refine wpList_wp rfl (fun K hK => ?_); refine halt_here ?_)
  refine go_on (wp_append (.tmp 16) (.tmp 17) 34 rfl w.heap.size 5 i0 (.int .u8 0) 1 1 Try.underlying34 hi hz0 hz1 hz2 rfl (by decide) _ len0 (bc bs) rfl (HOW2.out.alloc _) _ 8 (bc [7, 7, 7, 7, 7, 7, 7, 7]) rfl ⟨_, _, rfl, rd_lit w2 .u8 5 [7, 7, 7, 7, 7, 7, 7, 7]⟩ (fun cap hc => by cases hc) rfl (one_bc _) (by unfold maxLen; omega) (by omega) (size_alloc_le _ _ HB2.out.size) ?_)
  intro v2 w3 hown2 hgr2
  rw [← bc_append] at hown2
  have HB3 := Lib.hid ((HB2.out.alloc HB2.out.size _).grown hgr2 (size_alloc_le _ _ HB2.out.size) (fun k hk => (HOW2.out.lt k hk).1))
  obtain ⟨a3, c3, rfl, hc3⟩ := ownsRow_rd hown2
  have h3c := own_cap hown2
  obtain ⟨b3, o3, rfl, -⟩ := hc3.pos (by rw [bc_length, List.length_append]; simp only [List.length_cons]; omega)
  have HC3 := Lib.hid hc3
  have HHD := Lib.hid (show CellsAt w3 (some ⟨b3, o3, none⟩) (bc bs) by have := hc3.take_bc len0; rwa [List.take_append_of_le_length (by rw [HL.out]; exact Nat.le_refl _), List.take_of_length_le (by rw [HL.out]; exact Nat.le_refl _)] at this)
  clear hc3 hown2 hgr2
  refine hK _ _ ?_
  clear hK K HOW2 HOW HB HB2
  have hq : len0 ≤ c3 := by omega
  have HD3 := Lib.hid (show Below w3.heap.size w3 w3.drew from (Below.refl _ _).drew)
  go_wp2_with fail
  refine wp_region_plan [(0, none), (1, none), (2, some (some false)), (3, some none), (4, none), (5, none), (6, some (some true)), (7, some none), (8, none)] (by kernel_rfl) (by kernel_rfl) ?_
  repeat (first | (refine plan_free (v := ?_) rfl rfl (fun _ => ?_) (fun K hK => ?_); rotate_left 1; (focus (go_simp <;> exact rfl)); go_simp; refine hK _ _ ?_; clear hK K) | (refine plan_held (v := ?_) rfl rfl ?_ (fun K hK => ?_); rotate_left 1; (focus (go_simp <;> exact rfl)); go_simp; refine hK _ _ ?_; clear hK K) | (refine plan_skip rfl rfl (fun K hK => ?_); go_simp; refine hK _ _ ?_; clear hK K))
  refine plan_eff rfl rfl (fun K hK => ?_)
  go_wp2_with (go_at_call 24; refine halt_here ?_)
  refine go_on ((Put_any _ len0 c3 bs a2 len2 cap2 l _ (HHD.out.below HD3.out) (fun h => by cases h) HL.out ((HUC.out.below HB3.out).below HD3.out) HUL.out (by omega) HUT.out (by have := HL.out; have := HUB.out; omega)).mono ?_)
  rintro e w4 ⟨v4, rfl, how4, hb4⟩
  obtain ⟨a4, n4, c4, rfl, HL4, HC4, HN4⟩ := own_open how4
  have HB4 := Lib.hid (HD3.out.trans (hb4.mono HD3.out.size))
  have hcv4 := conv_str c4 HC4.out HL4.out
  clear how4 hb4
  go_wp2_with fail
  repeat (first | (refine plan_free (v := ?_) rfl rfl (fun _ => ?_) (fun K hK => ?_); rotate_left 1; (focus (go_simp <;> exact rfl)); go_simp; refine hK _ _ ?_; clear hK K) | (refine plan_held (v := ?_) rfl rfl ?_ (fun K hK => ?_); rotate_left 1; (focus (go_simp <;> exact rfl)); go_simp; refine hK _ _ ?_; clear hK K) | (refine plan_skip rfl rfl (fun K hK => ?_); go_simp; refine hK _ _ ?_; clear hK K))
  refine plan_effH rfl rfl (fun K hK => ?_)
  go_wp2_with (go_at_call 26; refine halt_here ?_)
  refine go_on ((RPut_any a0 len0 cap0 bs a2 len2 cap2 l _ ((HRD.out.below HB3.out).below HB4.out) HN.out HL.out ((HUC.out.below HB3.out).below HB4.out) HUL.out (by omega) HUT.out (by have := HL.out; have := HUB.out; omega)).mono ?_)
  rintro e w5 ⟨v5, rfl, how5, hb5⟩
  obtain ⟨a5, n5, c5, rfl, HL5, HC5, HN5⟩ := own_open how5
  have HB5 := Lib.hid (HB4.out.trans (hb5.mono HB4.out.size))
  have hcv5 := conv_str c5 HC5.out HL5.out
  have hcv4b := conv_str c4 (HC4.out.below hb5) HL4.out
  clear how5 hb5 hcv4
  go_wp2_with fail
  refine ⟨⟨by go_simp, trivial⟩, ?_⟩
  repeat (first | (refine plan_free (v := ?_) rfl rfl (fun _ => ?_) (fun K hK => ?_); rotate_left 1; (focus (go_simp <;> exact rfl)); go_simp; refine hK _ _ ?_; clear hK K) | (refine plan_held (v := ?_) rfl rfl ?_ (fun K hK => ?_); rotate_left 1; (focus (go_simp <;> exact rfl)); go_simp; refine hK _ _ ?_; clear hK K) | (refine plan_skip rfl rfl (fun K hK => ?_); go_simp; refine hK _ _ ?_; clear hK K))
  refine plan_nil ?_
  have hs : w.heap.size ≤ w3.heap.size := HB3.out.size
  have HW5 := Lib.hid (show Below w3.heap.size w3 w5 from HB5.out)
  clear hcv5 hcv4b HC4 HC5 HB4 HB5 HD3 HUC HUB
  go_wp2_with fail
  go_loopw [34] (fun i wr => ∃ k : Nat, i = .int .i64 k ∧ k ≤ len1 ∧ Hid (Below w3.heap.size w3 wr)) (fun i _ => len1 - (intOf i).toNat)
  case atStart => exact ⟨0, rfl, Nat.zero_le _, HW5⟩
  case round =>
    obtain ⟨k, rfl, hk, HW⟩ := hrel
    clear HW5
    by_cases hlt : k < len1
    · obtain ⟨g, o, rfl, -, hgl, hcells⟩ := HC.out (by omega)
      obtain ⟨kk, u, nn, s, ll, hrow, e0, -, e1', hu, e2', hnn, e3, hs3, la, ln, lc, e4, hL⟩ := val_open HRS.out (by rw [HRL.out]; omega) HP.out (i := k)
      have hB := HB3.out.trans (HW.out.mono HB3.out.size)
      have cell : ∀ j, j < 5 → wr.cell? ⟨g, o + (k * 5 + j), none⟩ = some (f k j) := fun j hj => by rw [hB.cell (by exact hgl)]; exact hcells k j hlt hj
      have c0 : wr.cell? ⟨g, o + k * 5, none⟩ = some (.int .i64 kk) := by rw [← e0]; exact cell 0 (by decide)
      have c1 : wr.cell? ⟨g, o + k * 5 + 1, none⟩ = some (.int .u64 (u : Int)) := by rw [← e1', Nat.add_assoc]; exact cell 1 (by decide)
      have c2' : wr.cell? ⟨g, o + k * 5 + 2, none⟩ = some (.int .i64 nn) := by rw [← e2', Nat.add_assoc]; exact cell 2 (by decide)
      have c3' : wr.cell? ⟨g, o + k * 5 + 3, none⟩ = some (.string s) := by rw [← e3, Nat.add_assoc]; exact cell 3 (by decide)
      have c4' : wr.cell? ⟨g, o + k * 5 + 4, none⟩ = some (.slice la ln lc) := by rw [← e4, Nat.add_assoc]; exact cell 4 (by decide)
      have HLR := Lib.hid hL
      have HU := Lib.hid hu
      have HNN := Lib.hid hnn
      have hle := encVal_le rows k kk u nn s.data.toList ll hrow
      have hlnn := rep_l_len hL
      have HEV := Lib.hid (show (encVal kk u nn s.data.toList ll).length ≤ 20971520 by have := HB1.out; omega)
      have HLN := Lib.hid (show ln ≤ 4611686018427387904 by have := HB1.out; have := encL_count ll; omega)
      clear cell e0 e1' e2' e3 e4 hcells hB hL hu hnn hrow hle hlnn hs3
      have HA := Lib.hid (HW.out.alloc HW.out.size (.cells #[.int .i64 kk, .int .u64 (u : Int), .int .i64 nn, .string s, .slice la ln lc] 61))
      have HAD := Lib.hid HA.out.drew
      go_wp2_with fail
      refine wp_region_plan [(0, none), (4, none), (1, some none), (5, some none), (2, some (some true)), (3, some none), (6, some (some true)), (7, some none), (8, none)] (by kernel_rfl) (by kernel_rfl) ?_
      repeat (first | (refine plan_free (v := ?_) rfl rfl (fun _ => ?_) (fun K hK => ?_); rotate_left 1; (focus (go_simp <;> exact rfl)); go_simp; refine hK _ _ ?_; clear hK K) | (refine plan_held (v := ?_) rfl rfl ?_ (fun K hK => ?_); rotate_left 1; (focus (go_simp <;> exact rfl)); go_simp; refine hK _ _ ?_; clear hK K) | (refine plan_skip rfl rfl (fun K hK => ?_); go_simp; refine hK _ _ ?_; clear hK K))
      refine plan_effH rfl rfl (fun K hK => ?_)
      go_wp2_with (go_at_call 27; refine halt_here ?_)
      refine go_on ((valput_any _ len0 c3 bs kk u nn s la ln lc ll _ (HHD.out.below HAD.out) (fun h => by cases h) HL.out HU.out HNN.out ((HLR.out.later HB3.out).later HAD.out) HLN.out (by have := HL.out; have := HEV.out; omega)).mono ?_)
      rintro e w6 ⟨v6, rfl, how6, hb6⟩
      obtain ⟨a6, n6, c6, rfl, HL6, HC6, HN6⟩ := own_open how6
      have HB6 := Lib.hid (HAD.out.trans (hb6.mono HAD.out.size))
      have hcv6 := conv_str c6 HC6.out HL6.out
      have d0 : w6.cell? ⟨wr.heap.size, 0, none⟩ = some (.int .i64 kk) := by rw [hb6.cell (by simp)]; exact blk_cell (heap_alloc_new wr _) 0
      have d1 : w6.cell? ⟨wr.heap.size, 1, none⟩ = some (.int .u64 (u : Int)) := by rw [hb6.cell (by simp)]; exact blk_cell (heap_alloc_new wr _) 1
      have d2 : w6.cell? ⟨wr.heap.size, 2, none⟩ = some (.int .i64 nn) := by rw [hb6.cell (by simp)]; exact blk_cell (heap_alloc_new wr _) 2
      have d3 : w6.cell? ⟨wr.heap.size, 3, none⟩ = some (.string s) := by rw [hb6.cell (by simp)]; exact blk_cell (heap_alloc_new wr _) 3
      have d4 : w6.cell? ⟨wr.heap.size, 4, none⟩ = some (.slice la ln lc) := by rw [hb6.cell (by simp)]; exact blk_cell (heap_alloc_new wr _) 4
      have HX6 := Lib.hid hb6
      clear how6 hb6
      go_wp2_with fail
      refine ⟨⟨by go_simp, by go_simp, trivial⟩, ?_⟩
      repeat (first | (refine plan_free (v := ?_) rfl rfl (fun _ => ?_) (fun K hK => ?_); rotate_left 1; (focus (go_simp <;> exact rfl)); go_simp; refine hK _ _ ?_; clear hK K) | (refine plan_held (v := ?_) rfl rfl ?_ (fun K hK => ?_); rotate_left 1; (focus (go_simp <;> exact rfl)); go_simp; refine hK _ _ ?_; clear hK K) | (refine plan_skip rfl rfl (fun K hK => ?_); go_simp; refine hK _ _ ?_; clear hK K))
      refine plan_effH rfl rfl (fun K hK => ?_)
      go_wp2_with (go_at_call 28; refine halt_here ?_)
      refine go_on ((valref_any a0 len0 cap0 bs kk u nn s la ln lc ll w6 ((HRD.out.below HB3.out).below HB6.out) HN.out HL.out HU.out HNN.out ((HLR.out.later HB3.out).later HB6.out) HLN.out (by have := HL.out; have := HEV.out; omega)).mono ?_)
      rintro e w7 ⟨v7, rfl, how7, hb7⟩
      obtain ⟨a7, n7, c7, rfl, HL7, HC7, HN7⟩ := own_open how7
      have HB7 := Lib.hid (HB6.out.trans (hb7.mono HB6.out.size))
      have hcv7 := conv_str c7 HC7.out HL7.out
      have hcv6b := conv_str c6 (HC6.out.below hb7) HL6.out
      have hlt6 : wr.heap.size < w6.heap.size := by have := HX6.out.size; simp at this; omega
      have e0 : w7.cell? ⟨wr.heap.size, 0, none⟩ = some (.int .i64 kk) := by rw [hb7.cell hlt6]; exact d0
      have e1' : w7.cell? ⟨wr.heap.size, 1, none⟩ = some (.int .u64 (u : Int)) := by rw [hb7.cell hlt6]; exact d1
      have e2' : w7.cell? ⟨wr.heap.size, 2, none⟩ = some (.int .i64 nn) := by rw [hb7.cell hlt6]; exact d2
      have e3 : w7.cell? ⟨wr.heap.size, 3, none⟩ = some (.string s) := by rw [hb7.cell hlt6]; exact d3
      have e4 : w7.cell? ⟨wr.heap.size, 4, none⟩ = some (.slice la ln lc) := by rw [hb7.cell hlt6]; exact d4
      clear how7 hb7 hcv6 d0 d1 d2 d3 d4 hlt6
      go_wp2_with fail
      refine ⟨⟨by go_simp, by go_simp, by go_simp, trivial⟩, ?_⟩
      repeat (first | (refine plan_free (v := ?_) rfl rfl (fun _ => ?_) (fun K hK => ?_); rotate_left 1; (focus (go_simp <;> exact rfl)); go_simp; refine hK _ _ ?_; clear hK K) | (refine plan_held (v := ?_) rfl rfl ?_ (fun K hK => ?_); rotate_left 1; (focus (go_simp <;> exact rfl)); go_simp; refine hK _ _ ?_; clear hK K) | (refine plan_skip rfl rfl (fun K hK => ?_); go_simp; refine hK _ _ ?_; clear hK K))
      refine plan_nil ?_
      clear e0 e1' e2' e3 e4 hcv7 hcv6b
      go_wp2_with fail
      go_roundw
      case rel => exact ⟨k + 1, by go_num, by omega, HB7⟩
      case measure => simp [intOf]; omega
    · go_wp2_with (go_at_call 22; refine halt_here ?_)
      refine go_on ((alive_any wr).mono ?_)
      rintro e w5 ⟨rfl, hb5⟩
      have HX5 := Lib.hid (HW.out.trans (hb5.mono HW.out.size))
      have hcv1 := conv_str c3 (HC3.out.below HX5.out) (n := len0 + 8) (by rw [List.length_append, HL.out]; rfl)
      have hcv2 := conv_str cap0 ((HRD.out.below HB3.out).below HX5.out) HL.out
      have hsm : bs.length + 8 ≤ 9223372036854775807 := by have := HL.out; omega
      have HY5 := Lib.hid (HB3.out.trans (HX5.out.mono HB3.out.size))
      clear hb5
      go_wp2_with fail
      go_ret
      refine ⟨ret1 ?_, HY5.out⟩
      have e1 : ({ data := bs.toArray } ++ { data := #[7, 7, 7, 7, 7, 7, 7, 7] } : ByteArray).toList = bs ++ [7, 7, 7, 7, 7, 7, 7, 7] := by
        rw [show ({ data := #[7, 7, 7, 7, 7, 7, 7, 7] } : ByteArray) = ByteArray.mk ([7, 7, 7, 7, 7, 7, 7, 7] : List UInt8).toArray from rfl, ByteArray.mk_append_mk, ByteArray.toList_mk]
      rw [e1]
      simp

/-! ### the row -/
set_option maxRecDepth 100000 in
theorem contract (H : Type) (enc : TypeId × Value → H) (W : World) (base : Nat) (args : Array Value) (ds gs : List (DataW H)) (before : List MemPlace)
    (hval0 : ∀ (j : Nat) t v, Try.f6.params[j]? = some t → args[j]? = some v → Value.okWide Try.prog W .any base t v)
    (hW : DataW.Whole enc Try.prog Try.f6.params.toList Rows.octetWritesSpec.vars false W args.toList ds gs before) (hk : Rows.uptoSmall H (ds ++ gs) = true) :
    Calls Try.prog 6 args W fun e W' => ∃ v, e = .returned v ∧ Rows.octetWritesSpec.post enc Try.prog Try.f6 false true false false W args v W' := by
  have hval : ∀ (j : Nat) t v, Try.f6.params[j]? = some t → args[j]? = some v → Value.okWide Try.prog W .any base t v := hval0
  have hW' := hW
  obtain ⟨p, q, hA0, hV, rfl, hfz, hnd⟩ := hW
  have hA : DataW.TrodAll enc Try.prog W 0 (fun _ => true) true Try.f6.params.toList args.toList ds p := hA0
  rw [Try.params6] at hA hval
  obtain ⟨v0, vs0, d0, ds0, p0, q0, hargs, rfl, rfl, h0, r0⟩ := trodAll_cons hA
  obtain ⟨v1, vs1, d1, ds1, p1, q1, rfl, rfl, rfl, h1, r1⟩ := trodAll_cons r0
  obtain ⟨v2, vs2, d2, ds2, p2, q2, rfl, rfl, rfl, h2, r2⟩ := trodAll_cons r1
  obtain ⟨rfl, rfl, rfl⟩ := trodAll_nil r2
  obtain rfl : args = #[v0, v1, v2] := by cases args; simp_all
  obtain ⟨rfl, rfl⟩ := trodVars_none hV
  have hbulk : Rows.uptoBulkAll ([d0, d1, d2] ++ []) ≤ 1048576 := of_decide_eq_true hk
  simp only [List.cons_append, List.nil_append, List.append_nil, Rows.uptoBulkAll] at hbulk
  have k0 := h0
  have lt0 : ∀ x ∈ p0, x.block < W.heap.size := by obtain ⟨m, hm⟩ := k0; exact DataW.trod_lt m _ _ _ hm
  obtain ⟨a0, len0, cap0, rfl⟩ := okWide_slice Try.underlying34 (hval 0 34 v0 rfl rfl)
  obtain ⟨z0, w0, b0⟩ : ∃ zs, IsRow .u8 W a0 len0 cap0 zs ∧ len0 ≤ 1048576 := by
    obtain ⟨fuel, hf⟩ := h0
    rcases open_ints Try.underlying34 Try.underlying5 (by kernel_rfl) hf with ⟨hcs, _⟩ | ⟨x, l, c, zs, hcs, _, hl, hm, hz, hx, hcell, hwz⟩
    · simp [Value.cells] at hcs
      obtain ⟨rfl, rfl, rfl⟩ := hcs
      exact ⟨[], .inl ⟨rfl, rfl, rfl, rfl⟩, by omega⟩
    · simp [Value.cells] at hcs
      obtain ⟨rfl, rfl, rfl⟩ := hcs
      have hz2 := hz
      simp only [if_true] at hz2
      simp only [Prod.mk.injEq] at hx
      have hb : len0 ≤ Rows.uptoBulk d0 := by
        rw [hx.1]
        simp only [Rows.uptoBulk]
        have := bulkAll_len (H := H) (lits .u8 (zs.take len0))
        simp only [lits, List.length_map, List.length_take] at this
        simp only [lits]
        omega
      exact ⟨zs, .inr ⟨_, rfl, hl, hm, hz2, hcell, hwz⟩, by omega⟩
  have k1 := h1
  have lt1 : ∀ x ∈ p1, x.block < W.heap.size := by obtain ⟨m, hm⟩ := k1; exact DataW.trod_lt m _ _ _ hm
  obtain ⟨a1, len1, cap1, rfl⟩ := okWide_slice Try.underlying58 (hval 1 58 v1 rfl rfl)
  obtain ⟨x1, w1, b1⟩ : ∃ x, Rep (Old W) W (.e valS) x (.slice a1 len1 cap1) ∧ (encV x).length ≤ 10485760 := by
    obtain ⟨fuel, hf⟩ := h1
    obtain ⟨v, hv, hvl⟩ := flat_rep 5 58 [(.e valS)] (by kernel_rfl) _ _ _ hf
    match v, hv.1 with
    | [x], _ => exact ⟨x, hv.2.2 0 _ x _ rfl rfl rfl, by rw [encRow_one] at hvl; simp only at hvl; omega⟩
  have k2 := h2
  have lt2 : ∀ x ∈ p2, x.block < W.heap.size := by obtain ⟨m, hm⟩ := k2; exact DataW.trod_lt m _ _ _ hm
  obtain ⟨a2, len2, cap2, rfl⟩ := okWide_slice Try.underlying59 (hval 2 59 v2 rfl rfl)
  obtain ⟨x2, w2, b2⟩ : ∃ x, Rep (Old W) W (.e [.u]) x (.slice a2 len2 cap2) ∧ (encV x).length ≤ 10485760 := by
    obtain ⟨fuel, hf⟩ := h2
    obtain ⟨v, hv, hvl⟩ := flat_rep 5 59 [(.e [.u])] (by kernel_rfl) _ _ _ hf
    match v, hv.1 with
    | [x], _ => exact ⟨x, hv.2.2 0 _ x _ rfl rfl rfl, by rw [encRow_one] at hvl; simp only at hvl; omega⟩
  clear hA0 hval0
  refine (walk a0 len0 cap0 z0 a1 len1 cap1 x1 a2 len2 cap2 x2 W w0 b0 w1 b1 w2 b2).mono fun e W' ⟨he, bel⟩ => ?_
  subst he
  exact ⟨_, rfl, _, _, _, [], _, [], hW', trodAll_mk1 (shut_bool Try.underlying4 _), (trodAll_cons_mk (Below.trod laidOut (by kernel_rfl) (of_decide_eq_true (by kernel_rfl)) k0 bel lt0) (trodAll_cons_mk (Below.trod laidOut (by kernel_rfl) (of_decide_eq_true (by kernel_rfl)) k1 bel lt1) (trodAll_cons_mk (Below.trod laidOut (by kernel_rfl) (of_decide_eq_true (by kernel_rfl)) k2 bel lt2) trodAll_mk0))), rfl, bel.frame _, fun h => by cases h⟩

set_option maxRecDepth 100000 in
theorem lifted (os : Os) (started : os.Started) (H : Type) (enc : TypeId × Value → H) (F : Stop.Interp) :
    ReturnsInHanded {} Try.checked os 6 .any ((Rows.OpenSpec.upto Rows.octetWritesSpec).pre6 enc Try.prog Try.f6 Rows.octetWritesUptoRow.domain false) (((Rows.OpenSpec.upto Rows.octetWritesSpec).at F).post enc Try.prog Try.f6 false true false false) := by
  refine returnsInHanded_of_cond (C := Try.checked) (s := Rows.OpenSpec.upto Rows.octetWritesSpec) (k := Rows.uptoSmall) rfl own_knob started (by kernel_rfl) Try.func6
    (OpenSpec.witness (enc := enc) (C := Try.checked) (s := Rows.OpenSpec.upto Rows.octetWritesSpec) (k := Rows.uptoSmall) rfl false ⟨#[], #[.slice none 0 0, .slice none 0 0, .slice none 0 0], []⟩ 8 (by kernel_rfl) (by kernel_rfl) (by kernel_rfl)
      (x := ([.nil, .nil, .nil], [], [])) (by kernel_rfl) rfl (by kernel_rfl)) ?_
  intro W base args ds gs before hval hW _ hk _
  exact contract H enc W base args ds gs before hval hW hk

theorem proved : Rows.OctetWritesUptoSaid :=
  OpenClaim.holds_of_cond 6 Try.f6 rfl rfl rfl rfl rfl rfl rfl ⟨rfl, rfl, rfl, rfl, rfl⟩ rfl rfl rfl rfl rfl (by kernel_rfl) Try.func6 (by kernel_rfl)
    (of_decide_eq_true (by kernel_rfl)) (by unfold Func.isWrapper; first | (rw [if_pos (by decide +kernel)]; kernel_rfl) | (rw [if_neg (by decide +kernel)]; exact ⟨rfl, rfl⟩))
    (fun os started H enc _ F => lifted os started H enc F)
#print axioms proved
end Go.Proofs.Ytbcpdjhpceimlaa.octetWrites
