/-
  The laws' reading back of a value.
-/
import Derived.Test.YtbcpdjhpceimlaaBack
namespace Go.Proofs.Ytbcpdjhpceimlaa
open Go.ChangeShapes Go.WideShapes Go.ChangeAt Go.RowKit
set_option linter.unusedVariables false

/-- What reading back leaves: true, and the reader stands behind the value. -/
def BackPost (R : Nat) (a : Option Addr) (n c : Nat) (bs rest : Bytes) (w : World) (x : Ending) (w' : World) : Prop :=
  x = .returned (.bool true) ∧ ∃ at2, RdrAt 109 w' R a n c bs at2 0 ∧ bs.drop at2 = rest ∧ w.grownBy w' (some R)

theorem grown_cell {w w' : World} {R b : Nat} (hg : w.grownBy w' (some R)) (hb : b < w.heap.size) (hne : R < b) (off : Nat) : w'.cell? ⟨b, off, none⟩ = w.cell? ⟨b, off, none⟩ :=
  World.cell?_of_block (hg.block b hb (fun h => by injection h with h; omega))

theorem drewN_rdr {T : TypeId} {w : World} {R : Nat} {a : Option Addr} {n c : Nat} {bs : Bytes} {at' e : Nat} (h : RdrAt T w R a n c bs at' e) (k : Nat) : RdrAt T (w.drewN k) R a n c bs at' e := ⟨h.blk, h.cells, h.lt, h.nc, h.nil, h.len, h.bd, h.le⟩
theorem drewN_g {w w' : World} {row : Option Nat} (h : w.grownBy w' row) (k : Nat) : w.grownBy (w'.drewN k) row := ⟨h.os, h.tape, h.output, h.size, h.block⟩

theorem read_ok {T : TypeId} {w w' : World} {R : Nat} {a : Option Addr} {n c : Nat} {bs rest : Bytes} {st : St} (h : Left' T w w' R a n c bs st) (hs : st = .ok rest) : ∃ at2, RdrAt T w' R a n c bs at2 0 ∧ bs.drop at2 = rest ∧ w.grownBy w' (some R) := by
  obtain ⟨at2, e2, hr, h1, hg⟩ := h
  rw [hs] at h1
  obtain ⟨rfl, h2⟩ := stOf_ok_inv h1
  exact ⟨at2, hr, h2, hg⟩

set_option maxRecDepth 100000 in
set_option maxHeartbeats 1000000 in
theorem back_any (R : Nat) (a : Option Addr) (n c : Nat) (bs rest : Bytes) (at' : Nat) (kk : Int) (u : Nat) (nn : Int) (s : ByteArray) (la : Option Addr) (ln lc : Nat) (l : List Int) (w : World)
    (h : RdrAt 109 w R a n c bs at' 0) (hd : bs.drop at' = encVal kk u nn s.data.toList l ++ rest) (hbig : n ≤ 17592186044415)
    (hu : u < 18446744073709551616) (hn : In64 nn) (hs : s.size ≤ 4611686018427387904) (hL : Rep (Old w) w .l (.l l) (.slice la ln lc)) (hne : ∀ x, la = some x → 0 < ln → x.block ≠ R) (hln : ln ≤ 4611686018427387904) :
    Calls Try.prog 34 #[.pointer (some ⟨R, 0, none⟩), .agg #[.int .i64 kk, .int .u64 (u : Int), .int .i64 nn, .string s, .slice la ln lc]] w (BackPost R a n c bs rest w) := by
  obtain ⟨l2, la2, ln2, lc2, hv1, hv2, hll, -, -, hlnil, -, hlw, hlc⟩ := rep_l hL
  injection hv1 with hv1
  injection hv2 with hv2 hv3 hv4
  subst hv1 hv2 hv3 hv4
  have hbox : Below w.heap.size w (w.alloc (.cells #[.int .i64 kk, .int .u64 (u : Int), .int .i64 nn, .string s, .slice la ln lc] 61)) := (Below.refl _ _).alloc (Nat.le_refl _) _
  have hgb : w.grownBy (w.alloc (.cells #[.int .i64 kk, .int .u64 (u : Int), .int .i64 nn, .string s, .slice la ln lc] 61)) (some R) := World.grownBy_alloc _ _ _
  have HRW := Lib.hid (show R < w.heap.size from blk_lt h.blk)
  have HG0 := Lib.hid hgb
  have H := Lib.hid (h.below hbox)
  have HD := Lib.hid hd
  have HLL := Lib.hid hll
  have HLW := Lib.hid hlw
  have HLC := Lib.hid (hlc.below hbox)
  have HNE := Lib.hid hne
  have HI := Lib.hid hn
  have HU := Lib.hid hu
  have hssz : s.data.toList.length = s.size := by rw [Array.length_toList]; rfl
  have HSS := Lib.hid hssz
  have hblk : ∀ j, (w.alloc (.cells #[.int .i64 kk, .int .u64 (u : Int), .int .i64 nn, .string s, .slice la ln lc] 61)).cell? ⟨w.heap.size, j, none⟩ = (#[.int .i64 kk, .int .u64 (u : Int), .int .i64 nn, .string s, .slice la ln lc] : Array Value)[j]? := fun j => blk_cell (heap_alloc_new w _) j
  have HBK := Lib.hid hblk
  have hsw : w.heap.size < (w.alloc (.cells #[.int .i64 kk, .int .u64 (u : Int), .int .i64 nn, .string s, .slice la ln lc] 61)).heap.size := by simp
  have HSW := Lib.hid hsw
  clear h hll hlw hlc hn hu hbox hL hlnil hsw hgb hne hd hblk hssz
  by_cases k0 : kk = 0
  · subst k0
    have HE := Lib.hid (show uS u (stOf bs at' 0) = (u, .ok rest) by rw [stOf_ok, HD.out, encVal, if_pos rfl, uS_back HU.out (Nat.le_refl _)])
    go_enter Try.func34, Try.ntmps34
    go_wp2_with fail
    refine wp_region_plan [(0, none), (1, none), (4, none), (2, some none), (5, some none), (3, some (some true)), (6, none), (7, none)] (by kernel_rfl) (by kernel_rfl) ?_
    repeat (first | (refine plan_free (v := ?_) rfl rfl (fun _ => ?_) (fun K hK => ?_); rotate_left 1; (focus (go_simp <;> exact rfl)); go_simp; refine hK _ _ ?_; clear hK K) | (refine plan_held (v := ?_) rfl rfl ?_ (fun K hK => ?_); rotate_left 1; (focus (go_simp <;> exact rfl)); go_simp; refine hK _ _ ?_; clear hK K) | (refine plan_skip rfl rfl (fun K hK => ?_); go_simp; refine hK _ _ ?_; clear hK K))
    refine plan_effH rfl rfl (fun K hK => ?_)
    go_wp2_with (go_at_call 19; refine halt_here ?_)
    refine go_on ((Uint_any R a n c bs at' 0 u _ H.out.drew).mono ?_)
    rw [HE.out]
    rintro e w2 ⟨rfl, hleft⟩
    obtain ⟨at2, hr2, hd2, hg2⟩ := read_ok hleft rfl
    have HP2 := Lib.hid (show BackPost R a n c bs rest w (.returned (.bool true)) w2 from ⟨rfl, at2, hr2, hd2, HG0.out.trans (drew_g hg2)⟩)
    have d1 : w2.cell? ⟨w.heap.size, 1, none⟩ = some (.int .u64 (u : Int)) := by rw [grown_cell hg2 (by exact HSW.out) HRW.out]; exact HBK.out 1
    clear hleft hr2 hd2 hg2
    go_wp2_with fail
    refine ⟨⟨by go_simp, by go_simp, trivial⟩, ?_⟩
    repeat (first | (refine plan_free (v := ?_) rfl rfl (fun _ => ?_) (fun K hK => ?_); rotate_left 1; (focus (go_simp <;> exact rfl)); go_simp; refine hK _ _ ?_; clear hK K) | (refine plan_held (v := ?_) rfl rfl ?_ (fun K hK => ?_); rotate_left 1; (focus (go_simp <;> exact rfl)); go_simp; refine hK _ _ ?_; clear hK K) | (refine plan_skip rfl rfl (fun K hK => ?_); go_simp; refine hK _ _ ?_; clear hK K))
    refine plan_nil ?_
    go_wp2_with fail
    go_ret
    exact HP2.out
  by_cases k1 : kk = 1
  · subst k1
    have HE := Lib.hid (show iS (stOf bs at' 0) = (nn, .ok rest) by rw [stOf_ok, HD.out, encVal, if_neg (by decide), if_pos rfl, iS_back HI.out])
    go_enter Try.func34, Try.ntmps34
    go_wp2_with fail
    refine wp_region_plan [(0, none), (2, none), (3, some none), (1, some (some true)), (4, none), (5, none)] (by kernel_rfl) (by kernel_rfl) ?_
    repeat (first | (refine plan_free (v := ?_) rfl rfl (fun _ => ?_) (fun K hK => ?_); rotate_left 1; (focus (go_simp <;> exact rfl)); go_simp; refine hK _ _ ?_; clear hK K) | (refine plan_held (v := ?_) rfl rfl ?_ (fun K hK => ?_); rotate_left 1; (focus (go_simp <;> exact rfl)); go_simp; refine hK _ _ ?_; clear hK K) | (refine plan_skip rfl rfl (fun K hK => ?_); go_simp; refine hK _ _ ?_; clear hK K))
    refine plan_effH rfl rfl (fun K hK => ?_)
    go_wp2_with (go_at_call 20; refine halt_here ?_)
    refine go_on ((Int_any R a n c bs at' 0 _ H.out.drew).mono ?_)
    rw [HE.out]
    rintro e w2 ⟨rfl, hleft⟩
    obtain ⟨at2, hr2, hd2, hg2⟩ := read_ok hleft rfl
    have HP2 := Lib.hid (show BackPost R a n c bs rest w (.returned (.bool true)) w2 from ⟨rfl, at2, hr2, hd2, HG0.out.trans (drew_g hg2)⟩)
    have d1 : w2.cell? ⟨w.heap.size, 2, none⟩ = some (.int .i64 nn) := by rw [grown_cell hg2 (by exact HSW.out) HRW.out]; exact HBK.out 2
    clear hleft hr2 hd2 hg2
    go_wp2_with fail
    refine ⟨⟨by go_simp, trivial⟩, ?_⟩
    repeat (first | (refine plan_free (v := ?_) rfl rfl (fun _ => ?_) (fun K hK => ?_); rotate_left 1; (focus (go_simp <;> exact rfl)); go_simp; refine hK _ _ ?_; clear hK K) | (refine plan_held (v := ?_) rfl rfl ?_ (fun K hK => ?_); rotate_left 1; (focus (go_simp <;> exact rfl)); go_simp; refine hK _ _ ?_; clear hK K) | (refine plan_skip rfl rfl (fun K hK => ?_); go_simp; refine hK _ _ ?_; clear hK K))
    refine plan_nil ?_
    go_wp2_with fail
    go_ret
    exact HP2.out
  by_cases k2 : kk = 2
  · subst k2
    have HE := Lib.hid (show bS (stOf bs at' 0) = (decide (0 < nn), .ok rest) by rw [stOf_ok, HD.out, encVal, if_neg (by decide), if_neg (by decide), if_pos rfl, bS_back])
    go_enter Try.func34, Try.ntmps34
    go_wp2_with fail
    refine wp_region_plan [(0, none), (2, none), (3, some none), (4, none), (1, some (some true)), (5, none), (6, none)] (by kernel_rfl) (by kernel_rfl) ?_
    repeat (first | (refine plan_free (v := ?_) rfl rfl (fun _ => ?_) (fun K hK => ?_); rotate_left 1; (focus (go_simp <;> exact rfl)); go_simp; refine hK _ _ ?_; clear hK K) | (refine plan_held (v := ?_) rfl rfl ?_ (fun K hK => ?_); rotate_left 1; (focus (go_simp <;> exact rfl)); go_simp; refine hK _ _ ?_; clear hK K) | (refine plan_skip rfl rfl (fun K hK => ?_); go_simp; refine hK _ _ ?_; clear hK K))
    refine plan_effH rfl rfl (fun K hK => ?_)
    go_wp2_with (go_at_call 31; refine halt_here ?_)
    refine go_on ((Bool_any R a n c bs at' 0 _ H.out.drew).mono ?_)
    rw [HE.out]
    rintro e w2 ⟨rfl, hleft⟩
    obtain ⟨at2, hr2, hd2, hg2⟩ := read_ok hleft rfl
    have HP2 := Lib.hid (show BackPost R a n c bs rest w (.returned (.bool true)) w2 from ⟨rfl, at2, hr2, hd2, HG0.out.trans (drew_g hg2)⟩)
    have d1 : w2.cell? ⟨w.heap.size, 2, none⟩ = some (.int .i64 nn) := by rw [grown_cell hg2 (by exact HSW.out) HRW.out]; exact HBK.out 2
    clear hleft hr2 hd2 hg2
    go_wp2_with fail
    refine ⟨⟨by go_simp, trivial⟩, ?_⟩
    repeat (first | (refine plan_free (v := ?_) rfl rfl (fun _ => ?_) (fun K hK => ?_); rotate_left 1; (focus (go_simp <;> exact rfl)); go_simp; refine hK _ _ ?_; clear hK K) | (refine plan_held (v := ?_) rfl rfl ?_ (fun K hK => ?_); rotate_left 1; (focus (go_simp <;> exact rfl)); go_simp; refine hK _ _ ?_; clear hK K) | (refine plan_skip rfl rfl (fun K hK => ?_); go_simp; refine hK _ _ ?_; clear hK K))
    refine plan_nil ?_
    go_wp2_with fail
    go_ret
    exact HP2.out
  by_cases k3 : kk = 3
  · subst k3
    have HE := Lib.hid (show tS (s.size : Int) (stOf bs at' 0) = (s.data.toList, .ok rest) by rw [stOf_ok, HD.out, encVal, if_neg (by decide), if_neg (by decide), if_neg (by decide), if_pos rfl, tS_back (by rw [HSS.out]; omega) (by rw [HSS.out]; omega)])
    go_enter Try.func34, Try.ntmps34
    go_wp2_with fail
    refine wp_region_plan [(0, none), (1, none), (5, none), (2, some none), (3, none), (6, some none), (4, some (some true)), (7, none), (8, none)] (by kernel_rfl) (by kernel_rfl) ?_
    repeat (first | (refine plan_free (v := ?_) rfl rfl (fun _ => ?_) (fun K hK => ?_); rotate_left 1; (focus (go_simp <;> exact rfl)); go_simp; refine hK _ _ ?_; clear hK K) | (refine plan_held (v := ?_) rfl rfl ?_ (fun K hK => ?_); rotate_left 1; (focus (go_simp <;> exact rfl)); go_simp; refine hK _ _ ?_; clear hK K) | (refine plan_skip rfl rfl (fun K hK => ?_); go_simp; refine hK _ _ ?_; clear hK K))
    refine plan_effH rfl rfl (fun K hK => ?_)
    go_wp2_with (go_at_call 32; refine halt_here ?_)
    refine go_on ((Text_any R a n c bs at' 0 (s.size : Int) (by omega) _ H.out.drew).mono ?_)
    rw [HE.out]
    rintro e w2 ⟨rfl, hleft⟩
    obtain ⟨at2, hr2, hd2, hg2⟩ := read_ok hleft rfl
    have HP2 := Lib.hid (show BackPost R a n c bs rest w (.returned (.bool true)) w2 from ⟨rfl, at2, hr2, hd2, HG0.out.trans (drew_g hg2)⟩)
    have d1 : w2.cell? ⟨w.heap.size, 3, none⟩ = some (.string s) := by rw [grown_cell hg2 (by exact HSW.out) HRW.out]; exact HBK.out 3
    clear hleft hr2 hd2 hg2
    go_wp2_with fail
    refine ⟨⟨by go_simp, by go_simp, trivial⟩, ?_⟩
    repeat (first | (refine plan_free (v := ?_) rfl rfl (fun _ => ?_) (fun K hK => ?_); rotate_left 1; (focus (go_simp <;> exact rfl)); go_simp; refine hK _ _ ?_; clear hK K) | (refine plan_held (v := ?_) rfl rfl ?_ (fun K hK => ?_); rotate_left 1; (focus (go_simp <;> exact rfl)); go_simp; refine hK _ _ ?_; clear hK K) | (refine plan_skip rfl rfl (fun K hK => ?_); go_simp; refine hK _ _ ?_; clear hK K))
    refine plan_nil ?_
    go_wp2_with fail
    go_ret
    exact HP2.out
  · have HE := Lib.hid (show lS (ln : Int) (stOf bs at' 0) = (l, .ok rest) by rw [stOf_ok, HD.out, encVal, if_neg k0, if_neg k1, if_neg k2, if_neg k3, lS_back (by rw [HLL.out]; omega) (by rw [HLL.out]; omega) HLW.out])
    have q0 : (kk == 0) = false := by simpa using k0
    have q1 : (kk == 1) = false := by simpa using k1
    have q2 : (kk == 2) = false := by simpa using k2
    have q3 : (kk == 3) = false := by simpa using k3
    clear k0 k1 k2 k3
    go_enter Try.func34, Try.ntmps34
    go_wp2_with fail
    refine wp_region_plan [(0, none), (1, none), (5, none), (2, some none), (3, none), (6, some none), (4, some (some true)), (7, some (some false)), (8, none)] (by kernel_rfl) (by kernel_rfl) ?_
    repeat (first | (refine plan_free (v := ?_) rfl rfl (fun _ => ?_) (fun K hK => ?_); rotate_left 1; (focus (go_simp <;> exact rfl)); go_simp; refine hK _ _ ?_; clear hK K) | (refine plan_held (v := ?_) rfl rfl ?_ (fun K hK => ?_); rotate_left 1; (focus (go_simp <;> exact rfl)); go_simp; refine hK _ _ ?_; clear hK K) | (refine plan_skip rfl rfl (fun K hK => ?_); go_simp; refine hK _ _ ?_; clear hK K))
    refine plan_effH rfl rfl (fun K hK => ?_)
    go_wp2_with (go_at_call 33; refine halt_here ?_)
    refine go_on ((Ints_any R a n c bs at' 0 (ln : Int) (by omega) hbig _ H.out.drew).mono ?_)
    rw [HE.out]
    rintro e w2 ⟨o2, rfl, how2, hleft⟩
    obtain ⟨a2, c2, rfl, hc2⟩ := ownsRow_rd how2
    obtain ⟨at2, hr2, hd2, hg2⟩ := read_ok hleft rfl
    have HP2 := Lib.hid (show ∀ k, BackPost R a n c bs rest w (.returned (.bool true)) (w2.drewN k) from fun k => ⟨rfl, at2, drewN_rdr hr2 k, hd2, drewN_g (HG0.out.trans (drew_g hg2)) k⟩)
    have d1 : w2.cell? ⟨w.heap.size, 4, none⟩ = some (.slice la ln lc) := by rw [grown_cell hg2 (by exact HSW.out) HRW.out]; exact HBK.out 4
    have HC2 := Lib.hid hc2
    have HX2 := Lib.hid (show CellsAt w2 la (ic l) by
      rcases HLC.out with h0 | ⟨b, off, rfl, hg⟩
      · exact .inl h0
      · refine .inr ⟨b, off, rfl, fun j v hj => ?_⟩
        have h0 : 0 < ln := by
          have := (List.getElem?_eq_some_iff.1 hj).1
          rw [ic_length, HLL.out] at this
          omega
        exact ext_of_grown hg2 _ _ (fun h => HNE.out _ rfl h0 (by injection h)) (by exact hg j v hj))
    clear hleft hr2 hd2 hg2 hc2 how2
    generalize hl3 : l.length = m3 at *
    obtain rfl : m3 = ln := HLL.out
    have HL3 := Lib.hid hl3
    clear hl3 HLL
    go_wp2_with fail
    refine ⟨⟨by go_simp, by go_simp, trivial⟩, ?_⟩
    repeat (first | (refine plan_free (v := ?_) rfl rfl (fun _ => ?_) (fun K hK => ?_); rotate_left 1; (focus (go_simp <;> exact rfl)); go_simp; refine hK _ _ ?_; clear hK K) | (refine plan_held (v := ?_) rfl rfl ?_ (fun K hK => ?_); rotate_left 1; (focus (go_simp <;> exact rfl)); go_simp; refine hK _ _ ?_; clear hK K) | (refine plan_skip rfl rfl (fun K hK => ?_); go_simp; refine hK _ _ ?_; clear hK K))
    refine plan_eff rfl rfl (fun K hK => ?_)
    go_wp2_with (go_at_call 60; refine halt_here ?_)
    refine go_on ((same_eq a2 m3 c2 la lc l w2 HL3.out hln HC2.out HX2.out).mono ?_)
    rintro e w3 ⟨rfl, j, rfl⟩
    go_wp2_with fail
    repeat (first | (refine plan_free (v := ?_) rfl rfl (fun _ => ?_) (fun K hK => ?_); rotate_left 1; (focus (go_simp <;> exact rfl)); go_simp; refine hK _ _ ?_; clear hK K) | (refine plan_held (v := ?_) rfl rfl ?_ (fun K hK => ?_); rotate_left 1; (focus (go_simp <;> exact rfl)); go_simp; refine hK _ _ ?_; clear hK K) | (refine plan_skip rfl rfl (fun K hK => ?_); go_simp; refine hK _ _ ?_; clear hK K))
    refine plan_nil ?_
    go_wp2_with fail
    go_ret
    exact HP2.out j
end Go.Proofs.Ytbcpdjhpceimlaa
