/-
  Comparisons of layers 3, 17, 26 of the reference: lists of ints, lists of modifications. What reads as the same value is the same.
-/
import Derived.Test.YtbcpdjhpceimlaaSameLib
import Derived.Test.YtbcpdjhpceimlaaAllMod
import Derived.Test.YtbcpdjhpceimlaaFew3
import Derived.Test.YtbcpdjhpceimlaaPAlive
namespace Go.Proofs.Ytbcpdjhpceimlaa
open Go.ChangeShapes Go.WideShapes Go.ChangeAt Go.RowKit
set_option linter.unusedVariables false

/-- They are told to be the same. -/
def SameAns (w : World) (e : Ending) (w' : World) : Prop := e = .returned (.bool true) ∧ Below w.heap.size w w'

theorem rows_open {A : Nat → Prop} {w : World} {s : List Fld} {x : V} {u : Value} (h : Rep A w (.e s) x u) : ∃ (rows : List (List V)) (f : Nat → Nat → Value) (a : Option Addr) (c : Nat), x = .e rows ∧ u = .slice a rows.length c ∧ rows.length ≤ 9223372036854775807 ∧ (∀ r, r ∈ rows → r.length = s.length) ∧
      (0 < rows.length → ∃ g o, a = some ⟨g, o, none⟩ ∧ A g ∧ g < w.heap.size ∧ ∀ i j, i < rows.length → j < s.length → w.cell? ⟨g, o + (i * s.length + j), none⟩ = some (f i j)) ∧
      ∀ (i j : Nat) (r : List V) (q : Fld) (v : V), rows[i]? = some r → s[j]? = some q → r[j]? = some v → Rep A w q v (f i j) := by
  obtain ⟨a, n, c, rfl⟩ := rep_e h
  obtain ⟨rows, f, rfl, hl, hc, hm, hs, -, hx, hr⟩ := vals_open h
  subst hl
  unfold maxLen at hm
  exact ⟨rows, f, a, c, rfl, rfl, by omega, hs, hx, hr⟩

/-- The k-th row of a slice of structs: where its cells lie, and what they read as. -/
theorem row_open {A : Nat → Prop} {w wr : World} {s : List Fld} {rows : List (List V)} {f : Nat → Nat → Value} {a : Option Addr} {m k : Nat} (hm : s.length = m) (hs : ∀ r, r ∈ rows → r.length = s.length)
    (hx : 0 < rows.length → ∃ g o, a = some ⟨g, o, none⟩ ∧ A g ∧ g < w.heap.size ∧ ∀ i j, i < rows.length → j < s.length → w.cell? ⟨g, o + (i * s.length + j), none⟩ = some (f i j))
    (hr : ∀ (i j : Nat) (r : List V) (q : Fld) (v : V), rows[i]? = some r → s[j]? = some q → r[j]? = some v → Rep A w q v (f i j)) (hk : k < rows.length) (hb : Below w.heap.size w wr) :
    ∃ g o ce, a = some ⟨g, o, none⟩ ∧ A g ∧ g < w.heap.size ∧ RowRep A w s (rows[k]) ce ∧ wr.rangeAt g (o + k * m) ce ∧ ce.length = m := by
  obtain ⟨g, o, h1, h2, h3, h4⟩ := hx (by omega)
  have hrk : rows[k]? = some rows[k] := List.getElem?_eq_getElem hk
  obtain ⟨ce, c1, c2, c3, -⟩ := row_range (w := w) (wr := wr) (A := A) (g := g) (o := o + k * m) hm (hs _ (List.getElem_mem hk)) (fun j q x e1 e2 => hr k j _ q x hrk e1 e2) (fun j hj => by
    have h := h4 k j hk (by rw [hm]; exact hj)
    rw [hm, ← Nat.add_assoc] at h
    rw [hb.cell h3]; exact h)
  exact ⟨g, o, ce, h1, h2, h3, c1, c2, c3⟩

set_option maxRecDepth 100000 in
set_option maxHeartbeats 1000000 in
theorem sameInts_any {A A' : Nat → Prop} (x : V) (u1 u2 : Value) (w : World) (h1 : Rep A w .l x u1) (h2 : Rep A' w .l x u2) : Calls Try.prog 72 #[u1, u2] w (SameAns w) := by
  obtain ⟨l, a, n, c, rfl, rfl, hl, hc, hm, -, -, -, hx⟩ := rep_l h1
  obtain ⟨l2, a2, n2, c2, he, rfl, hl2, -, -, -, -, -, hx2⟩ := rep_l h2
  cases he
  obtain rfl : n2 = n := by omega
  have H := Lib.hid hx
  have H2 := Lib.hid hx2
  have HL := Lib.hid hl
  unfold maxLen at hm
  have hn : n2 ≤ 9223372036854775807 := by omega
  clear h1 h2 hl hl2 hc hm hx hx2
  go_enter Try.func72, Try.ntmps72
  go_wp2_with fail
  go_loopw [5] (fun i wr => ∃ k : Nat, i = .int .i64 k ∧ k ≤ n2 ∧ ∃ j, wr = w.drewN j) (fun i _ => n2 - (intOf i).toNat)
  case atStart => exact ⟨0, rfl, Nat.zero_le _, 0, rfl⟩
  case round =>
    obtain ⟨k, rfl, hk, j, rfl⟩ := hrel
    by_cases hlt : k < n2
    · obtain ⟨b1, o1, rfl, g1⟩ := H.out.pos (by rw [ic_length, HL.out]; omega)
      obtain ⟨b2, o2, rfl, g2⟩ := H2.out.pos (by rw [ic_length, HL.out]; omega)
      have e1 := g1 k _ (ic_getD (by rw [HL.out]; omega))
      have e2 := g2 k _ (ic_getD (by rw [HL.out]; omega))
      generalize l.getD k 0 = x at e1 e2
      clear g1 g2
      go_wp2_with fail
      refine wp_region_plan [(0, none), (1, none), (2, none), (3, some none), (4, none), (5, none), (6, none), (7, some none), (8, none)] (by kernel_rfl) (by kernel_rfl) ?_
      repeat (first | (refine plan_free (v := ?_) rfl rfl (fun _ => ?_) (fun K hK => ?_); rotate_left 1; (focus (go_simp <;> exact rfl)); go_simp; refine hK _ _ ?_; clear hK K) | (refine plan_held (v := ?_) rfl rfl ?_ (fun K hK => ?_); rotate_left 1; (focus (go_simp <;> exact rfl)); go_simp; refine hK _ _ ?_; clear hK K) | (refine plan_skip rfl rfl (fun K hK => ?_); go_simp; refine hK _ _ ?_; clear hK K))
      refine plan_nil ?_
      go_wp2_with fail
      go_roundw
      case rel => exact ⟨k + 1, by go_num, by omega, j + 1, rfl⟩
      case measure => simp [intOf]; omega
    · go_wp2_with fail
      go_ret
      exact ⟨rfl, below_drewN (Below.refl _ _) j⟩

theorem flat45 : flat Try.prog 4 45 = some (modS) := by kernel_rfl
theorem key45 : Try.prog.keyTypeAt 4 45 = true := by kernel_rfl
theorem form45 : (match Try.prog.underlying 45 with | some (.struct _) | some (.array _ _) => (modS : List Fld).length == Try.prog.cellsOf 45 | _ => false) = true := by kernel_rfl
theorem guard45 : Try.prog.eqGuardType Try.prog.depth 45 = false := by kernel_rfl

set_option maxRecDepth 100000 in
set_option maxHeartbeats 1000000 in
theorem sameMods26_any {A A' : Nat → Prop} (x : V) (u1 u2 : Value) (w : World) (h1 : Rep A w (.e modS) x u1) (h2 : Rep A' w (.e modS) x u2) : Calls Try.prog 113 #[u1, u2] w (SameAns w) := by
  obtain ⟨rows, f, a, c, rfl, rfl, hn, hs, hx, hr⟩ := rows_open h1
  obtain ⟨rows2, f2, a2, c2, he, rfl, -, hs2, hx2, hr2⟩ := rows_open h2
  cases he
  have HS := Lib.hid hs
  have HX := Lib.hid hx
  have HR := Lib.hid hr
  have HX2 := Lib.hid hx2
  have HR2 := Lib.hid hr2
  obtain ⟨n, hnl⟩ : ∃ n, rows.length = n := ⟨_, rfl⟩
  have HL := Lib.hid hnl
  rw [hnl] at hn
  rw [hnl]
  clear h1 h2 hs hx hr hs2 hx2 hr2 hnl
  go_enter Try.func113, Try.ntmps113
  go_wp2_with fail
  go_loopw [5] (fun i wr => ∃ k : Nat, i = .int .i64 k ∧ k ≤ n ∧ ∃ j, wr = w.drewN j) (fun i _ => n - (intOf i).toNat)
  case atStart => exact ⟨0, rfl, Nat.zero_le _, 0, rfl⟩
  case round =>
    obtain ⟨k, rfl, hk, j, rfl⟩ := hrel
    by_cases hlt : k < n
    · obtain ⟨g1, o1, ce, rfl, -, -, hrow, hrg, hcl⟩ := row_open len_modS HS.out HX.out HR.out (k := k) (by rw [HL.out]; exact hlt) (below_drewN (Below.refl _ w) j)
      obtain ⟨g2, o2, ce2, rfl, -, -, hrow2, hrg2, -⟩ := row_open len_modS HS.out HX2.out HR2.out (k := k) (by rw [HL.out]; exact hlt) (below_drewN (Below.refl _ w) j)
      obtain rfl := rows_same hrow hrow2 (by decide)
      have HRG := Lib.hid hrg
      have HRG2 := Lib.hid hrg2
      have HI := Lib.hid (show (Try.prog.info? 45).map (·.size) = some ce.length by rw [hcl]; exact size45)
      have HEQ := Lib.hid (equal_self 4 flat45 (by decide) key45 (by omega) form45 hrow)
      clear hrow hrow2 hrg hrg2 hcl
      go_wp2_with fail
      refine wp_region_plan [(0, none), (1, none), (2, none), (3, some none), (4, none), (5, none), (6, none), (7, some none), (8, none)] (by kernel_rfl) (by kernel_rfl) ?_
      refine plan_free (v := ?_) rfl rfl (fun _ => ?_) (fun K hK => ?_); rotate_left 1; (focus (go_simp <;> exact rfl)); go_simp; refine hK _ _ ?_; clear hK K
      refine plan_free (v := ?_) rfl rfl (fun _ => ?_) (fun K hK => ?_); rotate_left 1; (focus (go_simp <;> exact rfl)); go_simp; refine hK _ _ ?_; clear hK K
      refine plan_free (v := ?_) rfl rfl (fun _ => ?_) (fun K hK => ?_); rotate_left 1; (focus (go_simp <;> exact rfl)); go_simp; refine hK _ _ ?_; clear hK K
      refine plan_held (v := .agg ce.toArray) rfl rfl (exec_load_mid 45 (.tmp 19) rfl g1 (o1 + k * 20) rfl ce _ HRG.out Try.underlying45 rfl HI.out) (fun K hK => ?_)
      refine hK _ _ ?_
      clear hK K
      refine plan_free (v := ?_) rfl rfl (fun _ => ?_) (fun K hK => ?_); rotate_left 1; (focus (go_simp <;> exact rfl)); go_simp; refine hK _ _ ?_; clear hK K
      refine plan_free (v := ?_) rfl rfl (fun _ => ?_) (fun K hK => ?_); rotate_left 1; (focus (go_simp <;> exact rfl)); go_simp; refine hK _ _ ?_; clear hK K
      refine plan_free (v := ?_) rfl rfl (fun _ => ?_) (fun K hK => ?_); rotate_left 1; (focus (go_simp <;> exact rfl)); go_simp; refine hK _ _ ?_; clear hK K
      refine plan_held (v := .agg ce.toArray) rfl rfl (exec_load_mid 45 (.tmp 23) rfl g2 (o2 + k * 20) rfl ce _ HRG2.out Try.underlying45 rfl HI.out) (fun K hK => ?_)
      refine hK _ _ ?_
      clear hK K
      refine plan_free (v := .bool false) rfl rfl (fun w' => exec_neq_self 45 45 (.tmp 20) (.tmp 24) rfl ce.toArray rfl rfl guard45 (HEQ.out w')) (fun K hK => ?_)
      refine hK _ _ ?_
      clear hK K
      refine plan_nil ?_
      go_wp2_with fail
      go_roundw
      case rel => exact ⟨k + 1, by go_num, by omega, j + 1, rfl⟩
      case measure => simp [intOf]; omega
    · go_wp2_with fail
      go_ret
      exact ⟨rfl, below_drewN (Below.refl _ _) j⟩

set_option maxRecDepth 100000 in
set_option maxHeartbeats 1000000 in
theorem sameMods17_any {A A' : Nat → Prop} (x : V) (u1 u2 : Value) (w : World) (h1 : Rep A w (.e modS) x u1) (h2 : Rep A' w (.e modS) x u2) : Calls Try.prog 122 #[u1, u2] w (SameAns w) := by
  obtain ⟨rows, f, a, c, rfl, rfl, hn, hs, hx, hr⟩ := rows_open h1
  obtain ⟨rows2, f2, a2, c2, he, rfl, -, hs2, hx2, hr2⟩ := rows_open h2
  cases he
  have HS := Lib.hid hs
  have HX := Lib.hid hx
  have HR := Lib.hid hr
  have HX2 := Lib.hid hx2
  have HR2 := Lib.hid hr2
  obtain ⟨n, hnl⟩ : ∃ n, rows.length = n := ⟨_, rfl⟩
  have HL := Lib.hid hnl
  rw [hnl] at hn
  rw [hnl]
  clear h1 h2 hs hx hr hs2 hx2 hr2 hnl
  go_enter Try.func122, Try.ntmps122
  go_wp2_with fail
  go_loopw [5] (fun i wr => ∃ k : Nat, i = .int .i64 k ∧ k ≤ n ∧ ∃ j, wr = w.drewN j) (fun i _ => n - (intOf i).toNat)
  case atStart => exact ⟨0, rfl, Nat.zero_le _, 0, rfl⟩
  case round =>
    obtain ⟨k, rfl, hk, j, rfl⟩ := hrel
    by_cases hlt : k < n
    · obtain ⟨g1, o1, ce, rfl, -, -, hrow, hrg, hcl⟩ := row_open len_modS HS.out HX.out HR.out (k := k) (by rw [HL.out]; exact hlt) (below_drewN (Below.refl _ w) j)
      obtain ⟨g2, o2, ce2, rfl, -, -, hrow2, hrg2, -⟩ := row_open len_modS HS.out HX2.out HR2.out (k := k) (by rw [HL.out]; exact hlt) (below_drewN (Below.refl _ w) j)
      obtain rfl := rows_same hrow hrow2 (by decide)
      have HRG := Lib.hid hrg
      have HRG2 := Lib.hid hrg2
      have HI := Lib.hid (show (Try.prog.info? 45).map (·.size) = some ce.length by rw [hcl]; exact size45)
      have HEQ := Lib.hid (equal_self 4 flat45 (by decide) key45 (by omega) form45 hrow)
      clear hrow hrow2 hrg hrg2 hcl
      go_wp2_with fail
      refine wp_region_plan [(0, none), (1, none), (2, none), (3, some none), (4, none), (5, none), (6, none), (7, some none), (8, none)] (by kernel_rfl) (by kernel_rfl) ?_
      refine plan_free (v := ?_) rfl rfl (fun _ => ?_) (fun K hK => ?_); rotate_left 1; (focus (go_simp <;> exact rfl)); go_simp; refine hK _ _ ?_; clear hK K
      refine plan_free (v := ?_) rfl rfl (fun _ => ?_) (fun K hK => ?_); rotate_left 1; (focus (go_simp <;> exact rfl)); go_simp; refine hK _ _ ?_; clear hK K
      refine plan_free (v := ?_) rfl rfl (fun _ => ?_) (fun K hK => ?_); rotate_left 1; (focus (go_simp <;> exact rfl)); go_simp; refine hK _ _ ?_; clear hK K
      refine plan_held (v := .agg ce.toArray) rfl rfl (exec_load_mid 45 (.tmp 19) rfl g1 (o1 + k * 20) rfl ce _ HRG.out Try.underlying45 rfl HI.out) (fun K hK => ?_)
      refine hK _ _ ?_
      clear hK K
      refine plan_free (v := ?_) rfl rfl (fun _ => ?_) (fun K hK => ?_); rotate_left 1; (focus (go_simp <;> exact rfl)); go_simp; refine hK _ _ ?_; clear hK K
      refine plan_free (v := ?_) rfl rfl (fun _ => ?_) (fun K hK => ?_); rotate_left 1; (focus (go_simp <;> exact rfl)); go_simp; refine hK _ _ ?_; clear hK K
      refine plan_free (v := ?_) rfl rfl (fun _ => ?_) (fun K hK => ?_); rotate_left 1; (focus (go_simp <;> exact rfl)); go_simp; refine hK _ _ ?_; clear hK K
      refine plan_held (v := .agg ce.toArray) rfl rfl (exec_load_mid 45 (.tmp 23) rfl g2 (o2 + k * 20) rfl ce _ HRG2.out Try.underlying45 rfl HI.out) (fun K hK => ?_)
      refine hK _ _ ?_
      clear hK K
      refine plan_free (v := .bool false) rfl rfl (fun w' => exec_neq_self 45 45 (.tmp 20) (.tmp 24) rfl ce.toArray rfl rfl guard45 (HEQ.out w')) (fun K hK => ?_)
      refine hK _ _ ?_
      clear hK K
      refine plan_nil ?_
      go_wp2_with fail
      go_roundw
      case rel => exact ⟨k + 1, by go_num, by omega, j + 1, rfl⟩
      case measure => simp [intOf]; omega
    · go_wp2_with fail
      go_ret
      exact ⟨rfl, below_drewN (Below.refl _ _) j⟩
end Go.Proofs.Ytbcpdjhpceimlaa
