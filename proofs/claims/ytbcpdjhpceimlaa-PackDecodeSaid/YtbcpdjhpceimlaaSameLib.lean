/-
  Comparing structs: cells that read as the same simple fields are the same; a struct of such cells is equal to itself.
-/
import Derived.Test.YtbcpdjhpceimlaaSch
import Derived.Laws.StructEq
import Derived.DeepKeys
import Derived.Deep.MidRow
namespace Go.Proofs.Ytbcpdjhpceimlaa
open Go.ChangeShapes Go.WideShapes Go.ChangeAt Go.RowKit
set_option linter.unusedVariables false

/-- A field that is read without memory. -/
def flatF : Fld → Bool
  | .i => true
  | .b => true
  | .t => true
  | .u => true
  | _ => false

theorem rep_same {A A' : Nat → Prop} {w w' : World} {q : Fld} {x : V} {u1 u2 : Value} (h1 : Rep A w q x u1) (h2 : Rep A' w' q x u2) (hq : flatF q = true) : u1 = u2 := by
  cases q with
  | i => obtain ⟨n, rfl, rfl, -⟩ := rep_i h1; obtain ⟨m, h, rfl, -⟩ := rep_i h2; cases h; rfl
  | b => obtain ⟨n, rfl, rfl⟩ := rep_b h1; obtain ⟨m, h, rfl⟩ := rep_b h2; cases h; rfl
  | t =>
    obtain ⟨n, rfl, rfl, -⟩ := rep_t h1
    obtain ⟨m, h, rfl, -⟩ := rep_t h2
    injection h with h
    have : n = m := by
      obtain ⟨n⟩ := n; obtain ⟨m⟩ := m
      obtain ⟨n⟩ := n; obtain ⟨m⟩ := m
      simp at h
      subst h
      rfl
    subst this
    rfl
  | u => obtain ⟨n, rfl, rfl, -⟩ := rep_u h1; obtain ⟨m, h, rfl, -⟩ := rep_u h2; cases h; rfl
  | l => cases hq
  | e s => cases hq

theorem rows_same {A A' : Nat → Prop} {w w' : World} {s : List Fld} {v : List V} {c1 c2 : List Value} (h1 : RowRep A w s v c1) (h2 : RowRep A' w' s v c2) (hs : s.all flatF = true) : c1 = c2 := by
  refine List.ext_getElem (by rw [h1.2.1, h2.2.1]) (fun j hj hj2 => ?_)
  have hjs : j < s.length := by rw [← h1.2.1]; exact hj
  have hq := List.getElem?_eq_getElem hjs
  have hx : v[j]? = some (v[j]'(by rw [h1.1]; exact hjs)) := List.getElem?_eq_getElem _
  exact rep_same (h1.2.2 j _ _ _ hq hx (List.getElem?_eq_getElem hj)) (h2.2.2 j _ _ _ hq hx (List.getElem?_eq_getElem hj2)) (List.all_eq_true.1 hs _ (List.getElem_mem hjs))

theorem get_sub {α : Type} (l : List α) (o m j : Nat) (hj : j < m) : ((l.drop o).take m)[j]? = l[o + j]? := by
  rw [List.getElem?_take, if_pos hj, List.getElem?_drop]

theorem RowRep.sub {A : Nat → Prop} {w : World} {s t : List Fld} {v : List V} {cs : List Value} {o m : Nat} (h : RowRep A w s v cs) (hs : (s.drop o).take m = t) (ht : t.length = m) : RowRep A w t ((v.drop o).take m) ((cs.drop o).take m) := by
  have hl : ((s.drop o).take m).length = m := by rw [hs, ht]
  have hl2 : m ≤ s.length - o := by simp only [List.length_take, List.length_drop] at hl; omega
  have h1 := h.1
  have h2 := h.2.1
  refine ⟨by simp only [List.length_take, List.length_drop]; omega, by simp only [List.length_take, List.length_drop]; omega, fun j q x u e1 e2 e3 => ?_⟩
  have hj : j < m := by rw [← ht]; exact (List.getElem?_eq_some_iff.1 e1).1
  rw [← hs, get_sub s o m j hj] at e1
  rw [get_sub v o m j hj] at e2
  rw [get_sub cs o m j hj] at e3
  exact h.2.2 (o + j) q x u e1 e2 e3

theorem mapM_some {α β : Type} {f : α → Option β} : ∀ (l : List α), (∀ x ∈ l, ∃ y, f x = some y) → ∃ ys, l.mapM f = some ys
  | [], _ => ⟨[], rfl⟩
  | x :: l, h => by
    obtain ⟨y, hy⟩ := h x (by simp)
    obtain ⟨ys, hys⟩ := mapM_some l (fun z hz => h z (by simp [hz]))
    exact ⟨y :: ys, by simp [List.mapM_cons, hy, hys]⟩

theorem take_all {α : Type} {l : List α} {n : Nat} (h : l.length = n) : l.take n = l := List.take_of_length_le (by omega)

theorem rep_getD {α : Type} (s : List α) : ∀ (n i : Nat), i < n → ((rep s n).drop (i * s.length)).take s.length = s
  | n + 1, 0, _ => by simp [rep]
  | n + 1, i + 1, h => by
    have := rep_getD s n i (by omega)
    rw [rep, Nat.succ_mul, Nat.add_comm (i * s.length), ← List.drop_drop, List.drop_left]
    exact this

section
variable {P : Program}

theorem flatFs_get {F : TypeId → Option (List Fld)} : ∀ (fs : List Field) (off : Nat) (s : List Fld), flatFs P F fs off = some s → ∀ d ∈ fs, ∃ t, off ≤ d.offset ∧ F d.type = some t ∧ P.cellsOf d.type = t.length ∧ (s.drop (d.offset - off)).take t.length = t
  | [], off, s, _, d, hd => by simp at hd
  | e :: fs, off, s, h, d, hd => by
    unfold flatFs at h
    split at h
    · rename_i hoff
      cases hs : F e.type with
      | none => simp [hs] at h
      | some s1 =>
        simp only [hs, Option.bind_some] at h
        split at h
        · rename_i hc
          cases hr : flatFs P F fs (off + s1.length) with
          | none => simp [hr] at h
          | some s2 =>
            simp only [hr, Option.map_some, Option.some.injEq] at h
            subst h
            rcases List.mem_cons.1 hd with rfl | hd
            · exact ⟨s1, by omega, hs, hc, by rw [hoff, Nat.sub_self, List.drop_zero, List.take_left]⟩
            · obtain ⟨t, h1, h2, h3, h4⟩ := flatFs_get fs _ s2 hr d hd
              refine ⟨t, by omega, h2, h3, ?_⟩
              rw [show d.offset - off = s1.length + (d.offset - (off + s1.length)) by omega, ← List.drop_drop, List.drop_left]
              exact h4
        · cases h
    · cases h

/-- The literals of a struct of simple fields. -/
theorem flat_lits {A : Nat → Prop} {w : World} : ∀ (f : Nat) (t : TypeId) (s : List Fld), flat P f t = some s → s.all flatF = true → P.keyTypeAt f t = true → ∀ (v : List V) (cs : List Value), RowRep A w s v cs → ∃ L, P.keyLits f t cs = some L
  | 0, t, s, h, _, _, _, _, _ => by simp [flat] at h
  | f + 1, t, s, h, hs, hk, v, cs, hr => by
    have one : ∀ {q : Fld}, s = [q] → ∃ x u, v = [x] ∧ cs = [u] ∧ Rep A w q x u := by
      rintro q rfl
      match v, hr.1, cs, hr.2.1 with
      | [x], _, [u], _ => exact ⟨x, u, rfl, rfl, hr.2.2 0 q x u rfl rfl rfl⟩
    unfold flat at h
    unfold Program.keyTypeAt at hk
    unfold Program.keyLits
    split at h
    · rename_i ht
      cases h
      obtain ⟨x, u, rfl, rfl, hrep⟩ := one rfl
      obtain ⟨n, rfl, rfl, hn⟩ := rep_i hrep
      have hw : (Lit.int .i64 n).wf = true := by unfold In64 at hn; simp [Lit.wf, show IntKind.i64.min = -9223372036854775808 from rfl, show IntKind.i64.max = 9223372036854775807 from rfl]; omega
      simp [ht, hw]
    · rename_i ht
      cases h
      obtain ⟨x, u, rfl, rfl, hrep⟩ := one rfl
      obtain ⟨n, rfl, rfl, hn⟩ := rep_u hrep
      have hw : (Lit.int .u64 (n : Int)).wf = true := by simp [Lit.wf, show IntKind.u64.min = 0 from rfl, show IntKind.u64.max = 18446744073709551615 from rfl]; omega
      simp [ht, hw]
    · rename_i ht
      cases h
      obtain ⟨x, u, rfl, rfl, hrep⟩ := one rfl
      obtain ⟨b, rfl, rfl⟩ := rep_b hrep
      simp [ht]
    · rename_i ht
      cases h
      obtain ⟨x, u, rfl, rfl, hrep⟩ := one rfl
      obtain ⟨b, rfl, rfl, hb⟩ := rep_t hrep
      simp [ht, hb]
    · rename_i e ht
      simp [ht] at hk
    · rename_i fs ht
      simp only [ht, Bool.and_eq_true] at hk
      cases hf : flatFs P (flat P f) fs.toList 0 with
      | none => simp [hf] at h
      | some s1 =>
        simp only [hf, Option.bind_some] at h
        split at h
        · rename_i hc
          cases h
          simp only [ht]
          have hall : ∀ d ∈ fs.toList, d.name ≠ "_" ∧ P.keyTypeAt f d.type = true := fun d hd => by
            have := Array.all_eq_true_iff_forall_mem.1 hk.1.1 d (Array.mem_toList_iff.1 hd)
            simpa [Bool.and_eq_true, bne_iff_ne, ne_eq] using this
          rw [if_pos ⟨by rw [hr.2.1, hc], by rw [Array.all_eq_true_iff_forall_mem]; intro d hd; simpa [bne_iff_ne, ne_eq] using (hall d (Array.mem_toList_iff.2 hd)).1⟩]
          obtain ⟨ys, hys⟩ := mapM_some (f := fun d : Field => P.keyLits f d.type ((cs.drop d.offset).take (P.cellsOf d.type))) fs.toList (fun d hd => by
            obtain ⟨t1, -, h2, h3, h4⟩ := flatFs_get fs.toList 0 s hf d hd
            rw [Nat.sub_zero] at h4
            rw [h3]
            refine flat_lits f d.type t1 h2 ?_ (hall d hd).2 _ _ (hr.sub h4 rfl)
            rw [List.all_eq_true]
            intro q hq
            rw [← h4] at hq
            exact List.all_eq_true.1 hs q (List.mem_of_mem_drop (List.mem_of_mem_take hq)))
          exact ⟨_, by rw [hys]; rfl⟩
        · cases h
    · rename_i n e ht
      simp only [ht] at hk
      cases hf : flat P f e with
      | none => simp [hf] at h
      | some s1 =>
        simp only [hf, Option.bind_some] at h
        split at h
        · rename_i hc
          cases h
          simp only [ht]
          rw [if_pos (by rw [hr.2.1, rep_length, hc.2])]
          obtain ⟨ys, hys⟩ := mapM_some (f := fun i : Nat => P.keyLits f e ((cs.drop (i * P.cellsOf e)).take (P.cellsOf e))) (List.range n) (fun i hi => by
            have hin : i < n := List.mem_range.1 hi
            have h4 := rep_getD s1 n i hin
            rw [hc.1]
            refine flat_lits f e s1 hf ?_ hk _ _ (hr.sub h4 rfl)
            rw [List.all_eq_true]
            intro q hq
            rw [← h4] at hq
            exact List.all_eq_true.1 hs q (List.mem_of_mem_drop (List.mem_of_mem_take hq)))
          exact ⟨_, by rw [hys]; rfl⟩
        · cases h
    · cases h

/-- A struct or array of simple fields is equal to itself. -/
theorem equal_self {A : Nat → Prop} {w0 : World} (f : Nat) {t : TypeId} {s : List Fld} {v : List V} {cs : List Value} (hfl : flat P f t = some s) (hs : s.all flatF = true) (hk : P.keyTypeAt f t = true) (hf : f ≤ 10000)
    (hform : (match P.underlying t with | some (.struct _) | some (.array _ _) => s.length == P.cellsOf t | _ => false) = true) (hr : RowRep A w0 s v cs) (w : World) : (Op.equalIn 10000 t (.agg cs.toArray) (.agg cs.toArray)).run P w = .ok true w := by
  obtain ⟨L, hL⟩ := flat_lits (A := A) (w := w0) f t s hfl hs hk v cs hr
  have hfo : (Value.agg cs.toArray).formed P t = true := by
    unfold Value.formed
    simp only [List.size_toArray, hr.2.1]
    exact hform
  obtain ⟨r, h1, h2⟩ := run_equalIn_deep (P := P) (10000 - f) f t hk w f f (.agg cs.toArray) (.agg cs.toArray) L L hfo hfo (by simpa [Value.cells] using hL) (by simpa [Value.cells] using hL)
  rw [show 10000 - f + f = 10000 by omega] at h1
  rw [h1, h2.2 rfl]

/-! ### the operations -/
theorem wpList_wanted {ops : Array Oper} {rest : List Oper} {o : Oper} {a : Act} {w : World} {Q : Exit → Act → World → Prop} (hg : Region.wanted o (yielded ops a.tmps) = true)
    (h : ∀ K : Act → World → Prop, (∀ a w, wpList P ops Q rest a w → K a w) → o.wp P a w K Q) : wpList P ops Q (o :: rest) a w :=
  wpList_step fun K hK => by simp only [hg, if_true]; exact h K hK

theorem exec_eql_self {o : Oper} {a : Act} {w : World} (t rt : TypeId) (x y : Operand) (ho : o.op = .binOp .eql t x y rt) (cs : Array Value) (hx : a.eval x = .agg cs) (hy : a.eval y = .agg cs)
    (hm : P.eqGuardType P.depth t = false) (heq : (Op.equalIn 10000 t (.agg cs) (.agg cs)).run P w = .ok true w) : (execOp a.eval o).run P w = .ok (.value (.bool true)) w := by
  unfold execOp
  simp only [ho, hx, hy, Sem.run_bind, run_eqGuard_agg w .eql t x y cs cs hm, Result.andThen_ok, run_eql_struct, heq, Sem.run_pure]
theorem exec_neq_self {o : Oper} {a : Act} {w : World} (t rt : TypeId) (x y : Operand) (ho : o.op = .binOp .neq t x y rt) (cs : Array Value) (hx : a.eval x = .agg cs) (hy : a.eval y = .agg cs)
    (hm : P.eqGuardType P.depth t = false) (heq : (Op.equalIn 10000 t (.agg cs) (.agg cs)).run P w = .ok true w) : (execOp a.eval o).run P w = .ok (.value (.bool false)) w := by
  unfold execOp
  simp only [ho, hx, hy, Sem.run_bind, run_eqGuard_agg w .neq t x y cs cs hm, Result.andThen_ok, run_neq_struct, heq, Sem.run_pure, Bool.not_true]
theorem exec_load_mid {o : Oper} {a : Act} {w : World} (ty : TypeId) (x : Operand) (ho : o.op = .load ty x) (b off : Nat) (hx : a.eval x = .pointer (some ⟨b, off, none⟩)) (cs : List Value) (d : TypeDesc) (hc : w.rangeAt b off cs)
    (hu : P.underlying ty = some d) (hd : d.isRow = true) (hi : (P.info? ty).map (·.size) = some cs.length) : (execOp a.eval o).run P w = .ok (.value (.agg cs.toArray)) w := by
  unfold execOp
  simp only [ho, hx, Sem.run_bind, run_loadAt_mid w b off ty cs d hc hu hd hi, Result.andThen_ok, Sem.run_pure]

theorem wpList_eql_self {ops : Array Oper} {rest : List Oper} {o : Oper} {a : Act} {w : World} {Q : Exit → Act → World → Prop} (hg : Region.wanted o (yielded ops a.tmps) = true) (t rt : TypeId) (x y : Operand) (ho : o.op = .binOp .eql t x y rt) (cs : Array Value) (hx : a.eval x = .agg cs) (hy : a.eval y = .agg cs)
    (hm : P.eqGuardType P.depth t = false) (heq : (Op.equalIn 10000 t (.agg cs) (.agg cs)).run P w = .ok true w) (h : wpList P ops Q rest (a.put o.dst (.bool true)) w) : wpList P ops Q (o :: rest) a w :=
  wpList_wanted hg fun K hK => by
    unfold Oper.wp
    simp only [exec_eql_self t rt x y ho cs hx hy hm heq]
    exact hK _ _ h
theorem wpList_neq_self {ops : Array Oper} {rest : List Oper} {o : Oper} {a : Act} {w : World} {Q : Exit → Act → World → Prop} (hg : Region.wanted o (yielded ops a.tmps) = true) (t rt : TypeId) (x y : Operand) (ho : o.op = .binOp .neq t x y rt) (cs : Array Value) (hx : a.eval x = .agg cs) (hy : a.eval y = .agg cs)
    (hm : P.eqGuardType P.depth t = false) (heq : (Op.equalIn 10000 t (.agg cs) (.agg cs)).run P w = .ok true w) (h : wpList P ops Q rest (a.put o.dst (.bool false)) w) : wpList P ops Q (o :: rest) a w :=
  wpList_wanted hg fun K hK => by
    unfold Oper.wp
    simp only [exec_neq_self t rt x y ho cs hx hy hm heq]
    exact hK _ _ h
end
end Go.Proofs.Ytbcpdjhpceimlaa
