/-
  Comparisons of layers 17, 20, 26 of the reference: structs. What reads as the same value is the same.
-/
import Derived.Test.YtbcpdjhpceimlaaSameA
import Derived.Test.YtbcpdjhpceimlaaState
namespace Go.Proofs.Ytbcpdjhpceimlaa
open Go.ChangeShapes Go.WideShapes Go.ChangeAt Go.RowKit
set_option linter.unusedVariables false

section
variable {A A' : Nat → Prop} {w w' : World} {s t : List Fld} {v : List V} {c1 c2 : Array Value} {j o m : Nat} {q : Fld}
theorem two_x (h1 : RowRep A w s v c1.toList) (h2 : RowRep A' w' s v c2.toList) (hj : s[j]? = some q) : ∃ x u1 u2, c1[j]? = some u1 ∧ c2[j]? = some u2 ∧ Rep A w q x u1 ∧ Rep A' w' q x u2 := by
  have hjs : j < s.length := (List.getElem?_eq_some_iff.1 hj).1
  have hx : v[j]? = some (v[j]'(by rw [h1.1]; exact hjs)) := List.getElem?_eq_getElem _
  have e1 : c1.toList[j]? = some (c1.toList[j]'(by rw [h1.2.1]; exact hjs)) := List.getElem?_eq_getElem _
  have e2 : c2.toList[j]? = some (c2.toList[j]'(by rw [h2.2.1]; exact hjs)) := List.getElem?_eq_getElem _
  exact ⟨_, _, _, by rw [← Array.getElem?_toList]; exact e1, by rw [← Array.getElem?_toList]; exact e2, h1.2.2 j q _ _ hj hx e1, h2.2.2 j q _ _ hj hx e2⟩
theorem two_i (h1 : RowRep A w s v c1.toList) (h2 : RowRep A' w' s v c2.toList) (hj : s[j]? = some .i) : ∃ n, c1[j]? = some (.int .i64 n) ∧ c2[j]? = some (.int .i64 n) := by
  obtain ⟨x, u1, u2, e1, e2, r1, r2⟩ := two_x h1 h2 hj
  obtain ⟨n, rfl, rfl, -⟩ := rep_i r1
  obtain ⟨n2, h, rfl, -⟩ := rep_i r2
  cases h
  exact ⟨n, e1, e2⟩
theorem two_b (h1 : RowRep A w s v c1.toList) (h2 : RowRep A' w' s v c2.toList) (hj : s[j]? = some .b) : ∃ n, c1[j]? = some (.bool n) ∧ c2[j]? = some (.bool n) := by
  obtain ⟨x, u1, u2, e1, e2, r1, r2⟩ := two_x h1 h2 hj
  obtain ⟨n, rfl, rfl⟩ := rep_b r1
  obtain ⟨n2, h, rfl⟩ := rep_b r2
  cases h
  exact ⟨n, e1, e2⟩
theorem two_u (h1 : RowRep A w s v c1.toList) (h2 : RowRep A' w' s v c2.toList) (hj : s[j]? = some .u) : ∃ n : Int, c1[j]? = some (.int .u64 n) ∧ c2[j]? = some (.int .u64 n) := by
  obtain ⟨x, u1, u2, e1, e2, r1, r2⟩ := two_x h1 h2 hj
  obtain ⟨n, rfl, rfl, -⟩ := rep_u r1
  obtain ⟨n2, h, rfl, -⟩ := rep_u r2
  cases h
  exact ⟨n, e1, e2⟩
theorem two_t (h1 : RowRep A w s v c1.toList) (h2 : RowRep A' w' s v c2.toList) (hj : s[j]? = some .t) : ∃ n, c1[j]? = some (.string n) ∧ c2[j]? = some (.string n) := by
  obtain ⟨x, u1, u2, e1, e2, r1, r2⟩ := two_x h1 h2 hj
  have := rep_same r1 r2 rfl
  subst this
  obtain ⟨n, rfl, rfl, -⟩ := rep_t r1
  exact ⟨n, e1, e2⟩
theorem two_sub (h1 : RowRep A w s v c1.toList) (h2 : RowRep A' w' s v c2.toList) (hs : (s.drop o).take m = t) (ht : t.length = m) (hf : t.all flatF = true) :
    ∃ ce : List Value, ce.length = m ∧ (c1.toList.drop o).take m = ce ∧ (c2.toList.drop o).take m = ce ∧ RowRep A w t ((v.drop o).take m) ce := by
  have r1 := h1.sub hs ht
  have r2 := h2.sub hs ht
  exact ⟨_, by rw [r1.2.1, ht], rfl, (rows_same r1 r2 hf).symm, r1⟩
theorem range_sub {g : Nat} {T : TypeId} {cs : Array Value} {ce : List Value} (h : w.heap[g]? = some (.cells cs T (0, 0))) (hc : (cs.toList.drop o).take m = ce) : w.rangeAt g o ce := by
  subst hc
  intro j u hj
  have hjm : j < m := by have := (List.getElem?_eq_some_iff.1 hj).1; simp only [List.length_take] at this; omega
  rw [get_sub _ o m j hjm] at hj
  rw [blk_cell h, ← Array.getElem?_toList]
  exact hj
theorem Rep.under {x : V} {u : Value} (h : Rep A w q x u) (hb : Below w.heap.size w w') : Rep A w' q x u := h.mono (fun _ h => h) hb.size (fun b _ hb' => hb.block b hb')
theorem RowRep.under {cs : List Value} (h : RowRep A w s v cs) (hb : Below w.heap.size w w') : RowRep A w' s v cs := h.mono (fun _ h => h) hb.size (fun b _ hb' => hb.block b hb')
end

section
variable {P : Program} {ops : Array Oper} {rest : List Oper} {dst : Option Tmp} {type : TypeId} {pos : String} {after : Array Edge} {guard : Option (Nat × Bool)} {a : Act} {w : World} {Q : Exit → Act → World → Prop} {op : Oper}
/-- The walk stops at a load of a struct. -/
theorem wpList_stop_load (ty : TypeId) (x : Operand)
    (h : Stopped (wpList P ops Q ({ dst, op := .load ty x, type, pos, after, guard } :: rest) a w)) : wpList P ops Q ({ dst, op := .load ty x, type, pos, after, guard } :: rest) a w := h
theorem wpList_stop_bin (b : BinOp) (ty rt : TypeId) (x y : Operand)
    (h : Stopped (wpList P ops Q ({ dst, op := .binOp b ty x y rt, type, pos, after, guard } :: rest) a w)) : wpList P ops Q ({ dst, op := .binOp b ty x y rt, type, pos, after, guard } :: rest) a w := h
theorem wpList_load_sub (hg : Region.wanted op (yielded ops a.tmps) = true) (ty : TypeId) (x : Operand) (ho : op.op = .load ty x)
    (b o : Nat) (hx : a.eval x = .pointer (some ⟨b, o, none⟩)) (cs : List Value) (d : TypeDesc) (hc : w.rangeAt b o cs)
    (hu : P.underlying ty = some d) (hd : d.isRow = true) (hi : (P.info? ty).map (·.size) = some cs.length)
    (h : wpList P ops Q rest (a.put op.dst (.agg cs.toArray)) w) : wpList P ops Q (op :: rest) a w :=
  wpList_wanted hg fun _ hK => wp_load_mid ty x ho b o hx cs d hc hu hd hi (hK _ _ h)
theorem wpList_load_whole (hg : Region.wanted op (yielded ops a.tmps) = true) (ty : TypeId) (x : Operand) (ho : op.op = .load ty x)
    (g : Nat) (hx : a.eval x = .pointer (some ⟨g, 0, none⟩)) (cs : Array Value) {t : TypeId} (d : TypeDesc) (hb : w.heap[g]? = some (.cells cs t (0, 0)))
    (hu : P.underlying ty = some d) (hd : d.isRow = true) (hi : (P.info? ty).map (·.size) = some cs.size)
    (h : wpList P ops Q rest (a.put op.dst (.agg cs)) w) : wpList P ops Q (op :: rest) a w :=
  wpList_wanted hg fun _ hK => wp_load_mid ty x ho g 0 hx cs.toList d (fun j u hj => by rw [Nat.zero_add, blk_cell hb]; simpa using hj) hu hd (by simpa using hi) (by simpa using hK _ _ h)
end

theorem flat43 : flat Try.prog 5 43 = some (filterS) := by kernel_rfl
theorem key43 : Try.prog.keyTypeAt 5 43 = true := by kernel_rfl
theorem form43 : (match Try.prog.underlying 43 with | some (.struct _) | some (.array _ _) => (filterS : List Fld).length == Try.prog.cellsOf 43 | _ => false) = true := by kernel_rfl
theorem guard43 : Try.prog.eqGuardType Try.prog.depth 43 = false := by kernel_rfl
theorem siz43 : (Try.prog.info? 43).map (·.size) = some 16 := by kernel_rfl
theorem flat134 : flat Try.prog 5 134 = some (List.replicate 2 .i ++ filterS) := by kernel_rfl
theorem key134 : Try.prog.keyTypeAt 5 134 = true := by kernel_rfl
theorem form134 : (match Try.prog.underlying 134 with | some (.struct _) | some (.array _ _) => (List.replicate 2 .i ++ filterS : List Fld).length == Try.prog.cellsOf 134 | _ => false) = true := by kernel_rfl
theorem guard134 : Try.prog.eqGuardType Try.prog.depth 134 = false := by kernel_rfl
theorem siz134 : (Try.prog.info? 134).map (·.size) = some 18 := by kernel_rfl
theorem flat136 : flat Try.prog 5 136 = some (List.replicate 3 .i ++ filterS) := by kernel_rfl
theorem key136 : Try.prog.keyTypeAt 5 136 = true := by kernel_rfl
theorem form136 : (match Try.prog.underlying 136 with | some (.struct _) | some (.array _ _) => (List.replicate 3 .i ++ filterS : List Fld).length == Try.prog.cellsOf 136 | _ => false) = true := by kernel_rfl
theorem guard136 : Try.prog.eqGuardType Try.prog.depth 136 = false := by kernel_rfl
theorem siz136 : (Try.prog.info? 136).map (·.size) = some 19 := by kernel_rfl
theorem flat76 : flat Try.prog 5 76 = some (List.replicate 6 .i) := by kernel_rfl
theorem key76 : Try.prog.keyTypeAt 5 76 = true := by kernel_rfl
theorem form76 : (match Try.prog.underlying 76 with | some (.struct _) | some (.array _ _) => (List.replicate 6 .i : List Fld).length == Try.prog.cellsOf 76 | _ => false) = true := by kernel_rfl
theorem guard76 : Try.prog.eqGuardType Try.prog.depth 76 = false := by kernel_rfl
theorem siz76 : (Try.prog.info? 76).map (·.size) = some 6 := by kernel_rfl
theorem flat95 : flat Try.prog 5 95 = some (eventS) := by kernel_rfl
theorem key95 : Try.prog.keyTypeAt 5 95 = true := by kernel_rfl
theorem form95 : (match Try.prog.underlying 95 with | some (.struct _) | some (.array _ _) => (eventS : List Fld).length == Try.prog.cellsOf 95 | _ => false) = true := by kernel_rfl
theorem guard95 : Try.prog.eqGuardType Try.prog.depth 95 = false := by kernel_rfl
theorem siz95 : (Try.prog.info? 95).map (·.size) = some 15 := by kernel_rfl
theorem flat83 : flat Try.prog 5 83 = some (List.replicate 7 .i ++ (List.replicate 2 .b ++ [.i])) := by kernel_rfl
theorem key83 : Try.prog.keyTypeAt 5 83 = true := by kernel_rfl
theorem form83 : (match Try.prog.underlying 83 with | some (.struct _) | some (.array _ _) => (List.replicate 7 .i ++ (List.replicate 2 .b ++ [.i]) : List Fld).length == Try.prog.cellsOf 83 | _ => false) = true := by kernel_rfl
theorem guard83 : Try.prog.eqGuardType Try.prog.depth 83 = false := by kernel_rfl
theorem siz83 : (Try.prog.info? 83).map (·.size) = some 10 := by kernel_rfl
theorem flat85 : flat Try.prog 5 85 = some (List.replicate 2 .i ++ filterS) := by kernel_rfl
theorem key85 : Try.prog.keyTypeAt 5 85 = true := by kernel_rfl
theorem form85 : (match Try.prog.underlying 85 with | some (.struct _) | some (.array _ _) => (List.replicate 2 .i ++ filterS : List Fld).length == Try.prog.cellsOf 85 | _ => false) = true := by kernel_rfl
theorem guard85 : Try.prog.eqGuardType Try.prog.depth 85 = false := by kernel_rfl
theorem siz85 : (Try.prog.info? 85).map (·.size) = some 18 := by kernel_rfl
theorem flat89 : flat Try.prog 5 89 = some (List.replicate 2 .i ++ (filterS ++ List.replicate 4 .i)) := by kernel_rfl
theorem key89 : Try.prog.keyTypeAt 5 89 = true := by kernel_rfl
theorem form89 : (match Try.prog.underlying 89 with | some (.struct _) | some (.array _ _) => (List.replicate 2 .i ++ (filterS ++ List.replicate 4 .i) : List Fld).length == Try.prog.cellsOf 89 | _ => false) = true := by kernel_rfl
theorem guard89 : Try.prog.eqGuardType Try.prog.depth 89 = false := by kernel_rfl
theorem siz89 : (Try.prog.info? 89).map (·.size) = some 22 := by kernel_rfl

set_option maxRecDepth 100000 in
set_option maxHeartbeats 4000000 in
theorem same138_any {A A' : Nat → Prop} (v : List V) (c1 c2 : Array Value) (w : World) (h1 : RowRep A w effectS v c1.toList) (h2 : RowRep A' w effectS v c2.toList) :
    Calls Try.prog 124 #[.agg c1, .agg c2] w (SameAns w) := by
  obtain ⟨n0, p0, q0⟩ := two_i h1 h2 (j := 0) rfl
  obtain ⟨s1, l1, p1, q1, r1⟩ := two_sub h1 h2 (o := 1) (m := 18) (t := List.replicate 2 .i ++ filterS) (by rfl) (by rfl) (by decide)
  have I1 := Lib.hid (show (Try.prog.info? 134).map (·.size) = some s1.length by rw [l1]; exact siz134)
  have E1 := Lib.hid (equal_self 5 flat134 (by decide) key134 (by omega) form134 r1)
  clear l1 r1
  obtain ⟨s19, l19, p19, q19, r19⟩ := two_sub h1 h2 (o := 19) (m := 19) (t := List.replicate 3 .i ++ filterS) (by rfl) (by rfl) (by decide)
  have I19 := Lib.hid (show (Try.prog.info? 136).map (·.size) = some s19.length by rw [l19]; exact siz136)
  have E19 := Lib.hid (equal_self 5 flat136 (by decide) key136 (by omega) form136 r19)
  clear l19 r19
  obtain ⟨n38, p38, q38⟩ := two_i h1 h2 (j := 38) rfl
  obtain ⟨n39, p39, q39⟩ := two_i h1 h2 (j := 39) rfl
  obtain ⟨n40, p40, q40⟩ := two_t h1 h2 (j := 40) rfl
  obtain ⟨s41, l41, p41, q41, r41⟩ := two_sub h1 h2 (o := 41) (m := 16) (t := filterS) (by rfl) (by rfl) (by decide)
  have I41 := Lib.hid (show (Try.prog.info? 43).map (·.size) = some s41.length by rw [l41]; exact siz43)
  have E41 := Lib.hid (equal_self 5 flat43 (by decide) key43 (by omega) form43 r41)
  clear l41 r41
  obtain ⟨s57, l57, p57, q57, r57⟩ := two_sub h1 h2 (o := 57) (m := 6) (t := List.replicate 6 .i) (by rfl) (by rfl) (by decide)
  have I57 := Lib.hid (show (Try.prog.info? 76).map (·.size) = some s57.length by rw [l57]; exact siz76)
  have E57 := Lib.hid (equal_self 5 flat76 (by decide) key76 (by omega) form76 r57)
  clear l57 r57
  obtain ⟨x63, u63, v63, p63, q63, ra63, rb63⟩ := two_x h1 h2 (j := 63) rfl
  have RA63 := Lib.hid ra63
  have RB63 := Lib.hid rb63
  clear ra63 rb63
  have HK1 := Lib.hid (heap_alloc2_old w (.cells c1 138) (.cells c2 138))
  have HK2 := Lib.hid (heap_alloc2_new w (.cells c1 138) (.cells c2 138))
  have HB := Lib.hid (show Below w.heap.size w ((w.alloc (.cells c1 138)).alloc (.cells c2 138)) from ((Below.refl _ _).alloc (Nat.le_refl _) _).alloc (by simp) _)
  have H1 := Lib.hid h1
  have H2 := Lib.hid h2
  clear h1 h2
  have f0a := (blk_cell HK1.out 0).trans p0
  have g0a := (blk_cell HK2.out 0).trans q0
  have X1a := Lib.hid (range_sub HK1.out p1)
  have Y1a := Lib.hid (range_sub HK2.out q1)
  have X19a := Lib.hid (range_sub HK1.out p19)
  have Y19a := Lib.hid (range_sub HK2.out q19)
  have f38a := (blk_cell HK1.out 38).trans p38
  have g38a := (blk_cell HK2.out 38).trans q38
  have f39a := (blk_cell HK1.out 39).trans p39
  have g39a := (blk_cell HK2.out 39).trans q39
  have f40a := (blk_cell HK1.out 40).trans p40
  have g40a := (blk_cell HK2.out 40).trans q40
  have X41a := Lib.hid (range_sub HK1.out p41)
  have Y41a := Lib.hid (range_sub HK2.out q41)
  have X57a := Lib.hid (range_sub HK1.out p57)
  have Y57a := Lib.hid (range_sub HK2.out q57)
  have f63a := (blk_cell HK1.out 63).trans p63
  have g63a := (blk_cell HK2.out 63).trans q63
  go_enter Try.func124, Try.ntmps124
  go_wp2_with (with_reducible refine wpList_stop_load 134 _ ?_)
  refine go_on (wpList_load_sub rfl 134 (.tmp 11) rfl w.heap.size 1 rfl s1 _ X1a.out Try.underlying134 rfl I1.out ?_)
  go_wp2_with (with_reducible refine wpList_stop_load 134 _ ?_)
  refine go_on (wpList_load_sub rfl 134 (.tmp 13) rfl (w.heap.size + 1) 1 rfl s1 _ Y1a.out Try.underlying134 rfl I1.out ?_)
  go_wp2_with (with_reducible refine wpList_stop_bin .eql 134 _ _ _ ?_)
  refine go_on (wpList_eql_self rfl 134 134 (.tmp 12) (.tmp 14) rfl s1.toArray rfl rfl guard134 (E1.out _) ?_)
  go_wp2_with (with_reducible refine wpList_stop_load 136 _ ?_)
  refine go_on (wpList_load_sub rfl 136 (.tmp 18) rfl w.heap.size 19 rfl s19 _ X19a.out Try.underlying136 rfl I19.out ?_)
  go_wp2_with (with_reducible refine wpList_stop_load 136 _ ?_)
  refine go_on (wpList_load_sub rfl 136 (.tmp 20) rfl (w.heap.size + 1) 19 rfl s19 _ Y19a.out Try.underlying136 rfl I19.out ?_)
  go_wp2_with (with_reducible refine wpList_stop_bin .eql 136 _ _ _ ?_)
  refine go_on (wpList_eql_self rfl 136 136 (.tmp 19) (.tmp 21) rfl s19.toArray rfl rfl guard136 (E19.out _) ?_)
  go_wp2_with (with_reducible refine wpList_stop_load 43 _ ?_)
  refine go_on (wpList_load_sub rfl 43 (.tmp 46) rfl w.heap.size 41 rfl s41 _ X41a.out Try.underlying43 rfl I41.out ?_)
  go_wp2_with (with_reducible refine wpList_stop_load 43 _ ?_)
  refine go_on (wpList_load_sub rfl 43 (.tmp 48) rfl (w.heap.size + 1) 41 rfl s41 _ Y41a.out Try.underlying43 rfl I41.out ?_)
  go_wp2_with (with_reducible refine wpList_stop_bin .eql 43 _ _ _ ?_)
  refine go_on (wpList_eql_self rfl 43 43 (.tmp 47) (.tmp 49) rfl s41.toArray rfl rfl guard43 (E41.out _) ?_)
  go_wp2_with (with_reducible refine wpList_stop_load 76 _ ?_)
  refine go_on (wpList_load_sub rfl 76 (.tmp 53) rfl w.heap.size 57 rfl s57 _ X57a.out Try.underlying76 rfl I57.out ?_)
  go_wp2_with (with_reducible refine wpList_stop_load 76 _ ?_)
  refine go_on (wpList_load_sub rfl 76 (.tmp 55) rfl (w.heap.size + 1) 57 rfl s57 _ Y57a.out Try.underlying76 rfl I57.out ?_)
  go_wp2_with (with_reducible refine wpList_stop_bin .eql 76 _ _ _ ?_)
  refine go_on (wpList_eql_self rfl 76 76 (.tmp 54) (.tmp 56) rfl s57.toArray rfl rfl guard76 (E57.out _) ?_)
  go_wp2_with (go_at_call 122; refine halt_here ?_)
  refine go_on ((sameMods17_any x63 u63 v63 ((w.alloc (.cells c1 138)).alloc (.cells c2 138)) (RA63.out.under HB.out) (RB63.out.under HB.out)).mono ?_)
  rintro e w2 ⟨rfl, hb⟩
  have HK1' := Lib.hid ((hb.block _ (blk_lt HK1.out)).trans HK1.out)
  have HK2' := Lib.hid ((hb.block _ (blk_lt HK2.out)).trans HK2.out)
  have HB' := Lib.hid (HB.out.trans (hb.mono HB.out.size))
  clear f0a g0a
  clear X1a Y1a
  clear X19a Y19a
  clear f38a g38a
  clear f39a g39a
  clear f40a g40a
  clear X41a Y41a
  clear X57a Y57a
  clear f63a g63a
  clear hb HK1 HK2 HB
  have HK1 := HK1'
  have HK2 := HK2'
  have HB := HB'
  clear HK1' HK2' HB'
  go_wp2_with fail
  go_ret
  exact ⟨rfl, HB.out⟩

set_option maxRecDepth 100000 in
set_option maxHeartbeats 4000000 in
theorem same78_any {A A' : Nat → Prop} (v : List V) (c1 c2 : Array Value) (w : World) (h1 : RowRep A w playerS v c1.toList) (h2 : RowRep A' w playerS v c2.toList) :
    Calls Try.prog 97 #[.agg c1, .agg c2] w (SameAns w) := by
  obtain ⟨n0, p0, q0⟩ := two_i h1 h2 (j := 0) rfl
  obtain ⟨n1, p1, q1⟩ := two_i h1 h2 (j := 1) rfl
  obtain ⟨n2, p2, q2⟩ := two_i h1 h2 (j := 2) rfl
  obtain ⟨s3, l3, p3, q3, r3⟩ := two_sub h1 h2 (o := 3) (m := 6) (t := List.replicate 6 .i) (by rfl) (by rfl) (by decide)
  have I3 := Lib.hid (show (Try.prog.info? 76).map (·.size) = some s3.length by rw [l3]; exact siz76)
  have E3 := Lib.hid (equal_self 5 flat76 (by decide) key76 (by omega) form76 r3)
  clear l3 r3
  obtain ⟨n9, p9, q9⟩ := two_b h1 h2 (j := 9) rfl
  obtain ⟨n10, p10, q10⟩ := two_b h1 h2 (j := 10) rfl
  obtain ⟨x11, u11, v11, p11, q11, ra11, rb11⟩ := two_x h1 h2 (j := 11) rfl
  have RA11 := Lib.hid ra11
  have RB11 := Lib.hid rb11
  clear ra11 rb11
  obtain ⟨x12, u12, v12, p12, q12, ra12, rb12⟩ := two_x h1 h2 (j := 12) rfl
  have RA12 := Lib.hid ra12
  have RB12 := Lib.hid rb12
  clear ra12 rb12
  obtain ⟨x13, u13, v13, p13, q13, ra13, rb13⟩ := two_x h1 h2 (j := 13) rfl
  have RA13 := Lib.hid ra13
  have RB13 := Lib.hid rb13
  clear ra13 rb13
  have HK1 := Lib.hid (heap_alloc2_old w (.cells c1 78) (.cells c2 78))
  have HK2 := Lib.hid (heap_alloc2_new w (.cells c1 78) (.cells c2 78))
  have HB := Lib.hid (show Below w.heap.size w ((w.alloc (.cells c1 78)).alloc (.cells c2 78)) from ((Below.refl _ _).alloc (Nat.le_refl _) _).alloc (by simp) _)
  have H1 := Lib.hid h1
  have H2 := Lib.hid h2
  clear h1 h2
  have f0a := (blk_cell HK1.out 0).trans p0
  have g0a := (blk_cell HK2.out 0).trans q0
  have f1a := (blk_cell HK1.out 1).trans p1
  have g1a := (blk_cell HK2.out 1).trans q1
  have f2a := (blk_cell HK1.out 2).trans p2
  have g2a := (blk_cell HK2.out 2).trans q2
  have X3a := Lib.hid (range_sub HK1.out p3)
  have Y3a := Lib.hid (range_sub HK2.out q3)
  have f9a := (blk_cell HK1.out 9).trans p9
  have g9a := (blk_cell HK2.out 9).trans q9
  have f10a := (blk_cell HK1.out 10).trans p10
  have g10a := (blk_cell HK2.out 10).trans q10
  have f11a := (blk_cell HK1.out 11).trans p11
  have g11a := (blk_cell HK2.out 11).trans q11
  have f12a := (blk_cell HK1.out 12).trans p12
  have g12a := (blk_cell HK2.out 12).trans q12
  have f13a := (blk_cell HK1.out 13).trans p13
  have g13a := (blk_cell HK2.out 13).trans q13
  go_enter Try.func97, Try.ntmps97
  go_wp2_with (with_reducible refine wpList_stop_load 76 _ ?_)
  refine go_on (wpList_load_sub rfl 76 (.tmp 25) rfl w.heap.size 3 rfl s3 _ X3a.out Try.underlying76 rfl I3.out ?_)
  go_wp2_with (with_reducible refine wpList_stop_load 76 _ ?_)
  refine go_on (wpList_load_sub rfl 76 (.tmp 27) rfl (w.heap.size + 1) 3 rfl s3 _ Y3a.out Try.underlying76 rfl I3.out ?_)
  go_wp2_with (with_reducible refine wpList_stop_bin .neq 76 _ _ _ ?_)
  refine go_on (wpList_neq_self rfl 76 76 (.tmp 26) (.tmp 28) rfl s3.toArray rfl rfl guard76 (E3.out _) ?_)
  go_wp2_with (go_at_call 72; refine halt_here ?_)
  refine go_on ((sameInts_any x11 u11 v11 ((w.alloc (.cells c1 78)).alloc (.cells c2 78)) (RA11.out.under HB.out) (RB11.out.under HB.out)).mono ?_)
  rintro e w2 ⟨rfl, hb⟩
  have HK1' := Lib.hid ((hb.block _ (blk_lt HK1.out)).trans HK1.out)
  have HK2' := Lib.hid ((hb.block _ (blk_lt HK2.out)).trans HK2.out)
  have HB' := Lib.hid (HB.out.trans (hb.mono HB.out.size))
  clear f0a g0a
  clear f1a g1a
  clear f2a g2a
  clear X3a Y3a
  clear f9a g9a
  clear f10a g10a
  clear f11a g11a
  clear f12a g12a
  clear f13a g13a
  clear hb HK1 HK2 HB
  have HK1 := HK1'
  have HK2 := HK2'
  have HB := HB'
  clear HK1' HK2' HB'
  have f12b := (blk_cell HK1.out 12).trans p12
  have g12b := (blk_cell HK2.out 12).trans q12
  have f13b := (blk_cell HK1.out 13).trans p13
  have g13b := (blk_cell HK2.out 13).trans q13
  go_wp2_with (go_at_call 72; refine halt_here ?_)
  refine go_on ((sameInts_any x12 u12 v12 w2 (RA12.out.under HB.out) (RB12.out.under HB.out)).mono ?_)
  rintro e w3 ⟨rfl, hb⟩
  have HK1' := Lib.hid ((hb.block _ (blk_lt HK1.out)).trans HK1.out)
  have HK2' := Lib.hid ((hb.block _ (blk_lt HK2.out)).trans HK2.out)
  have HB' := Lib.hid (HB.out.trans (hb.mono HB.out.size))
  clear f12b g12b
  clear f13b g13b
  clear hb HK1 HK2 HB
  have HK1 := HK1'
  have HK2 := HK2'
  have HB := HB'
  clear HK1' HK2' HB'
  have f13c := (blk_cell HK1.out 13).trans p13
  have g13c := (blk_cell HK2.out 13).trans q13
  go_wp2_with (go_at_call 72; refine halt_here ?_)
  refine go_on ((sameInts_any x13 u13 v13 w3 (RA13.out.under HB.out) (RB13.out.under HB.out)).mono ?_)
  rintro e w4 ⟨rfl, hb⟩
  have HK1' := Lib.hid ((hb.block _ (blk_lt HK1.out)).trans HK1.out)
  have HK2' := Lib.hid ((hb.block _ (blk_lt HK2.out)).trans HK2.out)
  have HB' := Lib.hid (HB.out.trans (hb.mono HB.out.size))
  clear f13c g13c
  clear hb HK1 HK2 HB
  have HK1 := HK1'
  have HK2 := HK2'
  have HB := HB'
  clear HK1' HK2' HB'
  go_wp2_with fail
  go_ret
  exact ⟨rfl, HB.out⟩

set_option maxRecDepth 100000 in
set_option maxHeartbeats 4000000 in
theorem same48_any {A A' : Nat → Prop} (v : List V) (c1 c2 : Array Value) (w : World) (h1 : RowRep A w contS v c1.toList) (h2 : RowRep A' w contS v c2.toList) :
    Calls Try.prog 100 #[.agg c1, .agg c2] w (SameAns w) := by
  obtain ⟨n0, p0, q0⟩ := two_i h1 h2 (j := 0) rfl
  obtain ⟨n1, p1, q1⟩ := two_i h1 h2 (j := 1) rfl
  obtain ⟨n2, p2, q2⟩ := two_i h1 h2 (j := 2) rfl
  obtain ⟨n3, p3, q3⟩ := two_i h1 h2 (j := 3) rfl
  obtain ⟨x4, u4, v4, p4, q4, ra4, rb4⟩ := two_x h1 h2 (j := 4) rfl
  have RA4 := Lib.hid ra4
  have RB4 := Lib.hid rb4
  clear ra4 rb4
  obtain ⟨x5, u5, v5, p5, q5, ra5, rb5⟩ := two_x h1 h2 (j := 5) rfl
  have RA5 := Lib.hid ra5
  have RB5 := Lib.hid rb5
  clear ra5 rb5
  have HK1 := Lib.hid (heap_alloc2_old w (.cells c1 48) (.cells c2 48))
  have HK2 := Lib.hid (heap_alloc2_new w (.cells c1 48) (.cells c2 48))
  have HB := Lib.hid (show Below w.heap.size w ((w.alloc (.cells c1 48)).alloc (.cells c2 48)) from ((Below.refl _ _).alloc (Nat.le_refl _) _).alloc (by simp) _)
  have H1 := Lib.hid h1
  have H2 := Lib.hid h2
  clear h1 h2
  have f0a := (blk_cell HK1.out 0).trans p0
  have g0a := (blk_cell HK2.out 0).trans q0
  have f1a := (blk_cell HK1.out 1).trans p1
  have g1a := (blk_cell HK2.out 1).trans q1
  have f2a := (blk_cell HK1.out 2).trans p2
  have g2a := (blk_cell HK2.out 2).trans q2
  have f3a := (blk_cell HK1.out 3).trans p3
  have g3a := (blk_cell HK2.out 3).trans q3
  have f4a := (blk_cell HK1.out 4).trans p4
  have g4a := (blk_cell HK2.out 4).trans q4
  have f5a := (blk_cell HK1.out 5).trans p5
  have g5a := (blk_cell HK2.out 5).trans q5
  go_enter Try.func100, Try.ntmps100
  go_wp2_with (go_at_call 72; refine halt_here ?_)
  refine go_on ((sameInts_any x4 u4 v4 ((w.alloc (.cells c1 48)).alloc (.cells c2 48)) (RA4.out.under HB.out) (RB4.out.under HB.out)).mono ?_)
  rintro e w2 ⟨rfl, hb⟩
  have HK1' := Lib.hid ((hb.block _ (blk_lt HK1.out)).trans HK1.out)
  have HK2' := Lib.hid ((hb.block _ (blk_lt HK2.out)).trans HK2.out)
  have HB' := Lib.hid (HB.out.trans (hb.mono HB.out.size))
  clear f0a g0a
  clear f1a g1a
  clear f2a g2a
  clear f3a g3a
  clear f4a g4a
  clear f5a g5a
  clear hb HK1 HK2 HB
  have HK1 := HK1'
  have HK2 := HK2'
  have HB := HB'
  clear HK1' HK2' HB'
  have f5b := (blk_cell HK1.out 5).trans p5
  have g5b := (blk_cell HK2.out 5).trans q5
  go_wp2_with (go_at_call 113; refine halt_here ?_)
  refine go_on ((sameMods26_any x5 u5 v5 w2 (RA5.out.under HB.out) (RB5.out.under HB.out)).mono ?_)
  rintro e w3 ⟨rfl, hb⟩
  have HK1' := Lib.hid ((hb.block _ (blk_lt HK1.out)).trans HK1.out)
  have HK2' := Lib.hid ((hb.block _ (blk_lt HK2.out)).trans HK2.out)
  have HB' := Lib.hid (HB.out.trans (hb.mono HB.out.size))
  clear f5b g5b
  clear hb HK1 HK2 HB
  have HK1 := HK1'
  have HK2 := HK2'
  have HB := HB'
  clear HK1' HK2' HB'
  go_wp2_with fail
  go_ret
  exact ⟨rfl, HB.out⟩
end Go.Proofs.Ytbcpdjhpceimlaa
