/-
  'bytes' and 'alive' of layer 27's laws: the fixed examples hold.
-/
import Derived.Test.YtbcpdjhpceimlaaFew
import Derived.Test.YtbcpdjhpceimlaaAlive
import Derived.WalkKit
namespace Go.Proofs.Ytbcpdjhpceimlaa
open Go.ChangeShapes Go.WideShapes Go.ChangeAt Go.RowKit
set_option linter.unusedVariables false

set_option maxRecDepth 100000 in
set_option maxHeartbeats 1000000 in
theorem bytes_eq (a : Option Addr) (n c : Nat) (a2 : Option Addr) (c2 : Nat) (l : Bytes) (w : World) (hl : l.length = n) (hn : n ≤ 4611686018427387904) (h : CellsAt w a (bc l)) (h2 : CellsAt w a2 (bc l)) :
    Calls Try.prog 35 #[.slice a n c, .slice a2 n c2] w fun e w' => e = .returned (.bool true) ∧ ∃ k, w' = w.drewN k := by
  have H := Lib.hid h
  have H2 := Lib.hid h2
  have HL := Lib.hid hl
  clear h h2 hl
  go_enter Try.func35, Try.ntmps35
  go_wp2_with fail
  go_loopw [5] (fun i wr => ∃ k : Nat, i = .int .i64 k ∧ k ≤ n ∧ ∃ j, wr = w.drewN j) (fun i _ => n - (intOf i).toNat)
  case atStart => exact ⟨0, rfl, Nat.zero_le _, 0, rfl⟩
  case round =>
    obtain ⟨k, rfl, hk, j, rfl⟩ := hrel
    by_cases hlt : k < n
    · obtain ⟨b1, o1, rfl, g1⟩ := H.out.pos (by rw [bc_length, HL.out]; omega)
      obtain ⟨b2, o2, rfl, g2⟩ := H2.out.pos (by rw [bc_length, HL.out]; omega)
      have hx : l[k]? = some (l[k]'(by rw [HL.out]; exact hlt)) := List.getElem?_eq_getElem _
      have e1 := g1 k _ (by rw [bc, List.getElem?_map, hx]; rfl)
      have e2 := g2 k _ (by rw [bc, List.getElem?_map, hx]; rfl)
      generalize l[k]'(by rw [HL.out]; exact hlt) = x at e1 e2
      generalize ((x.toNat : Nat) : Int) = xi at e1 e2
      clear g1 g2 hx
      go_wp2_with fail
      refine wp_region_plan [(0, none), (1, none), (2, none), (3, some none), (4, none), (5, none), (6, none), (7, some none), (8, none)] (by kernel_rfl) (by kernel_rfl) ?_
      repeat (first | (refine plan_free (v := ?_) rfl rfl (fun _ => ?_) (fun K hK => ?_); rotate_left 1; (focus (go_simp <;> exact rfl)); go_simp; refine hK _ _ ?_; clear hK K) | (refine plan_held (v := ?_) rfl rfl ?_ (fun K hK => ?_); rotate_left 1; (focus (go_simp <;> exact rfl)); go_simp; refine hK _ _ ?_; clear hK K) | (refine plan_skip rfl rfl (fun K hK => ?_); go_simp; refine hK _ _ ?_; clear hK K))
      refine plan_nil ?_
      go_wp2_with fail
      go_roundw
      case rel => exact ⟨k + 1, by go_num, by omega, j + 1, rfl⟩
      case measure => simp [intOf]; omega
    · go_wp2_with fail
      go_ret
      exact ⟨rfl, j, rfl⟩

theorem RowRep.cons {A : Nat → Prop} {w : World} {q : Fld} {x : V} {u : Value} {s : List Fld} {v : List V} {cs : List Value} (h1 : Rep A w q x u) (h : RowRep A w s v cs) : RowRep A w (q :: s) (x :: v) (u :: cs) :=
  (RowRep.one h1).append h
theorem rep_ze (A : Nat → Prop) (w : World) (s : List Fld) : Rep A w (.e s) (.e []) (.slice none 0 0) :=
  .e s [] none 0 0 (fun _ _ => undef) rfl (Nat.le_refl _) (Nat.zero_le _) (fun _ => ⟨rfl, rfl⟩) (fun x h => by cases h) (fun x h => by simp at h) (fun _ _ _ _ _ h => by omega) (fun i j r q v h => by simp at h)
theorem rep_zl (A : Nat → Prop) (w : World) : Rep A w .l (.l []) (.slice none 0 0) :=
  .l [] none 0 0 rfl (Nat.le_refl _) (Nat.zero_le _) (fun _ => ⟨rfl, rfl⟩) (fun x h => by cases h) (fun x h => by simp at h) (.inl rfl)
theorem rep_zi (A : Nat → Prop) (w : World) (n : Int) (h : In64 n := by (unfold In64; omega)) : Rep A w .i (.i n) (.int .i64 n) := .i n h

theorem below_drewN {B : Nat} {w0 w : World} (h : Below B w0 w) : ∀ k, Below B w0 (w.drewN k)
  | 0 => h
  | k + 1 => (below_drewN h k).drew
theorem row_get {A : Nat → Prop} {w : World} {s : List Fld} {v : List V} {us : List Value} (h : RowRep A w s v us) {j : Nat} {q : Fld} {x : V} (hq : s[j]? = some q) (hx : v[j]? = some x) : ∃ u, us[j]? = some u ∧ Rep A w q x u := by
  have hj : j < s.length := (List.getElem?_eq_some_iff.1 hq).1
  exact ⟨us[j]'(by rw [h.2.1]; exact hj), List.getElem?_eq_getElem _, h.2.2 j q x _ hq hx (List.getElem?_eq_getElem _)⟩

/-- The walk stops at a store of a struct. -/
theorem wpList_halt_store {P : Program} {ops : Array Oper} {rest : List Oper} {dst : Option Tmp} {type : TypeId} {pos : String} {after : Array Edge} {guard : Option (Nat × Bool)} {a : Act} {w : World} {Q : Exit → Act → World → Prop} (ty : TypeId) (x y : Operand)
    (h : Stopped (wpList P ops Q ({ dst, op := .store ty x y, type, pos, after, guard } :: rest) a w)) : wpList P ops Q ({ dst, op := .store ty x y, type, pos, after, guard } :: rest) a w := h

/-- The example of 'alive'. -/
def aliveS : Array Value := #[.slice none 0 0, .slice none 0 0, .slice none 0 0, .slice none 0 0, .slice none 0 0, .slice none 0 0, .slice none 0 0, .int .i64 0, .int .i64 0, .int .i64 0, .bool false, .int .i64 0, .int .i64 0, .int .i64 0, .int .i64 0, .int .u64 300, .slice none 0 0, .int .i64 0, .int .i64 (-1)]
def aliveV : List V := [.e [], .e [], .l [], .l [], .e [], .e [], .e [], .i 0, .i 0, .i 0, .b false, .i 0, .i 0, .i 0, .i 0, .u 300, .l [], .i 0, .i (-1)]
def aliveB : Bytes := [0, 0, 0, 0, 0, 0, 0, 0, 0, 0, 0, 0, 0, 0, 0, 172, 2, 0, 0, 1]
def aliveI : List Int := [0, 0, 0, 0, 0, 0, 0, 0, 0, 0, 0, 0, 0, 0, 0, 172, 2, 0, 0, 1]
theorem alive_bc : bc aliveB = aliveI.map (Value.int .u8) := by rfl
theorem alive_row (A : Nat → Prop) (w : World) : RowRep A w stateS aliveV aliveS.toList :=
  .cons (rep_ze _ _ _) (.cons (rep_ze _ _ _) (.cons (rep_zl _ _) (.cons (rep_zl _ _) (.cons (rep_ze _ _ _) (.cons (rep_ze _ _ _) (.cons (rep_ze _ _ _) (.cons (rep_zi _ _ 0) (.cons (rep_zi _ _ 0) (.cons (rep_zi _ _ 0) (.cons (.b false)
    (.cons (rep_zi _ _ 0) (.cons (rep_zi _ _ 0) (.cons (rep_zi _ _ 0) (.cons (rep_zi _ _ 0) (.cons (.u 300 (by omega)) (.cons (rep_zl _ _) (.cons (rep_zi _ _ 0) (.cons (rep_zi _ _ (-1)) (RowRep.nil _ _)))))))))))))))))))
theorem alive_enc : encRow aliveV = aliveB := by kernel_rfl
theorem alive_dec : rdRow stateS (.ok aliveB) = (aliveV, .ok []) := by kernel_rfl
theorem nil_dec : (rdRow stateS (.ok [])).2 = .error 4 := by kernel_rfl

/-- What Decode leaves, when the bytes are an encoding. -/
theorem DecPost.ok {w : World} {bs : Bytes} {e : Ending} {w' : World} {v : List V} (h : DecPost w bs e w') (hd : rdRow stateS (.ok bs) = (v, .ok [])) :
    ∃ us : List Value, e = .returned (.tuple #[.agg us.toArray, .int .i64 0]) ∧ RowRep (fun k => w.heap.size ≤ k) w' stateS v us ∧ Below w.heap.size w w' := by
  obtain ⟨hb, h⟩ := h
  rw [hd] at h
  simp only [if_pos] at h
  obtain ⟨us, h1, h2⟩ := h
  exact ⟨us, h1, h2, hb⟩
theorem DecPost.err {w : World} {bs : Bytes} {e : Ending} {w' : World} {c : Nat} (h : DecPost w bs e w') (hd : (rdRow stateS (.ok bs)).2 = .error c) : e = .returned (.tuple #[.agg zeroS, .int .i64 (c : Int)]) ∧ Below w.heap.size w w' := by
  obtain ⟨hb, h⟩ := h
  rw [hd] at h
  exact ⟨h, hb⟩
theorem DecPost.long {w : World} {bs : Bytes} {e : Ending} {w' : World} {r : Bytes} (h : DecPost w bs e w') (hd : (rdRow stateS (.ok bs)).2 = .ok r) (hr : r ≠ []) : e = .returned (.tuple #[.agg zeroS, .int .i64 5]) ∧ Below w.heap.size w w' := by
  obtain ⟨hb, h⟩ := h
  rw [hd] at h
  simp only [if_neg hr] at h
  exact ⟨h, hb⟩

theorem one_row {A : Nat → Prop} {w : World} {s : List Fld} {v : List V} {us : List Value} (h : RowRep A w s v us) : us.toArray.all (·.oneCell') = true := all_oneCell_toArray (row_one h)
theorem size_row {A : Nat → Prop} {w : World} {v : List V} {us : List Value} (h : RowRep A w stateS v us) : us.toArray.size = 19 := by rw [List.size_toArray, h.2.1, len_stateS]

set_option maxRecDepth 100000 in
set_option maxHeartbeats 4000000 in
theorem palive_any (w : World) : Calls Try.prog 15 #[] w fun e w' => e = .returned (.bool true) ∧ Below w.heap.size w w' := by
  go_enter Try.func15, Try.ntmps15
  go_wp2_with (go_at_call 16; refine halt_here ?_)
  refine go_on ((Encode_any aliveS aliveV w (alive_row _ _) (by rw [alive_enc]; decide)).mono ?_)
  rintro e w1 ⟨a, n, c, rfl, hc, hn, hnil, -, hb⟩
  rw [alive_enc] at hc hn
  obtain rfl : n = 20 := hn.symm
  have HC := Lib.hid hc
  have HN := Lib.hid hnil
  have HB1 := Lib.hid hb
  clear hc hn hnil hb
  go_wp2_with (go_at_call 17; refine halt_here ?_)
  refine go_on ((Decode_any a 20 c aliveB w1 HC.out HN.out rfl (by omega)).mono ?_)
  rintro e w2 hd
  obtain ⟨us, rfl, hr, hb⟩ := hd.ok alive_dec
  have hr15 := hr.2.2 15 .u (.u 300)
  have HR := Lib.hid hr
  have HB2 := Lib.hid (HB1.out.trans (hb.mono HB1.out.size))
  have HC2 := Lib.hid (HC.out.below hb)
  clear hd hr hb hr15
  have HSZ := Lib.hid (size_row HR.out)
  have HI := Lib.hid (show (Try.prog.info? 30).map (·.size) = some us.toArray.size by rw [HSZ.out]; exact size30)
  have HON := Lib.hid (one_row HR.out)
  go_wp2_with (with_reducible refine wpList_halt_store 30 _ _ ?_)
  refine go_on (wpList_store_new rfl 30 (.tmp 2) (.tmp 11) rfl _ us.toArray rfl rfl HI.out (by rw [HSZ.out]; rfl) HON.out ?_)
  go_wp2_with (go_at_call 17; refine halt_here ?_)
  refine go_on ((Decode_any none 0 0 [] _ (CellsAt.nil _ _) (fun _ => ⟨rfl, rfl⟩) rfl (by omega)).mono ?_)
  rintro e w3 hd
  obtain ⟨rfl, hb⟩ := hd.err nil_dec
  have hbk : w3.heap[w2.heap.size]? = some (.cells us.toArray 30 (0, 0)) := by
    rw [hb.block _ (blk_lt (heap_alloc_new w2 (.cells us.toArray 30)))]
    exact heap_alloc_new w2 _
  have hw3 : Below w2.heap.size w2 w3 := ((Below.refl _ _).alloc (Nat.le_refl _) _).trans (hb.mono (by simp))
  have HB3 := Lib.hid (HB2.out.trans (hw3.mono HB2.out.size))
  have HC3 := Lib.hid (HC2.out.below hw3)
  obtain ⟨u15, hu15, hr15⟩ := row_get HR.out (j := 15) rfl rfl
  obtain ⟨m, hm, rfl, -⟩ := rep_u hr15
  cases hm
  obtain ⟨u18, hu18, hr18⟩ := row_get HR.out (j := 18) rfl rfl
  obtain ⟨m, hm, rfl, -⟩ := rep_i hr18
  cases hm
  obtain ⟨u0, hu0, hr0⟩ := row_get HR.out (j := 0) rfl rfl
  obtain ⟨a0, n0, c0, rfl⟩ := rep_e hr0
  obtain ⟨rows, f, hrows, hrl, -⟩ := vals_open hr0
  cases hrows
  obtain rfl : n0 = 0 := hrl.symm
  have e15 : w3.cell? ⟨w2.heap.size, 15, none⟩ = some (.int .u64 300) := by rw [blk_cell hbk]; simpa using hu15
  have e18 : w3.cell? ⟨w2.heap.size, 18, none⟩ = some (.int .i64 (-1)) := by rw [blk_cell hbk]; simpa using hu18
  have e0 : w3.cell? ⟨w2.heap.size, 0, none⟩ = some (.slice a0 0 c0) := by rw [blk_cell hbk]; simpa using hu0
  have HLT := Lib.hid (blk_lt hbk)
  clear hd hb hbk hw3 hu15 hu18 hu0 hr15 hr18 hr0 hrl
  go_wp2_with (with_reducible refine wpList_halt_store 30 _ _ ?_)
  refine go_on (wpList_store_new rfl 30 (.tmp 4) (.tmp 15) rfl _ zeroS rfl rfl size_zeroS rfl one_zeroS ?_)
  go_wp2_with (go_at_call 35; refine halt_here ?_)
  have hbx : Below w3.heap.size w3 ((w3.alloc (.cells zeroS 30)).alloc (.cells (aliveI.map (Value.int .u8)).toArray 5)) := ((Below.refl _ _).alloc (Nat.le_refl _) _).alloc (by simp) _
  refine go_on ((bytes_eq a 20 c _ 20 aliveB _ rfl (by omega) (HC3.out.below hbx) (by rw [alive_bc]; have h := rd_lit (w3.alloc (.cells zeroS 30)) .u8 5 aliveI; rwa [show (w3.alloc (.cells zeroS 30)).heap.size = w3.heap.size + 1 by simp] at h)).mono ?_)
  rintro e w6 ⟨rfl, k, hw6⟩
  have hx6 : Below w3.heap.size w3 w6 := by rw [hw6]; exact below_drewN hbx k
  have f15 : w6.cell? ⟨w2.heap.size, 15, none⟩ = some (.int .u64 300) := (hx6.cell HLT.out).trans e15
  have f18 : w6.cell? ⟨w2.heap.size, 18, none⟩ = some (.int .i64 (-1)) := (hx6.cell HLT.out).trans e18
  have f0 : w6.cell? ⟨w2.heap.size, 0, none⟩ = some (.slice a0 0 c0) := (hx6.cell HLT.out).trans e0
  have HB6 := Lib.hid (HB3.out.trans (hx6.mono HB3.out.size))
  clear hw6 hbx hx6 e15 e18 e0
  go_wp2_with fail
  go_ret
  exact ⟨rfl, HB6.out⟩
end Go.Proofs.Ytbcpdjhpceimlaa
