/-
  The contracts of the writing functions of layer 4, the program's: Clone, put, unsigned, Put, PutInt, PutBool, PutText, PutInts.
-/
import Derived.Test.YtbcpdjhpceimlaaRows
import Derived.Test.YtbcpdjhpceimlaaOct
import Derived.Test.YtbcpdjhpceimlaaMem
import Derived.Test.YtbcpdjhpceimlaaPlan
import Derived.WalkKit
import Derived.ProofKit
import Derived.WalkSpells
import Derived.Lib.Hide
namespace Go.Proofs.Ytbcpdjhpceimlaa
open Go.ChangeShapes Go.WideShapes Go.ChangeAt Go.RowKit

theorem ret1 {a b : Value} (h : a = b) : Ending.returned a = Ending.returned b := by rw [h]

/-- Bytes as cells. -/
def bc (bs : Bytes) : List Value := bs.map fun b => .int .u8 (b.toNat : Int)
theorem bc_length (bs : Bytes) : (bc bs).length = bs.length := by simp [bc]
theorem bc_append (a b : Bytes) : bc (a ++ b) = bc a ++ bc b := by simp [bc]
theorem one_bc (bs : Bytes) : ∀ u ∈ bc bs, u.oneCell' = true := by
  intro u hu
  obtain ⟨x, _, rfl⟩ := List.mem_map.1 hu
  rfl
/-- ints as cells. -/
def ic (l : List Int) : List Value := l.map (Value.int .i64)
/-- uint64s as cells. -/
def uc (l : List Nat) : List Value := l.map fun (n : Nat) => Value.int .u64 (n : Int)

theorem info5 : (Try.prog.info? 5).map (fun i => (i.zero, i.size, i.bytes)) = some (some (.int .u8 0), 1, 1) := by kernel_rfl

/-! ### Clone -/
set_option maxHeartbeats 400000 in
theorem clone8 (a : Option Addr) (n c : Nat) (bs : Bytes) (w : World) (h : CellsAt w a (bc bs)) (hnil : a = none → n = 0 ∧ c = 0) (hl : bs.length = n) (hb : n ≤ 140737488355328) :
    Calls Try.prog 42 #[.slice a n c] w fun e w' => ∃ v, e = .returned v ∧ w'.ownsRow w.heap.size 5 1 v n (bc bs) ∧ Below w.heap.size w w' := by
  have he := fun w => Lib.run_eql_slice_nil (P := Try.prog) w 34 5 a n c 0 0 Try.underlying34
  cases a with
  | none =>
    obtain ⟨rfl, rfl⟩ := hnil rfl
    have hx : bs = [] := List.eq_nil_of_length_eq_zero hl
    subst hx
    clear h hnil hl hb
    go_enter Try.func42, Try.ntmps42
    go_wp2_with fail
    go_ret
    exact ⟨_, rfl, World.ownsRow_nil _ _ _ _, Below.refl _ _⟩
  | some ad =>
    obtain ⟨i0, hi, hz0, hz1, hz2⟩ := info_parts info5
    have H := Lib.hid h
    have HL := Lib.hid hl
    clear h hnil hl
    go_enter Try.func42, Try.ntmps42
    go_wp2_with (at_builtin; refine wpList_wp rfl (fun K hK => ?_); refine halt_here ?_)
    refine go_on (wp_append (.tmp 5) (.tmp 6) 34 rfl w.heap.size 5 i0 (.int .u8 0) 1 1 Try.underlying34 hi hz0 hz1 hz2 rfl (by decide) _ 0 [] rfl (World.ownsRow_lit _ #[] 0 (Nat.le_refl _) (by decide) rfl) _ n (bc bs) rfl ⟨_, _, rfl, H.out.below ((Below.refl _ _).alloc (Nat.le_refl _) _)⟩ (fun cap hc => by cases hc) (by rw [bc_length, HL.out]; omega) (one_bc bs) (by unfold maxLen; omega) (by omega) (by simp) ?_)
    intro v' w' hown hgr
    refine hK _ _ ?_
    clear hK K
    go_wp2_with fail
    go_ret
    refine ⟨_, rfl, by simpa using hown, ?_⟩
    have hgr2 : (w.alloc (.cells #[] 5)).grownBy w' (some w.heap.size) := hgr
    exact ((Below.refl _ _).alloc (Nat.le_refl _) _).grown hgr2 (by simp) (fun k hk => by cases hk; exact Nat.le_refl _)

/-! ### unsigned -/
theorem unsigned_any (n : Int) (w : World) (h0 : -9223372036854775808 ≤ n) (h1 : n ≤ 9223372036854775807) :
    Calls Try.prog 48 #[.int .i64 n] w fun e w' => e = .returned (.int .u64 (zz n : Nat)) ∧ w = w' := by
  by_cases h : n < 0
  · have HZ := Lib.hid (show ((zz n : Nat) : Int) = -2 * n - 1 by unfold zz; rw [if_neg (by omega)]; omega)
    go_enter Try.func48, Try.ntmps48
    go_wp2
    go_ret
    exact ⟨ret1 (by rw [HZ.out]; simp only [Array.getD_eq_getD_getElem?]; go_simp <;> omega), rfl⟩
  · have HZ := Lib.hid (show ((zz n : Nat) : Int) = 2 * n by unfold zz; rw [if_pos (by omega)]; omega)
    go_enter Try.func48, Try.ntmps48
    go_wp2
    go_ret
    exact ⟨ret1 (by rw [HZ.out]; simp only [Array.getD_eq_getD_getElem?]; go_simp <;> omega), rfl⟩

/-! ### put -/
/-- What a round of put finds. -/
def PutRel (base : Nat) (w : World) (all : Bytes) (v x : Value) (f m : Nat) (cs : Bytes) (wr : World) : Prop :=
  x = .int .u64 (m : Int) ∧ m < 2 * 128 ^ f ∧ f ≤ 9 ∧ cs ++ lebF f m = all ∧ wr.ownsRow base 5 1 v cs.length (bc cs) ∧ Below base w wr

theorem put_len {base : Nat} {w wr : World} {all cs : Bytes} {v x : Value} {f m : Nat} (h : PutRel base w all v x f m cs wr) : cs.length + 1 ≤ all.length := by
  have h1 := h.2.2.2.1
  rw [← h1, List.length_append]
  have := (lebF_length f m).1
  omega

theorem put_step {base : Nat} {w wr : World} {all cs : Bytes} {v x : Value} {f m : Nat} (h : PutRel base w all v x f m cs wr) (hm : 128 ≤ m) {v' : Value} {w' : World}
    (how : w'.ownsRow base 5 1 v' (cs.length + 1) (bc cs ++ [.int .u8 ((m % 128 + 128 : Nat) : Int)])) (hb : Below base w w') :
    PutRel base w all v' (.int .u64 ((m / 128 : Nat) : Int)) (f - 1) (m / 128) (cs ++ [UInt8.ofNat (m % 128 + 128)]) w' := by
  obtain ⟨_, h2, h3, h4, _, _⟩ := h
  obtain ⟨f, rfl⟩ : ∃ k, f = k + 1 := ⟨f - 1, by
    rcases Nat.eq_zero_or_pos f with h | h
    · subst h; simp at h2; omega
    · omega⟩
  refine ⟨rfl, ?_, by omega, ?_, ?_, hb⟩
  · simp only [Nat.add_sub_cancel]
    rw [Nat.pow_succ] at h2
    omega
  · rw [← h4, Nat.add_sub_cancel, List.append_assoc]
    conv => rhs; rw [lebF, if_neg (by omega)]
    rfl
  · rw [List.length_append, bc_append]
    have e : bc [UInt8.ofNat (m % 128 + 128)] = [.int .u8 ((m % 128 + 128 : Nat) : Int)] := by
      simp only [bc, List.map_cons, List.map_nil]
      rw [toNat_ofNat (by omega)]
    rw [e]
    exact how

theorem put_last {base : Nat} {w wr : World} {all cs : Bytes} {v x : Value} {f m : Nat} (h : PutRel base w all v x f m cs wr) (hm : ¬ 128 ≤ m) {v' : Value} {w' : World}
    (how : w'.ownsRow base 5 1 v' (cs.length + 1) (bc cs ++ [.int .u8 (m : Int)])) : w'.ownsRow base 5 1 v' all.length (bc all) := by
  obtain ⟨_, h2, h3, h4, _, _⟩ := h
  have e1 : lebF f m = [UInt8.ofNat m] := by
    cases f with
    | zero => rfl
    | succ f => rw [lebF, if_pos (by omega)]
  have e2 : bc [UInt8.ofNat m] = [.int .u8 (m : Int)] := by
    simp only [bc, List.map_cons, List.map_nil]
    rw [toNat_ofNat (by omega)]
  rw [← h4, e1, bc_append, e2, List.length_append]
  exact how

set_option maxRecDepth 100000 in
set_option maxHeartbeats 1000000 in
theorem put_any (base : Nat) (v : Value) (bs : Bytes) (x : Nat) (w : World) (hown : w.ownsRow base 5 1 v bs.length (bc bs)) (hbase : base ≤ w.heap.size) (hx : x < 18446744073709551616) (hb : bs.length ≤ 140737488355000) :
    Calls Try.prog 47 #[v, .int .u64 (x : Int)] w fun e w' => ∃ v', e = .returned v' ∧ w'.ownsRow base 5 1 v' (bs.length + (leb x).length) (bc (bs ++ leb x)) ∧ Below base w w' := by
  obtain ⟨i0, hi, hz0, hz1, hz2⟩ := info_parts info5
  have H := Lib.hid hown
  have HX := Lib.hid hx
  have hp : (128 : Nat) ^ 9 = 9223372036854775808 := by decide
  have HP := Lib.hid (show x < 2 * 128 ^ 9 by rw [hp]; exact hx)
  clear hown hx hp
  have hln : (bs ++ leb x).length ≤ 140737488355328 := by rw [List.length_append]; have := (leb_length x).2; omega
  have HAL := Lib.hid (show bs.length + (leb x).length = (bs ++ leb x).length by rw [List.length_append])
  have HLEN := Lib.hid hln
  clear hln
  generalize hall : bs ++ leb x = all at HAL HLEN
  have HA := Lib.hid hall
  clear hall
  go_enter Try.func47, Try.ntmps47
  go_wp2_with fail
  go_loopw [0, 1] (fun v y wr => ∃ (f m : Nat) (cs : Bytes), Hid (PutRel base w all v y f m cs wr) ∧ y = .int .u64 (m : Int)) (fun _ y _ => (intOf y).toNat)
  case atStart => exact ⟨9, x, bs, ⟨rfl, HP.out, Nat.le_refl _, HA.out, H.out, Below.refl _ _⟩, rfl⟩
  case round =>
    obtain ⟨f, m, cs, HR, rfl⟩ := hrel
    by_cases hm : 128 ≤ m
    · have EB := Lib.hid (or128 m)
      go_wp2_with (at_builtin; refine wpList_wp rfl (fun K hK => ?_); refine halt_here ?_)
      rw [EB.out]
      have hown2 := HR.out.2.2.2.2.1
      have hbel2 := HR.out.2.2.2.2.2
      have hlen := put_len HR.out
      refine go_on (wp_append (.tmp 7) (.tmp 11) 34 rfl base 5 i0 (.int .u8 0) 1 1 Try.underlying34 hi hz0 hz1 hz2 rfl (by decide) _ cs.length _ rfl (hown2.alloc _) _ 1 [.int .u8 ((m % 128 + 128 : Nat) : Int)] rfl ⟨_, _, rfl, cells_one wr _ 5⟩ (fun cap hc => by cases hc) rfl (one_of rfl) (by unfold maxLen; have := HLEN.out; omega) (by have := HLEN.out; omega) (size_alloc_le _ _ (Nat.le_trans hbase hbel2.size)) ?_)
      intro v' w' how' hgr'
      have HR2 := Lib.hid (put_step HR.out hm how' ((hbel2.alloc (Nat.le_trans hbase hbel2.size) _).grown hgr' (size_alloc_le _ _ (Nat.le_trans hbase hbel2.size)) (fun k hk => (hown2.lt k hk).1)))
      clear how' hgr' hown2 hbel2 hlen
      refine hK _ _ ?_
      clear hK K
      go_wp2_with fail
      go_roundw
      case rel => exact ⟨f - 1, m / 128, _, HR2, by go_num⟩
      case measure => simp [intOf]; omega
    · go_wp2_with (at_builtin; refine wpList_wp rfl (fun K hK => ?_); refine halt_here ?_)
      have hown2 := HR.out.2.2.2.2.1
      have hbel2 := HR.out.2.2.2.2.2
      have hlen := put_len HR.out
      refine go_on (wp_append (.tmp 15) (.tmp 18) 34 rfl base 5 i0 (.int .u8 0) 1 1 Try.underlying34 hi hz0 hz1 hz2 rfl (by decide) _ cs.length _ rfl (hown2.alloc _) _ 1 [.int .u8 (m : Int)] rfl ⟨_, _, rfl, cells_one wr _ 5⟩ (fun cap hc => by cases hc) rfl (one_of rfl) (by unfold maxLen; have := HLEN.out; omega) (by have := HLEN.out; omega) (size_alloc_le _ _ (Nat.le_trans hbase hbel2.size)) ?_)
      intro v' w' how' hgr'
      have HR2 := Lib.hid (put_last HR.out hm how')
      have HB2 := Lib.hid ((hbel2.alloc (Nat.le_trans hbase hbel2.size) (.cells #[.int .u8 (m : Int)] 5)).grown hgr' (size_alloc_le _ _ (Nat.le_trans hbase hbel2.size)) (fun k hk => (hown2.lt k hk).1))
      clear how' hgr' hown2 hbel2 hlen
      refine hK _ _ ?_
      clear hK K
      go_wp2_with fail
      go_ret
      refine ⟨_, rfl, ?_, HB2.out⟩
      rw [HAL.out]
      exact HR2.out

/-! ### Put, PutInt, PutBool -/
/-- The encodings of numbers, one behind the other. -/
def encU (l : List Nat) : Bytes := l.flatMap leb

theorem encU_take (l : List Nat) (k : Nat) (h : k < l.length) : encU (l.take (k + 1)) = encU (l.take k) ++ leb (l.getD k 0) := by
  unfold encU
  rw [List.take_succ_eq_append_getElem h, List.flatMap_append]
  simp [List.getD_eq_getElem?_getD, List.getElem?_eq_getElem h]

theorem encU_le (l : List Nat) (k : Nat) : (encU (l.take k)).length ≤ (encU l).length := by
  conv => rhs; rw [← List.take_append_drop k l]
  unfold encU
  rw [List.flatMap_append, List.length_append]
  omega

theorem uc_getD {l : List Nat} {k : Nat} (h : k < l.length) : (uc l)[k]? = some (.int .u64 ((l.getD k 0 : Nat) : Int)) := by
  simp [uc, List.getElem?_map, List.getElem?_eq_getElem h]

set_option maxRecDepth 100000 in
set_option maxHeartbeats 1000000 in
theorem Put_any (a : Option Addr) (n c : Nat) (bs : Bytes) (al : Option Addr) (m cl : Nat) (l : List Nat) (w : World) (h : CellsAt w a (bc bs)) (hnil : a = none → n = 0 ∧ c = 0) (hl : bs.length = n)
    (h2 : CellsAt w al (uc l)) (hl2 : l.length = m) (hm : m ≤ 4611686018427387904) (hw : ∀ x ∈ l, x < 18446744073709551616) (hb : bs.length + (encU l).length ≤ 140737488355000) :
    Calls Try.prog 24 #[.slice a n c, .slice al m cl] w fun e w' => ∃ v, e = .returned v ∧ w'.ownsRow w.heap.size 5 1 v (bs ++ encU l).length (bc (bs ++ encU l)) ∧ Below w.heap.size w w' := by
  have H := Lib.hid h
  have HN := Lib.hid hnil
  have HL := Lib.hid hl
  have H2 := Lib.hid h2
  have HL2 := Lib.hid hl2
  have HW := Lib.hid hw
  have HB := Lib.hid hb
  clear h hnil hl h2 hl2 hw hb
  go_enter Try.func24, Try.ntmps24
  go_wp2_with (go_at_call 42; refine halt_here ?_)
  refine go_on ((clone8 a n c bs w H.out HN.out HL.out (by have := HL.out; have := HB.out; omega)).mono ?_)
  rintro e w1 ⟨v0, rfl, how, hbel⟩
  have HOW := Lib.hid how
  clear how
  go_wp2_with fail
  go_loopw [5, 12] (fun v i wr => ∃ k : Nat, k ≤ m ∧ i = .int .i64 k ∧ Hid (wr.ownsRow w.heap.size 5 1 v (bs ++ encU (l.take k)).length (bc (bs ++ encU (l.take k)))) ∧ Below w.heap.size w wr) (fun _ i _ => m - (intOf i).toNat)
  case atStart => exact ⟨0, Nat.zero_le _, rfl, Lib.hid (by have h := HOW.out; rw [← HL.out] at h; simpa [encU] using h), hbel⟩
  case round =>
    obtain ⟨k, hk, rfl, HOW, hbel⟩ := hrel
    by_cases hlt : k < m
    · obtain ⟨b1, o1, rfl, g1⟩ := CellsAt.pos H2.out (by rw [uc, List.length_map, HL2.out]; omega)
      have e1 : wr.cell? ⟨b1, o1 + k, none⟩ = some (.int .u64 ((l.getD k 0 : Nat) : Int)) := by
        have := g1 k _ (uc_getD (by rw [HL2.out]; omega))
        rw [hbel.cell (World.block_lt_of_cell? w _ this)]; exact this
      have HS := Lib.hid (encU_take l k (by rw [HL2.out]; omega))
      have HX := Lib.hid (show l.getD k 0 < 18446744073709551616 from HW.out _ (by rw [List.getD_eq_getElem?_getD, List.getElem?_eq_getElem (by rw [HL2.out]; omega)]; exact List.getElem_mem _))
      have HLE := Lib.hid (encU_le l k)
      generalize l.getD k 0 = x at e1 HS HX
      clear g1
      go_wp2_with (go_at_call 47; refine halt_here ?_)
      refine go_on ((put_any w.heap.size _ (bs ++ encU (l.take k)) x _ HOW.out hbel.size HX.out (by rw [List.length_append]; have := HLE.out; have := HB.out; omega)).mono ?_)
      rintro e w2 ⟨v2, rfl, how2, hb2⟩
      have HW2 := Lib.hid (show w2.ownsRow w.heap.size 5 1 v2 (bs ++ encU (l.take (k + 1))).length (bc (bs ++ encU (l.take (k + 1)))) by rw [HS.out, ← List.append_assoc, List.length_append]; exact how2)
      clear how2
      go_wp2_with fail
      go_roundw
      case rel => exact ⟨k + 1, by omega, by go_num, HW2, hbel.trans hb2⟩
      case measure => simp [intOf]; omega
    · have hkm : l.take k = l := List.take_of_length_le (by rw [HL2.out]; omega)
      rw [hkm] at HOW
      clear hkm
      go_wp2_with fail
      go_ret
      exact ⟨_, rfl, HOW.out, hbel⟩

theorem uc_one (w : World) (n : Nat) : CellsAt (w.alloc (.cells #[.int .u64 (n : Int)] 28)) (some ⟨w.heap.size, 0, none⟩) (uc [n]) := cells_one w _ 28

/-- Put of one number. -/
theorem Put_one (a : Option Addr) (n c : Nat) (bs : Bytes) (x : Nat) (w : World) (p : Nat) (hp : p = w.heap.size) (h : CellsAt w a (bc bs)) (hnil : a = none → n = 0 ∧ c = 0) (hl : bs.length = n) (hx : x < 18446744073709551616) (hb : bs.length + (leb x).length ≤ 140737488355000) :
    Calls Try.prog 24 #[.slice a n c, .slice (some ⟨p, 0, none⟩) 1 1] (w.alloc (.cells #[.int .u64 (x : Int)] 28)) fun e w' => ∃ v, e = .returned v ∧ w'.ownsRow w.heap.size 5 1 v (bs ++ leb x).length (bc (bs ++ leb x)) ∧ Below w.heap.size w w' := by
  subst hp
  have hb1 : Below w.heap.size w (w.alloc (.cells #[.int .u64 (x : Int)] 28)) := (Below.refl _ _).alloc (Nat.le_refl _) _
  have e1 : encU [x] = leb x := by simp [encU]
  refine (Put_any a n c bs _ 1 1 [x] _ (h.below hb1) hnil hl (uc_one w x) rfl (by decide) (fun y hy => by simp at hy; omega) (by rw [e1]; exact hb)).mono ?_
  rintro e w' ⟨v, rfl, how, hb2⟩
  rw [e1] at how
  exact ⟨v, rfl, ownsRow_base how (by simp), hb1.trans (hb2.mono (by simp))⟩

set_option maxRecDepth 100000 in
theorem PutInt_any (a : Option Addr) (n c : Nat) (bs : Bytes) (x : Int) (w : World) (h : CellsAt w a (bc bs)) (hnil : a = none → n = 0 ∧ c = 0) (hl : bs.length = n) (h0 : -9223372036854775808 ≤ x) (h1 : x ≤ 9223372036854775807) (hb : bs.length + (encI x).length ≤ 140737488355000) :
    Calls Try.prog 25 #[.slice a n c, .int .i64 x] w fun e w' => ∃ v, e = .returned v ∧ w'.ownsRow w.heap.size 5 1 v (bs ++ encI x).length (bc (bs ++ encI x)) ∧ Below w.heap.size w w' := by
  have H := Lib.hid h
  have HN := Lib.hid hnil
  have HL := Lib.hid hl
  have HB := Lib.hid hb
  have HZ := Lib.hid (zz_lt x h0 h1)
  have H0 := Lib.hid h0
  have H1 := Lib.hid h1
  clear h hnil hl hb h0 h1
  go_enter Try.func25, Try.ntmps25
  go_wp2_with (go_at_call 48; refine halt_here ?_)
  refine go_on ((unsigned_any x w H0.out H1.out).mono ?_)
  rintro e w1 ⟨rfl, rfl⟩
  go_wp2_with (go_at_call 24; refine halt_here ?_)
  refine go_on ((Put_one a n c bs (zz x) w _ rfl H.out HN.out HL.out HZ.out HB.out).mono ?_)
  rintro e w2 ⟨v, rfl, how, hb2⟩
  have HOW := Lib.hid how
  clear how
  go_wp2_with fail
  go_ret
  exact ⟨_, rfl, HOW.out, hb2⟩

set_option maxRecDepth 100000 in
theorem PutBool_any (a : Option Addr) (n c : Nat) (bs : Bytes) (x : Bool) (w : World) (h : CellsAt w a (bc bs)) (hnil : a = none → n = 0 ∧ c = 0) (hl : bs.length = n) (hb : bs.length + (encB x).length ≤ 140737488355000) :
    Calls Try.prog 46 #[.slice a n c, .bool x] w fun e w' => ∃ v, e = .returned v ∧ w'.ownsRow w.heap.size 5 1 v (bs ++ encB x).length (bc (bs ++ encB x)) ∧ Below w.heap.size w w' := by
  have H := Lib.hid h
  have HN := Lib.hid hnil
  have HL := Lib.hid hl
  have HB := Lib.hid hb
  clear h hnil hl hb
  cases x with
  | true =>
    go_enter Try.func46, Try.ntmps46
    go_wp2_with (go_at_call 24; refine halt_here ?_)
    refine go_on ((Put_one a n c bs 1 w _ rfl H.out HN.out HL.out (by decide) HB.out).mono ?_)
    rintro e w2 ⟨v, rfl, how, hb2⟩
    have HOW := Lib.hid how
    clear how
    go_wp2_with fail
    go_ret
    exact ⟨_, rfl, HOW.out, hb2⟩
  | false =>
    go_enter Try.func46, Try.ntmps46
    go_wp2_with (go_at_call 24; refine halt_here ?_)
    refine go_on ((Put_one a n c bs 0 w _ rfl H.out HN.out HL.out (by decide) HB.out).mono ?_)
    rintro e w2 ⟨v, rfl, how, hb2⟩
    have HOW := Lib.hid how
    clear how
    go_wp2_with fail
    go_ret
    exact ⟨_, rfl, HOW.out, hb2⟩
end Go.Proofs.Ytbcpdjhpceimlaa
