/-
  The contracts of the writing functions of layer 4's reference.
-/
import Derived.Test.YtbcpdjhpceimlaaPutInts
import Derived.Laws.IdiomStrings
namespace Go.Proofs.Ytbcpdjhpceimlaa
open Go.ChangeShapes Go.WideShapes Go.ChangeAt Go.RowKit
set_option linter.unusedVariables false

theorem wp_make0 {P : Program} {w : World} {o : Oper} {a : Act} {K : Act → World → Prop} {Q : Exit → Act → World → Prop} (t : TypeId) (l c : Operand) (hop : o.op = .makeSlice t l c)
    (base : Nat) (e : TypeId) (i : TypeInfo) (z : Value) (size : Nat) (ht : P.underlying t = some (.slice e)) (hi : P.info? e = some i) (hz : i.zero = some z) (hsize : i.size = size)
    (kl kc : IntKind) (n : Nat) (hl : a.eval l = .int kl 0) (hc : a.eval c = .int kc (n : Int)) (hbytes : i.bytes * n ≤ 281474976710656) (h63 : n ≤ maxLen) (hbase : base ≤ w.heap.size)
    (hK : ∀ w', w'.ownsRow base e size (.slice (some ⟨w.heap.size, 0, none⟩) 0 n) 0 [] → w.grownBy w' none → K (a.put o.dst (.slice (some ⟨w.heap.size, 0, none⟩) 0 n)) w') : o.wp P a w K Q := by
  obtain ⟨w', hrun, r1, r2⟩ := run_make_own (P := P) w base t e i z size ht hi hz hsize kl kc n hbytes h63 hbase
  unfold Oper.wp
  simp [execOp, hop, hl, hc, hrun, Result.andThen]
  exact hK w' r1 r2

set_option maxRecDepth 100000 in
set_option maxHeartbeats 1000000 in
theorem after_any (a : Option Addr) (n c : Nat) (xs : Bytes) (a2 : Option Addr) (n2 c2 : Nat) (ys : Bytes) (w : World) (h : CellsAt w a (bc xs)) (hnil : a = none → n = 0 ∧ c = 0) (hl : xs.length = n)
    (h2 : CellsAt w a2 (bc ys)) (hnil2 : a2 = none → n2 = 0 ∧ c2 = 0) (hl2 : ys.length = n2) (hb : n + n2 ≤ 140737488355328) :
    Calls Try.prog 49 #[.slice a n c, .slice a2 n2 c2] w fun e w' => ∃ v, e = .returned v ∧ w'.ownsRow w.heap.size 5 1 v (xs ++ ys).length (bc (xs ++ ys)) ∧ Below w.heap.size w w' := by
  obtain ⟨i0, hi, hz0, hz1, hz2⟩ := info_parts info5
  have H := Lib.hid h
  have HN := Lib.hid hnil
  have HL := Lib.hid hl
  have H2 := Lib.hid h2
  have HN2 := Lib.hid hnil2
  have HL2 := Lib.hid hl2
  clear h hnil hl h2 hnil2 hl2
  obtain ⟨m, hm⟩ : ∃ m, n + n2 = m := ⟨_, rfl⟩
  have HM := Lib.hid hm
  have hw1 : IntKind.i64.wrap ((n : Int) + (n2 : Int)) = (m : Int) := by rw [wrapI _ (by omega) (by omega)]; omega
  rw [hm] at hb
  clear hm
  go_enter Try.func49, Try.ntmps49
  go_wp2_with (at_make; refine wpList_wp rfl (fun K hK => ?_); refine halt_here ?_)
  refine go_on (wp_make0 34 _ (.tmp 10) rfl w.heap.size 5 i0 (.int .u8 0) 1 Try.underlying34 hi hz0 hz1 .i64 .i64 m rfl rfl (by rw [hz2]; omega) (by unfold maxLen; omega) (Nat.le_refl _) ?_)
  intro w1 how hg
  have HOW := Lib.hid how
  have HB := Lib.hid (grown_below hg)
  clear how hg
  refine hK _ _ ?_
  clear hK K
  go_wp2_with (at_builtin; refine wpList_wp rfl (fun K hK => ?_); refine halt_here ?_)
  refine go_on (wp_append (.tmp 12) (.tmp 13) 34 rfl w.heap.size 5 i0 (.int .u8 0) 1 1 Try.underlying34 hi hz0 hz1 hz2 rfl (by decide) _ 0 [] rfl HOW.out _ n (bc xs) rfl ⟨_, _, rfl, H.out.below HB.out⟩ (fun cap hc => by cases hc; exact (HN.out rfl).2) (by rw [bc_length, HL.out]; omega) (one_bc xs) (by unfold maxLen; have := HM.out; omega) (by have := HM.out; omega) HB.out.size ?_)
  intro v1 w2 hown1 hgr1
  rw [List.nil_append, Nat.zero_add] at hown1
  have HB2 := Lib.hid (HB.out.grown hgr1 HB.out.size (fun k hk => (HOW.out.lt k hk).1))
  have HOW2 := Lib.hid hown1
  clear hown1 hgr1
  refine hK _ _ ?_
  clear hK K
  go_wp2_with (at_builtin; refine wpList_wp rfl (fun K hK => ?_); refine halt_here ?_)
  refine go_on (wp_append (.tmp 15) (.tmp 16) 34 rfl w.heap.size 5 i0 (.int .u8 0) 1 1 Try.underlying34 hi hz0 hz1 hz2 rfl (by decide) _ n (bc xs) rfl HOW2.out _ n2 (bc ys) rfl ⟨_, _, rfl, H2.out.below HB2.out⟩ (fun cap hc => by cases hc; exact (HN2.out rfl).2) (by rw [bc_length, HL2.out]; omega) (one_bc ys) (by unfold maxLen; have := HM.out; omega) (by have := HM.out; omega) HB2.out.size ?_)
  intro v2 w3 hown2 hgr2
  have HB3 := Lib.hid (HB2.out.grown hgr2 HB2.out.size (fun k hk => (HOW2.out.lt k hk).1))
  have HOW3 := Lib.hid (show w3.ownsRow w.heap.size 5 1 v2 (xs ++ ys).length (bc (xs ++ ys)) by rw [bc_append, List.length_append, HL.out, HL2.out]; exact hown2)
  clear hown2 hgr2
  refine hK _ _ ?_
  clear hK K
  go_wp2_with fail
  go_ret
  exact ⟨_, rfl, HOW3.out, HB3.out⟩

/-! ### one -/
theorem put_quo {base : Nat} {w wr : World} {all cs : Bytes} {v x : Value} {f m : Nat} (h : PutRel base w all v x f m cs wr) : IntKind.u64.wrap ((m : Int) / 128) = ((m / 128 : Nat) : Int) := by
  obtain ⟨_, h1, h2, _⟩ := h
  have h3 : 128 ^ f ≤ 128 ^ 9 := Nat.pow_le_pow_right (by decide) h2
  have h4 : (128 : Nat) ^ 9 = 9223372036854775808 := by decide
  rw [wrapU _ (by omega) (by omega)]
  omega

set_option maxRecDepth 100000 in
set_option maxHeartbeats 1000000 in
theorem one_any (x : Nat) (w : World) (hx : x < 18446744073709551616) :
    Calls Try.prog 50 #[.int .u64 (x : Int)] w fun e w' => ∃ v', e = .returned v' ∧ w'.ownsRow w.heap.size 5 1 v' (leb x).length (bc (leb x)) ∧ Below w.heap.size w w' := by
  obtain ⟨i0, hi, hz0, hz1, hz2⟩ := info_parts info5
  have HX := Lib.hid hx
  have hp : (128 : Nat) ^ 9 = 9223372036854775808 := by decide
  have HP := Lib.hid (show x < 2 * 128 ^ 9 by rw [hp]; exact hx)
  clear hx hp
  have hln : (leb x).length ≤ 10 := (leb_length x).2
  have HLEN := Lib.hid hln
  clear hln
  generalize hall : leb x = all at HLEN
  have HA := Lib.hid hall
  clear hall
  go_enter Try.func50, Try.ntmps50
  go_wp2_with fail
  go_loopw [3, 0] (fun v y wr => ∃ (f m : Nat) (cs : Bytes), Hid (PutRel w.heap.size w all v y f m cs wr) ∧ y = .int .u64 (m : Int)) (fun _ y _ => (intOf y).toNat)
  case atStart => exact ⟨9, x, [], ⟨rfl, HP.out, Nat.le_refl _, HA.out, World.ownsRow_nil _ _ _ _, Below.refl _ _⟩, rfl⟩
  case round =>
    obtain ⟨f, m, cs, HR, rfl⟩ := hrel
    by_cases hm : 128 ≤ m
    · have hwq : IntKind.u64.wrap ((m : Int) / 128) = ((m / 128 : Nat) : Int) := put_quo HR.out
      have EB := Lib.hid (show (m : Int) % 128 + 128 = ((m % 128 + 128 : Nat) : Int) by omega)
      go_wp2_with (at_builtin; refine wpList_wp rfl (fun K hK => ?_); refine halt_here ?_)
      have hown2 := HR.out.2.2.2.2.1
      have hbel2 := HR.out.2.2.2.2.2
      have hlen := put_len HR.out
      rw [EB.out]
      refine go_on (wp_append (.tmp 6) (.tmp 11) 34 rfl w.heap.size 5 i0 (.int .u8 0) 1 1 Try.underlying34 hi hz0 hz1 hz2 rfl (by decide) _ cs.length _ rfl (hown2.alloc _) _ 1 [.int .u8 ((m % 128 + 128 : Nat) : Int)] rfl ⟨_, _, rfl, cells_one wr _ 5⟩ (fun cap hc => by cases hc) rfl (one_of rfl) (by unfold maxLen; have := HLEN.out; omega) (by have := HLEN.out; omega) (size_alloc_le _ _ hbel2.size) ?_)
      intro v' w' how' hgr'
      have HR2 := Lib.hid (put_step HR.out hm how' ((hbel2.alloc hbel2.size _).grown hgr' (size_alloc_le _ _ hbel2.size) (fun k hk => (hown2.lt k hk).1)))
      clear how' hgr' hown2 hbel2 hlen
      refine hK _ _ ?_
      clear hK K
      go_wp2_with fail
      go_roundw
      case rel => exact ⟨f - 1, m / 128, _, HR2, by go_num⟩
      case measure => simp [intOf]; omega
    · go_wp2_with (at_builtin; refine wpList_wp rfl (fun K hK => ?_); refine halt_here ?_)
      have hown2 := HR.out.2.2.2.2.1
      have hbel2 := HR.out.2.2.2.2.2
      have hlen := put_len HR.out
      refine go_on (wp_append (.tmp 15) (.tmp 18) 34 rfl w.heap.size 5 i0 (.int .u8 0) 1 1 Try.underlying34 hi hz0 hz1 hz2 rfl (by decide) _ cs.length _ rfl (hown2.alloc _) _ 1 [.int .u8 (m : Int)] rfl ⟨_, _, rfl, cells_one wr _ 5⟩ (fun cap hc => by cases hc) rfl (one_of rfl) (by unfold maxLen; have := HLEN.out; omega) (by have := HLEN.out; omega) (size_alloc_le _ _ hbel2.size) ?_)
      intro v' w' how' hgr'
      have HR2 := Lib.hid (put_last HR.out hm how')
      have HB2 := Lib.hid ((hbel2.alloc hbel2.size (.cells #[.int .u8 (m : Int)] 5)).grown hgr' (size_alloc_le _ _ hbel2.size) (fun k hk => (hown2.lt k hk).1))
      clear how' hgr' hown2 hbel2 hlen
      refine hK _ _ ?_
      clear hK K
      go_wp2_with fail
      go_ret
      exact ⟨_, rfl, HR2.out, HB2.out⟩

/-! ### Put, PutInt, PutBool, PutText, PutInts -/
theorem runsigned_any (n : Int) (w : World) (h0 : -9223372036854775808 ≤ n) (h1 : n ≤ 9223372036854775807) :
    Calls Try.prog 86 #[.int .i64 n] w fun e w' => e = .returned (.int .u64 (zz n : Nat)) ∧ w = w' := by
  by_cases h : n < 0
  · have HZ := Lib.hid (show ((zz n : Nat) : Int) = -2 * n - 1 by unfold zz; rw [if_neg (by omega)]; omega)
    go_enter Try.func86, Try.ntmps86
    go_wp2
    go_ret
    exact ⟨ret1 (by rw [HZ.out]; simp only [Array.getD_eq_getD_getElem?]; go_simp <;> omega), rfl⟩
  · have HZ := Lib.hid (show ((zz n : Nat) : Int) = 2 * n by unfold zz; rw [if_pos (by omega)]; omega)
    go_enter Try.func86, Try.ntmps86
    go_wp2
    go_ret
    exact ⟨ret1 (by rw [HZ.out]; simp only [Array.getD_eq_getD_getElem?]; go_simp <;> omega), rfl⟩

/-- What a writing function leaves: a new row with these bytes. -/
def Wrote (w : World) (bs : Bytes) (e : Ending) (w' : World) : Prop := ∃ v, e = .returned v ∧ w'.ownsRow w.heap.size 5 1 v bs.length (bc bs) ∧ Below w.heap.size w w'

theorem own_open {w : World} {base : Nat} {v : Value} {bs : Bytes} (h : w.ownsRow base 5 1 v bs.length (bc bs)) : ∃ a n c, v = .slice a n c ∧ Hid (bs.length = n) ∧ Hid (CellsAt w a (bc bs)) ∧ Hid (a = none → n = 0 ∧ c = 0) := by
  obtain ⟨a, c, rfl, hc⟩ := ownsRow_rd h
  exact ⟨a, _, c, rfl, Lib.hid rfl, Lib.hid hc, Lib.hid (own_nil h)⟩

set_option maxRecDepth 100000 in
set_option maxHeartbeats 1000000 in
theorem RPut_any (a : Option Addr) (n c : Nat) (bs : Bytes) (al : Option Addr) (m cl : Nat) (l : List Nat) (w : World) (h : CellsAt w a (bc bs)) (hnil : a = none → n = 0 ∧ c = 0) (hl : bs.length = n)
    (h2 : CellsAt w al (uc l)) (hl2 : l.length = m) (hm : m ≤ 4611686018427387904) (hw : ∀ x ∈ l, x < 18446744073709551616) (hb : bs.length + (encU l).length ≤ 140737488355000) :
    Calls Try.prog 26 #[.slice a n c, .slice al m cl] w (Wrote w (bs ++ encU l)) := by
  have H := Lib.hid h
  have HN := Lib.hid hnil
  have HL := Lib.hid hl
  have H2 := Lib.hid h2
  have HL2 := Lib.hid hl2
  have HW := Lib.hid hw
  have HB := Lib.hid hb
  clear h hnil hl h2 hl2 hw hb
  go_enter Try.func26, Try.ntmps26
  go_wp2_with (go_at_call 49; refine halt_here ?_)
  refine go_on ((after_any a n c bs none 0 0 [] w H.out HN.out HL.out (CellsAt.nil _ _) (fun _ => ⟨rfl, rfl⟩) rfl (by have := HL.out; have := HB.out; omega)).mono ?_)
  rintro e w1 ⟨v0, rfl, how, hbel⟩
  have HOW := Lib.hid how
  clear how
  go_wp2_with fail
  go_loopw [5, 6] (fun v i wr => ∃ k : Nat, k ≤ m ∧ i = .int .i64 k ∧ Hid (wr.ownsRow w.heap.size 5 1 v (bs ++ encU (l.take k)).length (bc (bs ++ encU (l.take k)))) ∧ Below w.heap.size w wr) (fun _ i _ => m - (intOf i).toNat)
  case atStart => exact ⟨0, Nat.zero_le _, rfl, Lib.hid (by simpa [encU] using HOW.out), hbel⟩
  case round =>
    obtain ⟨k, hk, rfl, HOW, hbel⟩ := hrel
    by_cases hlt : k < m
    · obtain ⟨b1, o1, rfl, g1⟩ := CellsAt.pos H2.out (by rw [uc, List.length_map, HL2.out]; omega)
      have e1 : wr.cell? ⟨b1, o1 + k, none⟩ = some (.int .u64 ((l.getD k 0 : Nat) : Int)) := by
        have := g1 k _ (uc_getD (by rw [HL2.out]; omega))
        rw [hbel.cell (World.block_lt_of_cell? w _ this)]; exact this
      have HS := Lib.hid (encU_take l k (by rw [HL2.out]; omega))
      have HX := Lib.hid (show l.getD k 0 < 18446744073709551616 from HW.out _ (by rw [List.getD_eq_getElem?_getD, List.getElem?_eq_getElem (by rw [HL2.out]; omega)]; exact List.getElem_mem _))
      have HLE := Lib.hid (show (encU (l.take k)).length + (leb (l.getD k 0)).length ≤ (encU l).length by have := encU_le l (k + 1); rw [HS.out, List.length_append] at this; exact this)
      generalize l.getD k 0 = x at e1 HS HX HLE
      clear g1
      obtain ⟨va, vn, vc, rfl, HVL, HVA, HVN⟩ := own_open HOW.out
      go_wp2_with (go_at_call 50; refine halt_here ?_)
      refine go_on ((one_any x wr HX.out).mono ?_)
      rintro e w2 ⟨v2, rfl, how2, hb2⟩
      obtain ⟨xa, xn, xc, rfl, HXL, HXA, HXN⟩ := own_open how2
      have HB2 := Lib.hid hb2
      clear how2 hb2
      go_wp2_with (go_at_call 49; refine halt_here ?_)
      refine go_on ((after_any va vn vc (bs ++ encU (l.take k)) xa xn xc (leb x) w2 (HVA.out.below HB2.out) HVN.out HVL.out HXA.out HXN.out HXL.out (by rw [← HVL.out, ← HXL.out, List.length_append]; have := HLE.out; have := HB.out; omega)).mono ?_)
      rintro e w3 ⟨v3, rfl, how3, hb3⟩
      have HW2 := Lib.hid (show w3.ownsRow w.heap.size 5 1 v3 (bs ++ encU (l.take (k + 1))).length (bc (bs ++ encU (l.take (k + 1)))) by rw [HS.out, ← List.append_assoc]; exact ownsRow_base how3 (Nat.le_trans hbel.size HB2.out.size))
      have HB3 := hbel.trans ((HB2.out.trans (hb3.mono HB2.out.size)).mono hbel.size)
      clear how3 hb3
      go_wp2_with fail
      go_roundw
      case rel => exact ⟨k + 1, by omega, by go_num, HW2, HB3⟩
      case measure => simp [intOf]; omega
    · have hkm : l.take k = l := List.take_of_length_le (by rw [HL2.out]; omega)
      rw [hkm] at HOW
      clear hkm
      go_wp2_with fail
      go_ret
      exact ⟨_, rfl, HOW.out, hbel⟩

/-- Put of one number. -/
theorem RPut_one (a : Option Addr) (n c : Nat) (bs : Bytes) (x : Nat) (w : World) (p : Nat) (hp : p = w.heap.size) (h : CellsAt w a (bc bs)) (hnil : a = none → n = 0 ∧ c = 0) (hl : bs.length = n) (hx : x < 18446744073709551616) (hb : bs.length + (leb x).length ≤ 140737488355000) :
    Calls Try.prog 26 #[.slice a n c, .slice (some ⟨p, 0, none⟩) 1 1] (w.alloc (.cells #[.int .u64 (x : Int)] 28)) (Wrote w (bs ++ leb x)) := by
  subst hp
  have hb1 : Below w.heap.size w (w.alloc (.cells #[.int .u64 (x : Int)] 28)) := (Below.refl _ _).alloc (Nat.le_refl _) _
  have e1 : encU [x] = leb x := by simp [encU]
  refine (RPut_any a n c bs _ 1 1 [x] _ (h.below hb1) hnil hl (uc_one w x) rfl (by decide) (fun y hy => by simp at hy; omega) (by rw [e1]; exact hb)).mono ?_
  rintro e w' ⟨v, rfl, how, hb2⟩
  rw [e1] at how
  exact ⟨v, rfl, ownsRow_base how (by simp), hb1.trans (hb2.mono (by simp))⟩

set_option maxRecDepth 100000 in
theorem RPutInt_any (a : Option Addr) (n c : Nat) (bs : Bytes) (x : Int) (w : World) (h : CellsAt w a (bc bs)) (hnil : a = none → n = 0 ∧ c = 0) (hl : bs.length = n) (h0 : -9223372036854775808 ≤ x) (h1 : x ≤ 9223372036854775807) (hb : bs.length + (encI x).length ≤ 140737488355000) :
    Calls Try.prog 52 #[.slice a n c, .int .i64 x] w (Wrote w (bs ++ encI x)) := by
  have H := Lib.hid h
  have HN := Lib.hid hnil
  have HL := Lib.hid hl
  have HB := Lib.hid hb
  have HZ := Lib.hid (zz_lt x h0 h1)
  have H0 := Lib.hid h0
  have H1 := Lib.hid h1
  clear h hnil hl hb h0 h1
  go_enter Try.func52, Try.ntmps52
  go_wp2_with (go_at_call 86; refine halt_here ?_)
  refine go_on ((runsigned_any x w H0.out H1.out).mono ?_)
  rintro e w1 ⟨rfl, rfl⟩
  go_wp2_with (go_at_call 26; refine halt_here ?_)
  refine go_on ((RPut_one a n c bs (zz x) w _ rfl H.out HN.out HL.out HZ.out HB.out).mono ?_)
  rintro e w2 ⟨v, rfl, how, hb2⟩
  have HOW := Lib.hid how
  clear how
  go_wp2_with fail
  go_ret
  exact ⟨_, rfl, HOW.out, hb2⟩

set_option maxRecDepth 100000 in
theorem RPutBool_any (a : Option Addr) (n c : Nat) (bs : Bytes) (x : Bool) (w : World) (h : CellsAt w a (bc bs)) (hnil : a = none → n = 0 ∧ c = 0) (hl : bs.length = n) (hb : bs.length + (encB x).length ≤ 140737488355000) :
    Calls Try.prog 53 #[.slice a n c, .bool x] w (Wrote w (bs ++ encB x)) := by
  have H := Lib.hid h
  have HN := Lib.hid hnil
  have HL := Lib.hid hl
  have HB := Lib.hid hb
  clear h hnil hl hb
  cases x with
  | true =>
    go_enter Try.func53, Try.ntmps53
    go_wp2_with (go_at_call 26; refine halt_here ?_)
    refine go_on ((RPut_one a n c bs 1 w _ rfl H.out HN.out HL.out (by decide) HB.out).mono ?_)
    rintro e w2 ⟨v, rfl, how, hb2⟩
    have HOW := Lib.hid how
    clear how
    go_wp2_with fail
    go_ret
    exact ⟨_, rfl, HOW.out, hb2⟩
  | false =>
    go_enter Try.func53, Try.ntmps53
    go_wp2_with (go_at_call 26; refine halt_here ?_)
    refine go_on ((RPut_one a n c bs 0 w _ rfl H.out HN.out HL.out (by decide) HB.out).mono ?_)
    rintro e w2 ⟨v, rfl, how, hb2⟩
    have HOW := Lib.hid how
    clear how
    go_wp2_with fail
    go_ret
    exact ⟨_, rfl, HOW.out, hb2⟩

set_option maxRecDepth 100000 in
set_option maxHeartbeats 1000000 in
theorem RPutInts_any (a : Option Addr) (n c : Nat) (bs : Bytes) (al : Option Addr) (m cl : Nat) (l : List Int) (w : World) (h : CellsAt w a (bc bs)) (hnil : a = none → n = 0 ∧ c = 0) (hl : bs.length = n)
    (h2 : CellsAt w al (ic l)) (hl2 : l.length = m) (hm : m ≤ 4611686018427387904) (hw : ∀ x ∈ l, -9223372036854775808 ≤ x ∧ x ≤ 9223372036854775807) (hb : bs.length + (encL l).length ≤ 140737488355000) :
    Calls Try.prog 55 #[.slice a n c, .slice al m cl] w (Wrote w (bs ++ encL l)) := by
  have H := Lib.hid h
  have HN := Lib.hid hnil
  have HL := Lib.hid hl
  have H2 := Lib.hid h2
  have HL2 := Lib.hid hl2
  have HW := Lib.hid hw
  have HB := Lib.hid (show bs.length + (leb m).length + (encIs l).length ≤ 140737488355000 by rw [encL_eq, List.length_append, hl2] at hb; omega)
  have HEQ := Lib.hid (show bs ++ encL l = bs ++ leb m ++ encIs l by rw [encL_eq, hl2, List.append_assoc])
  have hmw : IntKind.u64.wrap (m : Int) = (m : Int) := wrapU _ (by omega) (by omega)
  clear h hnil hl h2 hl2 hw hb
  go_enter Try.func55, Try.ntmps55
  go_wp2_with (go_at_call 26; refine halt_here ?_)
  refine go_on ((RPut_one a n c bs m w _ rfl H.out HN.out HL.out (by omega) (by have := HB.out; omega)).mono ?_)
  rintro e w1 ⟨v0, rfl, how, hbel⟩
  have HOW := Lib.hid how
  clear how
  go_wp2_with fail
  go_loopw [5, 6] (fun v i wr => ∃ k : Nat, k ≤ m ∧ i = .int .i64 k ∧ Hid (wr.ownsRow w.heap.size 5 1 v (bs ++ leb m ++ encIs (l.take k)).length (bc (bs ++ leb m ++ encIs (l.take k)))) ∧ Below w.heap.size w wr) (fun _ i _ => m - (intOf i).toNat)
  case atStart => exact ⟨0, Nat.zero_le _, rfl, Lib.hid (by simpa [encIs] using HOW.out), hbel⟩
  case round =>
    obtain ⟨k, hk, rfl, HOW, hbel⟩ := hrel
    by_cases hlt : k < m
    · obtain ⟨b1, o1, rfl, g1⟩ := CellsAt.pos H2.out (by rw [ic, List.length_map, HL2.out]; omega)
      have e1 : wr.cell? ⟨b1, o1 + k, none⟩ = some (.int .i64 (l.getD k 0)) := by
        have := g1 k _ (ic_getD (by rw [HL2.out]; omega))
        rw [hbel.cell (World.block_lt_of_cell? w _ this)]; exact this
      have HS := Lib.hid (encIs_take l k (by rw [HL2.out]; omega))
      have HX := Lib.hid (show -9223372036854775808 ≤ l.getD k 0 ∧ l.getD k 0 ≤ 9223372036854775807 from HW.out _ (by rw [List.getD_eq_getElem?_getD, List.getElem?_eq_getElem (by rw [HL2.out]; omega)]; exact List.getElem_mem _))
      have HLE := Lib.hid (show (encIs (l.take k)).length + (encI (l.getD k 0)).length ≤ (encIs l).length by have := encIs_le l (k + 1); rw [HS.out, List.length_append] at this; exact this)
      generalize l.getD k 0 = x at e1 HS HX HLE
      clear g1
      obtain ⟨va, vn, vc, rfl, HVL, HVA, HVN⟩ := own_open HOW.out
      go_wp2_with (go_at_call 52; refine halt_here ?_)
      refine go_on ((RPutInt_any va vn vc (bs ++ leb m ++ encIs (l.take k)) x wr HVA.out HVN.out HVL.out HX.out.1 HX.out.2 (by rw [List.length_append, List.length_append]; have := HLE.out; have := HB.out; omega)).mono ?_)
      rintro e w2 ⟨v2, rfl, how2, hb2⟩
      have HW2 := Lib.hid (show w2.ownsRow w.heap.size 5 1 v2 (bs ++ leb m ++ encIs (l.take (k + 1))).length (bc (bs ++ leb m ++ encIs (l.take (k + 1)))) by rw [HS.out, ← List.append_assoc]; exact ownsRow_base how2 hbel.size)
      have HB3 := hbel.trans (hb2.mono hbel.size)
      clear how2 hb2
      go_wp2_with fail
      go_roundw
      case rel => exact ⟨k + 1, by omega, by go_num, HW2, HB3⟩
      case measure => simp [intOf]; omega
    · have hkm : l.take k = l := List.take_of_length_le (by rw [HL2.out]; omega)
      rw [hkm] at HOW
      clear hkm
      go_wp2_with fail
      go_ret
      refine ⟨_, rfl, ?_, hbel⟩
      rw [HEQ.out]
      exact HOW.out

theorem bytesRow_cells (w : World) (s : ByteArray) (cap : Nat) (e : TypeId) (fr : Nat × Nat) : CellsAt (w.alloc (.cells (bytesRow s cap) e fr)) (some ⟨w.heap.size, 0, none⟩) (bc s.data.toList) := by
  refine .inr ⟨w.heap.size, 0, rfl, fun j u hj => ?_⟩
  rw [cell_of_row (w.alloc _) w.heap.size (0 + j) _ e fr (heap_alloc_new w _), Nat.zero_add]
  have hlt : j < s.data.size := by
    have := (List.getElem?_eq_some_iff.1 hj).1
    simpa [bc] using this
  rw [bytesRow_at s cap j hlt, ← hj]
  rw [bc, List.getElem?_map, Array.getElem?_toList, Array.getElem?_eq_getElem hlt]
  rfl

set_option maxRecDepth 100000 in
set_option maxHeartbeats 1000000 in
theorem RPutText_any (a : Option Addr) (n c : Nat) (bs : Bytes) (s : ByteArray) (w : World) (h : CellsAt w a (bc bs)) (hnil : a = none → n = 0 ∧ c = 0) (hl : bs.length = n) (hb : bs.length + (encT s.data.toList).length ≤ 140737488355000) :
    Calls Try.prog 54 #[.slice a n c, .string s] w (Wrote w (bs ++ encT s.data.toList)) := by
  have H := Lib.hid h
  have HN := Lib.hid hnil
  have HL := Lib.hid hl
  have hsz : s.data.toList.length = s.size := by rw [Array.length_toList]; rfl
  have HE := Lib.hid (show encT s.data.toList = leb s.size ++ s.data.toList by rw [encT, hsz])
  have hb2 : bs.length + (leb s.size).length + s.size ≤ 140737488355000 := by rw [HE.out, List.length_append, hsz] at hb; omega
  have HSZ := Lib.hid hsz
  have HB := Lib.hid hb2
  clear h hnil hl hb hb2 hsz
  have hwr : IntKind.u64.wrap (s.size : Int) = (s.size : Int) := wrapU _ (by omega) (by have := HB.out; omega)
  have hcv2 := fun w => run_bytes_of_string (P := Try.prog) w 9 34 5 s Try.underlying9 Try.underlying34 Try.underlying5
  go_enter Try.func54, Try.ntmps54
  go_wp2_with (go_at_call 26; refine halt_here ?_)
  refine go_on ((RPut_one a n c bs s.size w _ rfl H.out HN.out HL.out (by have := HB.out; omega) (by have := HB.out; omega)).mono ?_)
  rintro e w1 ⟨v, rfl, how, hb2⟩
  obtain ⟨va, vn, vc, rfl, HVL, HVA, HVN⟩ := own_open how
  have HB2 := Lib.hid hb2
  clear how hb2
  go_wp2_with (go_at_call 49; refine halt_here ?_)
  have hd : Below w1.heap.size w1 (w1.alloc (.cells (bytesRow s (grownCap w1 s.size 0 5)) 5 ((bytesRow s (grownCap w1 s.size 0 5)).size, (bytesRow s (grownCap w1 s.size 0 5)).size + 1))).drew := ((Below.refl _ _).alloc (Nat.le_refl _) _).drew
  have HD := Lib.hid hd
  clear hd hcv2
  refine go_on ((after_any va vn vc (bs ++ leb s.size) _ s.size _ s.data.toList _ (HVA.out.below HD.out) HVN.out HVL.out (bytesRow_cells w1 s _ 5 _) (fun h => by cases h) HSZ.out (by rw [← HVL.out, List.length_append]; have := HB.out; omega)).mono ?_)
  rintro e w3 ⟨v3, rfl, how3, hb3⟩
  have HB3 := Lib.hid (HB2.out.trans ((HD.out.trans (hb3.mono HD.out.size)).mono HB2.out.size))
  have HOW3 := Lib.hid (show w3.ownsRow w.heap.size 5 1 v3 (bs ++ encT s.data.toList).length (bc (bs ++ encT s.data.toList)) by rw [HE.out, ← List.append_assoc]; exact ownsRow_base how3 (Nat.le_trans HB2.out.size HD.out.size))
  clear how3 hb3
  go_wp2_with fail
  go_ret
  exact ⟨_, rfl, HOW3.out, HB3.out⟩
end Go.Proofs.Ytbcpdjhpceimlaa
