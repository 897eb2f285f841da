/-
  The laws' writing of a value, by the program and by the reference.
-/
import Derived.Test.YtbcpdjhpceimlaaRefPut
import Derived.Test.YtbcpdjhpceimlaaSch
namespace Go.Proofs.Ytbcpdjhpceimlaa
open Go.ChangeShapes Go.WideShapes Go.ChangeAt Go.RowKit
set_option linter.unusedVariables false

/-- What a value of layer 4's laws is written as. -/
def encVal (k : Int) (u : Nat) (n : Int) (s : Bytes) (l : List Int) : Bytes :=
  if k = 0 then leb u else if k = 1 then encI n else if k = 2 then encB (decide (0 < n)) else if k = 3 then encT s else encL l

set_option maxRecDepth 100000 in
set_option maxHeartbeats 1000000 in
theorem valput_any (a : Option Addr) (n c : Nat) (bs : Bytes) (kk : Int) (u : Nat) (nn : Int) (s : ByteArray) (la : Option Addr) (ln lc : Nat) (l : List Int) (w : World) (h : CellsAt w a (bc bs)) (hnil : a = none → n = 0 ∧ c = 0) (hl : bs.length = n)
    (hu : u < 18446744073709551616) (hn : In64 nn) (hL : Rep (Old w) w .l (.l l) (.slice la ln lc)) (hln : ln ≤ 4611686018427387904) (hb : bs.length + (encVal kk u nn s.data.toList l).length ≤ 140737488355000) :
    Calls Try.prog 27 #[.slice a n c, .agg #[.int .i64 kk, .int .u64 (u : Int), .int .i64 nn, .string s, .slice la ln lc]] w (Wrote w (bs ++ encVal kk u nn s.data.toList l)) := by
  obtain ⟨l2, la2, ln2, lc2, hv1, hv2, hll, -, -, hlnil, -, hlw, hlc⟩ := rep_l hL
  injection hv1 with hv1
  injection hv2 with hv2 hv3 hv4
  subst hv1 hv2 hv3 hv4
  have hbox : Below w.heap.size w (w.alloc (.cells #[.int .i64 kk, .int .u64 (u : Int), .int .i64 nn, .string s, .slice la ln lc] 61)) := (Below.refl _ _).alloc (Nat.le_refl _) _
  have HBX := Lib.hid hbox
  have H := Lib.hid (h.below hbox)
  have HN := Lib.hid hnil
  have HL := Lib.hid hl
  have HLL := Lib.hid hll
  have HLW := Lib.hid hlw
  have HLC := Lib.hid (hlc.below hbox)
  have HI := Lib.hid hn
  have HU := Lib.hid hu
  have hsw := size_alloc_le w (.cells #[.int .i64 kk, .int .u64 (u : Int), .int .i64 nn, .string s, .slice la ln lc] 61) (Nat.le_refl _)
  have HSW := Lib.hid hsw
  clear h hnil hl hll hlw hlc hn hu hbox hL hlnil hsw
  by_cases k0 : kk = 0
  · subst k0
    have HE := Lib.hid (show encVal 0 u nn s.data.toList l = leb u by simp [encVal])
    rw [HE.out] at hb
    rw [HE.out]
    have HB := Lib.hid hb
    clear hb
    go_enter Try.func27, Try.ntmps27
    go_wp2_with (go_at_call 24; refine halt_here ?_)
    refine go_on ((Put_one a n c bs u _ _ (by simp) H.out HN.out HL.out HU.out HB.out).mono ?_)
    rintro e w2 ⟨v, rfl, how, hb2⟩
    have HOW := Lib.hid how
    clear how
    go_wp2_with fail
    go_ret
    exact ⟨_, rfl, ownsRow_base HOW.out HSW.out, HBX.out.trans (hb2.mono HSW.out)⟩
  by_cases k1 : kk = 1
  · subst k1
    have HE := Lib.hid (show encVal 1 u nn s.data.toList l = encI nn by simp [encVal])
    rw [HE.out] at hb
    rw [HE.out]
    have HB := Lib.hid hb
    clear hb k0
    go_enter Try.func27, Try.ntmps27
    go_wp2_with (go_at_call 25; refine halt_here ?_)
    refine go_on ((PutInt_any a n c bs nn _ H.out HN.out HL.out HI.out.1 HI.out.2 HB.out).mono ?_)
    rintro e w2 ⟨v, rfl, how, hb2⟩
    have HOW := Lib.hid how
    clear how
    go_wp2_with fail
    go_ret
    exact ⟨_, rfl, ownsRow_base HOW.out HSW.out, HBX.out.trans (hb2.mono HSW.out)⟩
  by_cases k2 : kk = 2
  · subst k2
    have HE := Lib.hid (show encVal 2 u nn s.data.toList l = encB (decide (0 < nn)) by simp [encVal])
    rw [HE.out] at hb
    rw [HE.out]
    have HB := Lib.hid hb
    clear hb k0 k1
    go_enter Try.func27, Try.ntmps27
    go_wp2_with (go_at_call 46; refine halt_here ?_)
    refine go_on ((PutBool_any a n c bs (decide (0 < nn)) _ H.out HN.out HL.out HB.out).mono ?_)
    rintro e w2 ⟨v, rfl, how, hb2⟩
    have HOW := Lib.hid how
    clear how
    go_wp2_with fail
    go_ret
    exact ⟨_, rfl, ownsRow_base HOW.out HSW.out, HBX.out.trans (hb2.mono HSW.out)⟩
  by_cases k3 : kk = 3
  · subst k3
    have HE := Lib.hid (show encVal 3 u nn s.data.toList l = encT s.data.toList by simp [encVal])
    rw [HE.out] at hb
    rw [HE.out]
    have HB := Lib.hid hb
    clear hb k0 k1 k2
    go_enter Try.func27, Try.ntmps27
    go_wp2_with (go_at_call 45; refine halt_here ?_)
    refine go_on ((PutText_any a n c bs s _ H.out HN.out HL.out HB.out).mono ?_)
    rintro e w2 ⟨v, rfl, how, hb2⟩
    have HOW := Lib.hid how
    clear how
    go_wp2_with fail
    go_ret
    exact ⟨_, rfl, ownsRow_base HOW.out HSW.out, HBX.out.trans (hb2.mono HSW.out)⟩
  · have HE := Lib.hid (show encVal kk u nn s.data.toList l = encL l by simp [encVal, k0, k1, k2, k3])
    rw [HE.out] at hb
    rw [HE.out]
    have HB := Lib.hid hb
    have q0 : (kk == 0) = false := by simpa using k0
    have q1 : (kk == 1) = false := by simpa using k1
    have q2 : (kk == 2) = false := by simpa using k2
    have q3 : (kk == 3) = false := by simpa using k3
    clear hb k0 k1 k2 k3
    go_enter Try.func27, Try.ntmps27
    go_wp2_with (go_at_call 51; refine halt_here ?_)
    refine go_on ((PutInts_any a n c bs la ln lc l _ H.out HN.out HL.out HLC.out HLL.out hln HLW.out HB.out).mono ?_)
    rintro e w2 ⟨v, rfl, how, hb2⟩
    have HOW := Lib.hid how
    clear how
    go_wp2_with fail
    go_ret
    exact ⟨_, rfl, ownsRow_base HOW.out HSW.out, HBX.out.trans (hb2.mono HSW.out)⟩

set_option maxRecDepth 100000 in
set_option maxHeartbeats 1000000 in
theorem valref_any (a : Option Addr) (n c : Nat) (bs : Bytes) (kk : Int) (u : Nat) (nn : Int) (s : ByteArray) (la : Option Addr) (ln lc : Nat) (l : List Int) (w : World) (h : CellsAt w a (bc bs)) (hnil : a = none → n = 0 ∧ c = 0) (hl : bs.length = n)
    (hu : u < 18446744073709551616) (hn : In64 nn) (hL : Rep (Old w) w .l (.l l) (.slice la ln lc)) (hln : ln ≤ 4611686018427387904) (hb : bs.length + (encVal kk u nn s.data.toList l).length ≤ 140737488355000) :
    Calls Try.prog 28 #[.slice a n c, .agg #[.int .i64 kk, .int .u64 (u : Int), .int .i64 nn, .string s, .slice la ln lc]] w (Wrote w (bs ++ encVal kk u nn s.data.toList l)) := by
  obtain ⟨l2, la2, ln2, lc2, hv1, hv2, hll, -, -, hlnil, -, hlw, hlc⟩ := rep_l hL
  injection hv1 with hv1
  injection hv2 with hv2 hv3 hv4
  subst hv1 hv2 hv3 hv4
  have hbox : Below w.heap.size w (w.alloc (.cells #[.int .i64 kk, .int .u64 (u : Int), .int .i64 nn, .string s, .slice la ln lc] 61)) := (Below.refl _ _).alloc (Nat.le_refl _) _
  have HBX := Lib.hid hbox
  have H := Lib.hid (h.below hbox)
  have HN := Lib.hid hnil
  have HL := Lib.hid hl
  have HLL := Lib.hid hll
  have HLW := Lib.hid hlw
  have HLC := Lib.hid (hlc.below hbox)
  have HI := Lib.hid hn
  have HU := Lib.hid hu
  have hsw := size_alloc_le w (.cells #[.int .i64 kk, .int .u64 (u : Int), .int .i64 nn, .string s, .slice la ln lc] 61) (Nat.le_refl _)
  have HSW := Lib.hid hsw
  clear h hnil hl hll hlw hlc hn hu hbox hL hlnil hsw
  by_cases k0 : kk = 0
  · subst k0
    have HE := Lib.hid (show encVal 0 u nn s.data.toList l = leb u by simp [encVal])
    rw [HE.out] at hb
    rw [HE.out]
    have HB := Lib.hid hb
    clear hb
    go_enter Try.func28, Try.ntmps28
    go_wp2_with (go_at_call 26; refine halt_here ?_)
    refine go_on ((RPut_one a n c bs u _ _ (by simp) H.out HN.out HL.out HU.out HB.out).mono ?_)
    rintro e w2 ⟨v, rfl, how, hb2⟩
    have HOW := Lib.hid how
    clear how
    go_wp2_with fail
    go_ret
    exact ⟨_, rfl, ownsRow_base HOW.out HSW.out, HBX.out.trans (hb2.mono HSW.out)⟩
  by_cases k1 : kk = 1
  · subst k1
    have HE := Lib.hid (show encVal 1 u nn s.data.toList l = encI nn by simp [encVal])
    rw [HE.out] at hb
    rw [HE.out]
    have HB := Lib.hid hb
    clear hb k0
    go_enter Try.func28, Try.ntmps28
    go_wp2_with (go_at_call 52; refine halt_here ?_)
    refine go_on ((RPutInt_any a n c bs nn _ H.out HN.out HL.out HI.out.1 HI.out.2 HB.out).mono ?_)
    rintro e w2 ⟨v, rfl, how, hb2⟩
    have HOW := Lib.hid how
    clear how
    go_wp2_with fail
    go_ret
    exact ⟨_, rfl, ownsRow_base HOW.out HSW.out, HBX.out.trans (hb2.mono HSW.out)⟩
  by_cases k2 : kk = 2
  · subst k2
    have HE := Lib.hid (show encVal 2 u nn s.data.toList l = encB (decide (0 < nn)) by simp [encVal])
    rw [HE.out] at hb
    rw [HE.out]
    have HB := Lib.hid hb
    clear hb k0 k1
    go_enter Try.func28, Try.ntmps28
    go_wp2_with (go_at_call 53; refine halt_here ?_)
    refine go_on ((RPutBool_any a n c bs (decide (0 < nn)) _ H.out HN.out HL.out HB.out).mono ?_)
    rintro e w2 ⟨v, rfl, how, hb2⟩
    have HOW := Lib.hid how
    clear how
    go_wp2_with fail
    go_ret
    exact ⟨_, rfl, ownsRow_base HOW.out HSW.out, HBX.out.trans (hb2.mono HSW.out)⟩
  by_cases k3 : kk = 3
  · subst k3
    have HE := Lib.hid (show encVal 3 u nn s.data.toList l = encT s.data.toList by simp [encVal])
    rw [HE.out] at hb
    rw [HE.out]
    have HB := Lib.hid hb
    clear hb k0 k1 k2
    go_enter Try.func28, Try.ntmps28
    go_wp2_with (go_at_call 54; refine halt_here ?_)
    refine go_on ((RPutText_any a n c bs s _ H.out HN.out HL.out HB.out).mono ?_)
    rintro e w2 ⟨v, rfl, how, hb2⟩
    have HOW := Lib.hid how
    clear how
    go_wp2_with fail
    go_ret
    exact ⟨_, rfl, ownsRow_base HOW.out HSW.out, HBX.out.trans (hb2.mono HSW.out)⟩
  · have HE := Lib.hid (show encVal kk u nn s.data.toList l = encL l by simp [encVal, k0, k1, k2, k3])
    rw [HE.out] at hb
    rw [HE.out]
    have HB := Lib.hid hb
    have q0 : (kk == 0) = false := by simpa using k0
    have q1 : (kk == 1) = false := by simpa using k1
    have q2 : (kk == 2) = false := by simpa using k2
    have q3 : (kk == 3) = false := by simpa using k3
    clear hb k0 k1 k2 k3
    go_enter Try.func28, Try.ntmps28
    go_wp2_with (go_at_call 55; refine halt_here ?_)
    refine go_on ((RPutInts_any a n c bs la ln lc l _ H.out HN.out HL.out HLC.out HLL.out hln HLW.out HB.out).mono ?_)
    rintro e w2 ⟨v, rfl, how, hb2⟩
    have HOW := Lib.hid how
    clear how
    go_wp2_with fail
    go_ret
    exact ⟨_, rfl, ownsRow_base HOW.out HSW.out, HBX.out.trans (hb2.mono HSW.out)⟩
end Go.Proofs.Ytbcpdjhpceimlaa
