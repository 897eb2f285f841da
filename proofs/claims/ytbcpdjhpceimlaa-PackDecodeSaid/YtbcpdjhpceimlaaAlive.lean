/-
  'alive' of layer 4: the chapter's examples hold.
-/
import Derived.Test.YtbcpdjhpceimlaaRead
import Derived.Laws.IdiomStrings
import Derived.OpenShut
import Derived.Shelf.Bytes.SlSmallAll
namespace Go.Proofs.Ytbcpdjhpceimlaa
open Go.ChangeShapes Go.WideShapes Go.ChangeAt Go.RowKit

theorem conv_str {w : World} {a : Option Addr} {n : Nat} (c : Nat) {bs : Bytes} (hc : CellsAt w a (bc bs)) (hl : bs.length = n) : (convert 34 9 (.slice a n c)).run Try.prog w = .ok (.string ⟨bs.toArray⟩) w := by
  subst hl
  by_cases h0 : bs = []
  · subst h0
    exact run_convert_bytes_zero (P := Try.prog) w 34 5 Try.underlying34 Try.underlying5 a c 9 Try.underlying9
  · obtain ⟨b, off, rfl, hg⟩ := hc.pos (by rw [bc_length]; exact List.length_pos_iff.2 h0)
    refine run_convert_bytes_back w 34 9 5 ⟨b, off, none⟩ c bs Try.underlying34 Try.underlying5 Try.underlying9 (fun j hj => ?_)
    rw [Addr.add_lit]
    exact hg j _ (bc_get hj)

theorem stOf_err_inv {bs : Bytes} {k e c : Nat} (h : stOf bs k e = .error c) : e = c := by
  unfold stOf at h
  split at h
  · cases h
  · injection h

theorem ex_lit (w : World) : CellsAt (w.alloc (.cells #[.int .u8 128, .int .u8 0] 5)) (some ⟨w.heap.size, 0, none⟩) (bc [128, 0]) := rd_lit w .u8 5 [128, 0]


/-- Bytes out of numbers that fit. -/
theorem bytes_of (l : List Int) (h : ∀ n ∈ l, (Lit.int .u8 n).wf = true) : ∃ bs : Bytes, bs.length = l.length ∧ l.map (Value.int .u8) = bc bs := by
  refine ⟨l.map fun z => UInt8.ofNat z.toNat, by simp, ?_⟩
  rw [bc, List.map_map]
  refine List.map_congr_left fun z hz => ?_
  obtain ⟨h0, h1⟩ := bounds_u8 (h z hz)
  show Value.int .u8 z = Value.int .u8 ((UInt8.ofNat z.toNat).toNat : Int)
  rw [toNat_ofNat (by omega)]
  congr 1
  omega

theorem CellsAt.take_bc {w : World} {a : Option Addr} {bs : Bytes} (h : CellsAt w a (bc bs)) (k : Nat) : CellsAt w a (bc (bs.take k)) := by
  have := h.take k
  rwa [show (bc bs).take k = bc (bs.take k) by simp [bc, List.map_take]] at this

theorem stOf_ok_inv {bs : Bytes} {k e : Nat} {rest : Bytes} (h : stOf bs k e = .ok rest) : e = 0 ∧ bs.drop k = rest := by
  unfold stOf at h
  split at h
  · rename_i h0
    injection h with h
    exact ⟨h0, h⟩
  · cases h

theorem RdrAt.below {T : TypeId} {w w' : World} {R : Nat} {a : Option Addr} {n c : Nat} {bs : Bytes} {at' e : Nat} (h : RdrAt T w R a n c bs at' e) (hb : Below w.heap.size w w') : RdrAt T w' R a n c bs at' e :=
  ⟨by rw [hb.block R (blk_lt h.blk)]; exact h.blk, h.cells.below hb, h.lt, h.nc, h.nil, h.len, h.bd, h.le⟩

set_option maxRecDepth 100000 in
set_option maxHeartbeats 4000000 in
theorem alive_any (w : World) : Calls Try.prog 22 #[] w fun e w' => e = .returned (.bool true) ∧ Below w.heap.size w w' := by
  go_enter Try.func22, Try.ntmps22
  go_wp2_with (go_at_call 24; refine halt_here ?_)
  refine go_on ((Put_one none 0 0 [] 300 w _ rfl (CellsAt.nil _ _) (fun _ => ⟨rfl, rfl⟩) rfl (by decide) (by decide)).mono ?_)
  rintro e w1 ⟨v, rfl, how, hb1⟩
  rw [show [] ++ leb 300 = [172, 2] by decide] at how
  obtain ⟨a1, c1, rfl, hc1⟩ := ownsRow_rd how
  have HN1 := Lib.hid (own_nil how)
  have HC1 := Lib.hid hc1
  have HB1 := Lib.hid hb1
  clear how hc1 hb1
  go_wp2_with (go_at_call 25; refine halt_here ?_)
  refine go_on ((PutInt_any a1 2 c1 [172, 2] (-1) w1 HC1.out HN1.out rfl (by decide) (by decide) (by decide)).mono ?_)
  rintro e w2 ⟨v, rfl, how2, hb2⟩
  rw [show [172, 2] ++ encI (-1) = [172, 2, 1] by decide] at how2
  obtain ⟨a2, c2, rfl, hc2⟩ := ownsRow_rd how2
  have HC2 := Lib.hid hc2
  have HB2 := Lib.hid (HB1.out.trans (hb2.mono HB1.out.size))
  clear how2 hc2 hb2 HN1 HC1 HB1
  go_wp2_with (go_at_call 18; refine halt_here ?_)
  refine go_on ((New_any _ 2 2 [128, 0] _ (ex_lit w2) (fun h => by cases h) rfl (by decide)).mono ?_)
  rintro e w3 ⟨R, a3, c3, rfl, hR, hrd, hb3⟩
  have HR3 := Lib.hid hrd
  have HRS := Lib.hid (show w2.heap.size < R by have := hR; simp at this; omega)
  have HX3 := Lib.hid (((Below.refl w2.heap.size w2).alloc (Nat.le_refl _) (.cells #[.int .u8 128, .int .u8 0] 5)).trans (hb3.mono (by simp)))
  clear hR hrd hb3
  go_wp2_with (go_at_call 20; refine halt_here ?_)
  refine go_on ((Int_any R a3 2 c3 [128, 0] 0 0 w3 HR3.out).mono ?_)
  rintro e w4 ⟨rfl, at4, e4, hrd, hst, hg⟩
  have h4 : e4 = 3 := stOf_err_inv (hst.trans (show (iS (stOf [128, 0] 0 0)).2 = .error 3 from rfl))
  subst h4
  have HI4 := show (iS (stOf [128, 0] 0 0)).1 = 0 by decide
  rw [HI4]
  have HR4 := Lib.hid hrd
  have HX4 := Lib.hid (HX3.out.grown hg HX3.out.size (fun k hk => by cases hk; exact Nat.le_of_lt HRS.out))
  have hcv := conv_str c2 (HC2.out.below HX4.out) (n := 3) rfl
  clear HI4 hst hg hrd HR3 HX3
  go_wp2_with (go_at_call 21; refine halt_here ?_)
  refine go_on ((Err_any R a3 2 c3 [128, 0] at4 3 w4 HR4.out).mono ?_)
  rintro e w5 ⟨rfl, rfl⟩
  clear hcv
  go_wp2_with (go_at_call 23; refine halt_here ?_)
  refine go_on ((Left_any R a3 2 c3 [128, 0] at4 3 w4 HR4.out).mono ?_)
  rintro e w5 ⟨rfl, hg5, -⟩
  have HX5 := Lib.hid (HB2.out.trans ((HX4.out.grown hg5 HX4.out.size (fun k hk => by cases hk; exact Nat.le_of_lt HRS.out)).mono HB2.out.size))
  rw [show leftS (stOf [128, 0] at4 3) = 0 from rfl]
  clear hg5 HX4
  go_wp2_with (go_at_call 21; refine halt_here ?_)
  refine go_on ((Err_nil w5).mono ?_)
  rintro e w6 ⟨rfl, rfl⟩
  go_wp2_with (go_at_call 32; refine halt_here ?_)
  refine go_on ((Text_nil 3 w5).mono ?_)
  rintro e w6 ⟨rfl, rfl⟩
  go_wp2_with (go_at_call 46; refine halt_here ?_)
  refine go_on ((PutBool_any none 0 0 [] true w5 (CellsAt.nil _ _) (fun _ => ⟨rfl, rfl⟩) rfl (by decide)).mono ?_)
  rintro e w6 ⟨v, rfl, how6, hb6⟩
  rw [show [] ++ encB true = [1] by decide] at how6
  obtain ⟨a6, c6, rfl, hc6⟩ := ownsRow_rd how6
  have HC6 := Lib.hid hc6
  have HN6 := Lib.hid (own_nil how6)
  have HB6 := Lib.hid (HX5.out.trans (hb6.mono HX5.out.size))
  clear how6 hc6 hb6 HX5 HR4 HRS HB2 HC2
  go_wp2_with (go_at_call 45; refine halt_here ?_)
  refine go_on ((PutText_any a6 1 c6 [1] ⟨#[97, 98]⟩ w6 HC6.out HN6.out rfl (by decide)).mono ?_)
  rintro e w7 ⟨v, rfl, how7, hb7⟩
  have HB7 := Lib.hid (HB6.out.trans (hb7.mono HB6.out.size))
  rw [show ([1] : Bytes) ++ encT (⟨#[97, 98]⟩ : ByteArray).data.toList = [1, 2, 97, 98] by decide] at how7
  obtain ⟨a7, c7, rfl, hc7⟩ := ownsRow_rd how7
  have hcv := conv_str c7 hc7 (n := 4) rfl
  clear how7 hb7 hc7 HN6 HC6
  go_wp2_with fail
  go_ret
  exact ⟨rfl, HB7.out⟩
end Go.Proofs.Ytbcpdjhpceimlaa
