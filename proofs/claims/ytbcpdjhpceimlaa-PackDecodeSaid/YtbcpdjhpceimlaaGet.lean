/-
  The contracts of the reading functions of layer 4, the program's: New, fails, number, Uint, Int, Bool, Text, Ints, Left, Err.
-/
import Derived.Test.YtbcpdjhpceimlaaPut
import Derived.Lib.BufferOwn
import Derived.Laws.Bits64b
namespace Go.Proofs.Ytbcpdjhpceimlaa
open Go.ChangeShapes Go.WideShapes Go.ChangeAt Go.RowKit

/-- A reader's block: the bytes, the place, the error. -/
structure RdrAt (T : TypeId) (w : World) (R : Nat) (a : Option Addr) (n c : Nat) (bs : Bytes) (at' e : Nat) : Prop where
  blk : w.heap[R]? = some (.cells #[.slice a n c, .int .i64 (at' : Int), .int .i64 (e : Int)] T (0, 0))
  cells : CellsAt w a (bc bs)
  lt : ∀ x, a = some x → x.block < R
  nc : n ≤ c
  nil : a = none → n = 0 ∧ c = 0
  len : bs.length = n
  bd : n ≤ 140737488355328
  le : at' ≤ n

theorem RdrAt.ne {T : TypeId} {w : World} {R : Nat} {a : Option Addr} {n c : Nat} {bs : Bytes} {at' e : Nat} (h : RdrAt T w R a n c bs at' e) : ∀ x, a = some x → x.block ≠ R := fun x hx => Nat.ne_of_lt (h.lt x hx)

/-- What a reader has left, or its error. -/
def stOf (bs : Bytes) (at' e : Nat) : St := if e = 0 then .ok (bs.drop at') else .error e

theorem RdrAt.c0 {T : TypeId} {w : World} {R : Nat} {a : Option Addr} {n c : Nat} {bs : Bytes} {at' e : Nat} (h : RdrAt T w R a n c bs at' e) : w.cell? ⟨R, 0, none⟩ = some (.slice a n c) := by rw [blk_cell h.blk]; rfl
theorem RdrAt.c1 {T : TypeId} {w : World} {R : Nat} {a : Option Addr} {n c : Nat} {bs : Bytes} {at' e : Nat} (h : RdrAt T w R a n c bs at' e) : w.cell? ⟨R, 1, none⟩ = some (.int .i64 (at' : Int)) := by rw [blk_cell h.blk]; rfl
theorem RdrAt.c2 {T : TypeId} {w : World} {R : Nat} {a : Option Addr} {n c : Nat} {bs : Bytes} {at' e : Nat} (h : RdrAt T w R a n c bs at' e) : w.cell? ⟨R, 2, none⟩ = some (.int .i64 (e : Int)) := by rw [blk_cell h.blk]; rfl
theorem RdrAt.fr {T : TypeId} {w : World} {R : Nat} {a : Option Addr} {n c : Nat} {bs : Bytes} {at' e : Nat} (h : RdrAt T w R a n c bs at' e) : ∀ off, w.frozen? ⟨R, off, none⟩ = false := blk_free h.blk
theorem RdrAt.cl {T : TypeId} {w : World} {R : Nat} {a : Option Addr} {n c : Nat} {bs : Bytes} {at' e : Nat} (h : RdrAt T w R a n c bs at' e) {w' : World} (hg : w.grownBy w' (some R)) : CellsAt w' a (bc bs) := by
  have hc := h.cells
  have hne := h.ne
  rcases hc with h0 | ⟨b, off, rfl, hc⟩
  · exact .inl h0
  · exact .inr ⟨b, off, rfl, fun j u hj => ext_of_grown hg _ _ (by have := hne _ rfl; simpa using this) (hc j u hj)⟩
theorem RdrAt.drew {T : TypeId} {w : World} {R : Nat} {a : Option Addr} {n c : Nat} {bs : Bytes} {at' e : Nat} (h : RdrAt T w R a n c bs at' e) : RdrAt T w.drew R a n c bs at' e := ⟨h.blk, h.cells, h.lt, h.nc, h.nil, h.len, h.bd, h.le⟩
theorem drew_g {w w' : World} {row : Option Nat} (h : w.drew.grownBy w' row) : w.grownBy w' row := ⟨h.os, h.tape, h.output, h.size, h.block⟩
theorem RdrAt.setE {T : TypeId} {w : World} {R : Nat} {a : Option Addr} {n c : Nat} {bs : Bytes} {at' e : Nat} (h : RdrAt T w R a n c bs at' e) (k : Nat) : RdrAt T (w.setCell ⟨R, 2, none⟩ (.int .i64 (k : Int))) R a n c bs at' k :=
  ⟨by rw [blk_setCell h.blk]; rfl, h.cl (Lib.grownBy_setCell _ _ _ _), h.lt, h.nc, h.nil, h.len, h.bd, h.le⟩
theorem RdrAt.setAt {T : TypeId} {w : World} {R : Nat} {a : Option Addr} {n c : Nat} {bs : Bytes} {at' e : Nat} (h : RdrAt T w R a n c bs at' e) (k : Nat) (hk : k ≤ n) : RdrAt T (w.setCell ⟨R, 1, none⟩ (.int .i64 (k : Int))) R a n c bs k e :=
  ⟨by rw [blk_setCell h.blk]; rfl, h.cl (Lib.grownBy_setCell _ _ _ _), h.lt, h.nc, h.nil, h.len, h.bd, hk⟩

theorem RdrAt.setAt' {T : TypeId} {w : World} {R : Nat} {a : Option Addr} {n c : Nat} {bs : Bytes} {at' e : Nat} (h : RdrAt T w R a n c bs at' e) (k : Nat) (hk : k ≤ n) (x : Int) (hx : x = (k : Int)) : RdrAt T (w.setCell ⟨R, 1, none⟩ (.int .i64 x)) R a n c bs k e := by subst hx; exact h.setAt k hk

set_option maxRecDepth 100000 in
set_option maxHeartbeats 1000000 in
theorem fails_any (R : Nat) (a : Option Addr) (n c : Nat) (bs : Bytes) (at' e k : Nat) (w : World) (h : RdrAt 109 w R a n c bs at' e) :
    Calls Try.prog 44 #[.pointer (some ⟨R, 0, none⟩), .int .i64 (k : Int)] w fun x w' => x = .returned (.tuple #[]) ∧ RdrAt 109 w' R a n c bs at' k ∧ w.grownBy w' (some R) := by
  have H := Lib.hid (h.setE k)
  have hc := h.c2
  have hfr := h.fr
  clear h
  go_enter Try.func44, Try.ntmps44
  go_wp2_with fail
  refine bodyPost_end (results_none rfl _ _ _) rfl ?_
  exact ⟨rfl, H.out, Lib.grownBy_setCell _ _ _ _⟩

theorem and127_all : ∀ r : Fin 256, bits BinOp.and IntKind.u8 ((r.val : Nat) : Int) 127 = ((r.val % 128 : Nat) : Int) := by decide +kernel
theorem and127 (c : Nat) (h : c < 256) : bits BinOp.and IntKind.u8 (c : Int) 127 = ((c % 128 : Nat) : Int) := and127_all ⟨c, h⟩
theorem wrapU (n : Int) (h0 : 0 ≤ n) (h1 : n < 18446744073709551616) : IntKind.u64.wrap n = n := by rw [IntKind.wrap_u64]; omega
theorem p128 (k : Nat) : (128 : Nat) ^ k = 2 ^ (7 * k) := by rw [Nat.pow_mul]
theorem nv_bd (k d : Nat) (hk : k ≤ 8 ∧ d < 128 ∨ k = 9 ∧ d ≤ 1) : d * 128 ^ k ≤ 9223372036854775808 ∧ 128 ^ k ≤ 9223372036854775808 := by
  rcases hk with ⟨h, hd⟩ | ⟨rfl, hd⟩
  · have h1 : 128 ^ k ≤ 128 ^ 8 := Nat.pow_le_pow_right (by decide) h
    have h2 : (128 : Nat) ^ 8 = 72057594037927936 := by decide
    have h3 : d * 128 ^ k ≤ 127 * 128 ^ 8 := Nat.mul_le_mul (by omega) h1
    omega
  · have h2 : (128 : Nat) ^ 9 = 9223372036854775808 := by decide
    rw [h2]
    omega
theorem nv (m cc k : Nat) (hm : m < 128 ^ k) (hc : cc < 256) (hk : k ≤ 8 ∨ k = 9 ∧ cc ≤ 1) :
    bits .or .u64 (m : Int) (IntKind.u64.wrap (IntKind.u64.wrap (bits .and .u8 (cc : Int) 127) * 2 ^ (7 * k))) = ((m + cc % 128 * 128 ^ k : Nat) : Int) := by
  have hb := nv_bd k (cc % 128) (by omega)
  have e1 : ((2 : Int) ^ (7 * k)) = ((128 ^ k : Nat) : Int) := by rw [p128]; simp
  have e2 : IntKind.u64.wrap ((cc % 128 : Nat) : Int) = ((cc % 128 : Nat) : Int) := wrapU _ (by omega) (by omega)
  have e3 : IntKind.u64.wrap ((cc % 128 * 128 ^ k : Nat) : Int) = ((cc % 128 * 128 ^ k : Nat) : Int) := wrapU _ (by omega) (by omega)
  rw [and127 cc hc, e2, e1, ← Int.natCast_mul, e3, bits_or_u64_nat _ _ (by omega) (by omega)]
  congr 1
  rw [p128] at hm ⊢
  rw [Nat.or_comm, ← Nat.shiftLeft_eq, ← Nat.shiftLeft_add_eq_or_of_lt hm]
  omega

theorem nv9 (m cc k : Nat) (hm : m < 128 ^ k) (hc : cc < 256) (hk : k = 9) (h1 : cc ≤ 1) :
    bits .or .u64 (m : Int) (IntKind.u64.wrap (IntKind.u64.wrap (bits .and .u8 (cc : Int) 127) * 9223372036854775808)) = ((m + cc % 128 * 128 ^ k : Nat) : Int) := by
  have h := nv m cc k hm hc (.inr ⟨hk, h1⟩)
  have e : (2 : Int) ^ (7 * k) = 9223372036854775808 := by rw [hk]; rfl
  rw [e] at h
  exact h
theorem nv_next (m cc k : Nat) (hm : m < 128 ^ k) : m + cc % 128 * 128 ^ k < 128 ^ (k + 1) := by
  have h1 : cc % 128 * 128 ^ k ≤ 127 * 128 ^ k := Nat.mul_le_mul_right _ (by omega)
  rw [Nat.pow_succ]
  omega
theorem g_drew {w w' : World} {row : Option Nat} (h : w.grownBy w' row) : w.grownBy w'.drew row := ⟨h.os, h.tape, h.output, h.size, h.block⟩

theorem wrapI (n : Int) (h0 : 0 ≤ n) (h1 : n < 9223372036854775808) : IntKind.i64.wrap n = n := by simp [IntKind.wrap, IntKind.bits, IntKind.signed]; omega

theorem drop_cons {bs : Bytes} {k : Nat} (h : k < bs.length) : bs.drop k = bs[k] :: bs.drop (k + 1) := List.drop_eq_getElem_cons h

theorem num_step {bs : Bytes} {k i m : Nat} (h : k < bs.length) (h1 : ¬ ((i = 9 ∧ 1 < bs[k].toNat) ∨ (0 < i ∧ bs[k].toNat = 0))) (h2 : ¬ bs[k].toNat < 128) :
    num i m (bs.drop k) = num (i + 1) (m + (bs[k].toNat - 128) * 128 ^ i) (bs.drop (k + 1)) := by
  rw [drop_cons h, num, if_neg h1, if_neg h2]
theorem num_stop {bs : Bytes} {k i m : Nat} (h : k < bs.length) (h1 : ¬ ((i = 9 ∧ 1 < bs[k].toNat) ∨ (0 < i ∧ bs[k].toNat = 0))) (h2 : bs[k].toNat < 128) :
    num i m (bs.drop k) = .ok (m + bs[k].toNat * 128 ^ i, bs.drop (k + 1)) := by
  rw [drop_cons h, num, if_neg h1, if_pos h2]
theorem num_bad {bs : Bytes} {k i m : Nat} (h : k < bs.length) (h1 : (i = 9 ∧ 1 < bs[k].toNat) ∨ (0 < i ∧ bs[k].toNat = 0)) : num i m (bs.drop k) = .error 3 := by
  rw [drop_cons h, num, if_pos h1]
theorem bc_get {bs : Bytes} {k : Nat} (h : k < bs.length) : (bc bs)[k]? = some (.int .u8 ((bs[k].toNat : Nat) : Int)) := by
  simp [bc, List.getElem?_map, List.getElem?_eq_getElem h]

set_option maxRecDepth 100000 in
set_option maxHeartbeats 4000000 in
theorem number_any (R : Nat) (a : Option Addr) (n c : Nat) (bs : Bytes) (at' : Nat) (w : World) (h : RdrAt 109 w R a n c bs at' 0) :
    Calls Try.prog 43 #[.pointer (some ⟨R, 0, none⟩)] w fun x w' => ∃ (v at2 e2 : Nat), x = .returned (.int .u64 (v : Int)) ∧ RdrAt 109 w' R a n c bs at2 e2 ∧ w.grownBy w' (some R) ∧
      (num 0 0 (bs.drop at') = .ok (v, bs.drop at2) ∧ e2 = 0 ∨ num 0 0 (bs.drop at') = .error e2 ∧ v = 0) := by
  have H := Lib.hid h
  have hA := h.le
  have hB := h.bd
  have HL := Lib.hid h.len
  clear h
  go_enter Try.func43, Try.ntmps43
  go_wp2
  go_step3
  go_wp2
  go_step3
  go_wp2_with fail
  go_loopw [3, 4] (fun y i wr => ∃ m k : Nat, y = .int .u64 (m : Int) ∧ i = .int .i64 (k : Int) ∧ at' + k ≤ n ∧ k ≤ 9 ∧ m < 128 ^ k ∧ Hid (num 0 0 (bs.drop at') = num k m (bs.drop (at' + k))) ∧ Hid (RdrAt 109 wr R a n c bs at' 0) ∧ Hid (w.grownBy wr (some R))) (fun _ i _ => n - (intOf i).toNat)
  case atStart => exact ⟨0, 0, rfl, rfl, by omega, by omega, by decide, Lib.hid rfl, H, Lib.hid (World.grownBy.refl _ _)⟩
  case round =>
    obtain ⟨m, k, rfl, rfl, hk, hk9, hm, HN, HR, HG⟩ := hrel
    clear H
    have hc0 := HR.out.c0
    have hc1 := HR.out.c1
    have hc2 := HR.out.c2
    have hfr := HR.out.fr
    obtain ⟨j, hj⟩ : ∃ j, at' + k = j := ⟨_, rfl⟩
    have HWR : IntKind.i64.wrap ((at' : Int) + (k : Int)) = (j : Int) := by rw [wrapI _ (by omega) (by omega)]; omega
    rw [hj] at hk HN
    have HJ := Lib.hid hj
    clear hj
    by_cases hlt : j < n
    · have q1 : decide (n ≤ j) = false := by simp; omega
      have hlb : j < bs.length := by have := HL.out; omega
      obtain ⟨b1, o1, rfl, g1⟩ := CellsAt.pos HR.out.cells (by rw [bc_length]; omega)
      have e1 := g1 _ _ (bc_get hlb)
      have hcl : bs[j].toNat < 256 := bs[j].toNat_lt
      have HST := Lib.hid (fun h1 h2 => num_step (m := m) (i := k) hlb h1 h2)
      have HSP := Lib.hid (fun h1 h2 => num_stop (m := m) (i := k) hlb h1 h2)
      have HSB := Lib.hid (fun h1 => num_bad (m := m) (i := k) hlb h1)
      generalize bs[j].toNat = cc at e1 hcl HST HSP HSB
      clear g1
      go_wp2_with fail
      refine wp_region_plan [(0, none), (1, none), (2, none), (3, some none), (4, none), (5, none), (6, none), (7, none), (8, none), (9, some none), (10, none), (11, none)] (by kernel_rfl) (by kernel_rfl) ?_
      repeat (first | (refine plan_free (v := ?_) rfl rfl (fun _ => ?_) (fun K hK => ?_); rotate_left 1; (focus (go_simp <;> exact rfl)); go_simp; refine hK _ _ ?_; clear hK K) | (refine plan_held (v := ?_) rfl rfl ?_ (fun K hK => ?_); rotate_left 1; (focus (go_simp <;> exact rfl)); go_simp; refine hK _ _ ?_; clear hK K))
      refine plan_nil ?_
      go_wp2_with fail
      refine wp_region_plan [(0, none), (1, none), (2, none), (3, some none), (4, none), (5, none), (6, none), (7, some none), (8, none), (9, none), (10, none), (11, some none), (12, none)] (by kernel_rfl) (by kernel_rfl) ?_
      repeat (first | (refine plan_free (v := ?_) rfl rfl (fun _ => ?_) (fun K hK => ?_); rotate_left 1; (focus (go_simp <;> exact rfl)); go_simp; refine hK _ _ ?_; clear hK K) | (refine plan_held (v := ?_) rfl rfl ?_ (fun K hK => ?_); rotate_left 1; (focus (go_simp <;> exact rfl)); go_simp; refine hK _ _ ?_; clear hK K))
      refine plan_nil ?_
      by_cases k9 : k = 9
      · have p1 : ((k : Int) == 9) = true := by simp; omega
        have p3 : decide (0 < k) = true := by simp; omega
        by_cases c1 : 1 < cc
        · have p2 : decide (1 < (cc : Int)) = true := by simp; omega
          go_wp2_with (go_at_call 44; refine halt_here ?_)
          refine go_on ((fails_any R _ n c bs at' 0 3 _ HR.out.drew.drew).mono ?_)
          rintro e w' ⟨rfl, HQ, hg⟩
          have HE := Lib.hid (show num 0 0 (bs.drop at') = .error 3 by rw [HN.out]; exact HSB.out (.inl ⟨k9, c1⟩))
          have HR2 := Lib.hid HQ
          clear HQ
          go_wp2_with fail
          try rw [Exit.noGoto_ret]
          go_ret
          exact ⟨0, at', 3, rfl, HR2.out, HG.out.trans (drew_g (drew_g hg)), .inr ⟨HE.out, rfl⟩⟩
        · have p2 : decide (1 < (cc : Int)) = false := by simp; omega
          by_cases c0 : cc = 0
          · have p4 : ((cc : Int) == 0) = true := by simp; omega
            go_wp2_with (go_at_call 44; refine halt_here ?_)
            refine go_on ((fails_any R _ n c bs at' 0 3 _ HR.out.drew.drew).mono ?_)
            rintro e w' ⟨rfl, HQ, hg⟩
            have HE := Lib.hid (show num 0 0 (bs.drop at') = .error 3 by rw [HN.out]; exact HSB.out (.inr ⟨by omega, c0⟩))
            have HR2 := Lib.hid HQ
            clear HQ
            go_wp2_with fail
            try rw [Exit.noGoto_ret]
            go_ret
            exact ⟨0, at', 3, rfl, HR2.out, HG.out.trans (drew_g (drew_g hg)), .inr ⟨HE.out, rfl⟩⟩
          · have p4 : ((cc : Int) == 0) = false := by simp; omega
            have p5 : decide ((cc : Int) < 128) = true := by simp; omega
            have HE := Lib.hid (show num 0 0 (bs.drop at') = .ok (m + cc % 128 * 128 ^ k, bs.drop (j + 1)) by rw [HN.out, HSP.out (by omega) (by omega), Nat.mod_eq_of_lt (by omega)])
            have NV := Lib.hid (nv9 m cc k hm hcl k9 (by omega))
            have HRS := HR.out
            go_wp2_with fail
            try rw [Exit.noGoto_ret]
            go_ret
            refine ⟨m + cc % 128 * 128 ^ k, j + 1, 0, ret1 ?_, (HRS.setAt' (j + 1) (by omega) _ (by have := HJ.out; omega)).drew.drew, HG.out.trans (g_drew (g_drew (Lib.grownBy_setCell _ _ _ _))), .inl ⟨HE.out, rfl⟩⟩
            exact congrArg (Value.int .u64) NV.out
      · have p1 : ((k : Int) == 9) = false := by simp; omega
        by_cases k0 : 0 < k
        · have p3 : decide (0 < k) = true := by simp; omega
          by_cases c0 : cc = 0
          · have p4 : ((cc : Int) == 0) = true := by simp; omega
            go_wp2_with (go_at_call 44; refine halt_here ?_)
            refine go_on ((fails_any R _ n c bs at' 0 3 _ HR.out.drew.drew).mono ?_)
            rintro e w' ⟨rfl, HQ, hg⟩
            have HE := Lib.hid (show num 0 0 (bs.drop at') = .error 3 by rw [HN.out]; exact HSB.out (.inr ⟨by omega, c0⟩))
            have HR2 := Lib.hid HQ
            clear HQ
            go_wp2_with fail
            try rw [Exit.noGoto_ret]
            go_ret
            exact ⟨0, at', 3, rfl, HR2.out, HG.out.trans (drew_g (drew_g hg)), .inr ⟨HE.out, rfl⟩⟩
          · have p4 : ((cc : Int) == 0) = false := by simp; omega
            by_cases c5 : cc < 128
            · have p5 : decide ((cc : Int) < 128) = true := by simp; omega
              have HE := Lib.hid (show num 0 0 (bs.drop at') = .ok (m + cc % 128 * 128 ^ k, bs.drop (j + 1)) by rw [HN.out, HSP.out (by omega) (by omega), Nat.mod_eq_of_lt (by omega)])
              have NV := Lib.hid (nv m cc k hm hcl (by omega))
              have HRS := HR.out
              go_wp2_with fail
              try rw [Exit.noGoto_ret]
              go_ret
              refine ⟨m + cc % 128 * 128 ^ k, j + 1, 0, ret1 ?_, (HRS.setAt' (j + 1) (by omega) _ (by have := HJ.out; omega)).drew.drew, HG.out.trans (g_drew (g_drew (Lib.grownBy_setCell _ _ _ _))), .inl ⟨HE.out, rfl⟩⟩
              exact congrArg (Value.int .u64) NV.out
            · have p5 : decide ((cc : Int) < 128) = false := by simp; omega
              have HE := Lib.hid (show num 0 0 (bs.drop at') = num (k + 1) (m + cc % 128 * 128 ^ k) (bs.drop (j + 1)) by rw [HN.out, HST.out (by omega) (by omega), show cc % 128 = cc - 128 by omega])
              have NV := Lib.hid (nv m cc k hm hcl (by omega))
              go_wp2_with fail
              go_roundw
              case rel => exact ⟨m + cc % 128 * 128 ^ k, k + 1, congrArg (Value.int .u64) NV.out, by go_num, by have := HJ.out; omega, by omega, nv_next m cc k hm, Lib.hid (by rw [HE.out, show at' + (k + 1) = j + 1 by have := HJ.out; omega]), Lib.hid HR.out.drew.drew, Lib.hid (g_drew (g_drew HG.out))⟩
              case measure => first | (simp [intOf]; done) | (simp [intOf]; have := HJ.out; omega)
        · have p3 : decide (0 < k) = false := by simp; omega
          by_cases c5 : cc < 128
          · have p5 : decide ((cc : Int) < 128) = true := by simp; omega
            have HE := Lib.hid (show num 0 0 (bs.drop at') = .ok (m + cc % 128 * 128 ^ k, bs.drop (j + 1)) by rw [HN.out, HSP.out (by omega) (by omega), Nat.mod_eq_of_lt (by omega)])
            have NV := Lib.hid (nv m cc k hm hcl (by omega))
            have HRS := HR.out
            go_wp2_with fail
            try rw [Exit.noGoto_ret]
            go_ret
            refine ⟨m + cc % 128 * 128 ^ k, j + 1, 0, ret1 ?_, (HRS.setAt' (j + 1) (by omega) _ (by have := HJ.out; omega)).drew.drew, HG.out.trans (g_drew (g_drew (Lib.grownBy_setCell _ _ _ _))), .inl ⟨HE.out, rfl⟩⟩
            exact congrArg (Value.int .u64) NV.out
          · have p5 : decide ((cc : Int) < 128) = false := by simp; omega
            have HE := Lib.hid (show num 0 0 (bs.drop at') = num (k + 1) (m + cc % 128 * 128 ^ k) (bs.drop (j + 1)) by rw [HN.out, HST.out (by omega) (by omega), show cc % 128 = cc - 128 by omega])
            have NV := Lib.hid (nv m cc k hm hcl (by omega))
            go_wp2_with fail
            go_roundw
            case rel => exact ⟨m + cc % 128 * 128 ^ k, k + 1, congrArg (Value.int .u64) NV.out, by go_num, by have := HJ.out; omega, by omega, nv_next m cc k hm, Lib.hid (by rw [HE.out, show at' + (k + 1) = j + 1 by have := HJ.out; omega]), Lib.hid HR.out.drew.drew, Lib.hid (g_drew (g_drew HG.out))⟩
            case measure => first | (simp [intOf]; done) | (simp [intOf]; have := HJ.out; omega)
    · have q1 : decide (n ≤ j) = true := by simp; omega
      go_wp2_with fail
      refine wp_region_plan [(0, none), (1, none), (2, none), (3, some none), (4, none), (5, none), (6, none), (7, none), (8, none), (9, some none), (10, none), (11, none)] (by kernel_rfl) (by kernel_rfl) ?_
      repeat (first | (refine plan_free (v := ?_) rfl rfl (fun _ => ?_) (fun K hK => ?_); rotate_left 1; (focus (go_simp <;> exact rfl)); go_simp; refine hK _ _ ?_; clear hK K) | (refine plan_held (v := ?_) rfl rfl ?_ (fun K hK => ?_); rotate_left 1; (focus (go_simp <;> exact rfl)); go_simp; refine hK _ _ ?_; clear hK K))
      refine plan_nil ?_
      go_wp2_with (go_at_call 44; refine halt_here ?_)
      refine go_on ((fails_any R a n c bs at' 0 4 _ HR.out.drew).mono ?_)
      rintro e w' ⟨rfl, HQ, hg⟩
      have HE := Lib.hid (show num 0 0 (bs.drop at') = .error 4 by rw [HN.out, List.drop_eq_nil_of_le (by have := HL.out; omega)]; rfl)
      have HR2 := Lib.hid HQ
      clear HQ
      go_wp2_with fail
      try rw [Exit.noGoto_ret]
      go_ret
      exact ⟨0, at', 4, rfl, HR2.out, HG.out.trans (drew_g hg), .inr ⟨HE.out, rfl⟩⟩

end Go.Proofs.Ytbcpdjhpceimlaa
