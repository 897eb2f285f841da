/-
  The contracts of the reading functions of layer 4's reference.
-/
import Derived.Test.YtbcpdjhpceimlaaRefPut
namespace Go.Proofs.Ytbcpdjhpceimlaa
open Go.ChangeShapes Go.WideShapes Go.ChangeAt Go.RowKit
set_option linter.unusedVariables false

/-- The reference's reader: the bytes that are left, the error. -/
structure RefAt (w : World) (R : Nat) (bs : Bytes) (e : Nat) (a : Option Addr) (n c : Nat) : Prop where
  blk : w.heap[R]? = some (.cells #[.slice a n c, .int .i64 (e : Int)] 120 (0, 0))
  cells : CellsAt w a (bc bs)
  lt : ∀ x, a = some x → x.block < R
  nc : n ≤ c
  nil : a = none → n = 0 ∧ c = 0
  len : bs.length = n
  bd : n ≤ 140737488355328

/-- What it has left, or its error. -/
def stR (bs : Bytes) (e : Nat) : St := if e = 0 then .ok bs else .error e
theorem stR_ok (bs : Bytes) : stR bs 0 = .ok bs := rfl
theorem stR_er (bs : Bytes) (e : Nat) (h : e ≠ 0) : stR bs e = .error e := if_neg h
theorem stR_err_inv {bs : Bytes} {e c : Nat} (h : stR bs e = .error c) : e = c := by
  unfold stR at h
  split at h
  · cases h
  · injection h
theorem stR_ok_inv {bs : Bytes} {e : Nat} {rest : Bytes} (h : stR bs e = .ok rest) : e = 0 ∧ bs = rest := by
  unfold stR at h
  split at h
  · rename_i h0
    injection h with h
    exact ⟨h0, h⟩
  · cases h

theorem RefAt.c0 {w : World} {R : Nat} {bs : Bytes} {e : Nat} {a : Option Addr} {n c : Nat} (h : RefAt w R bs e a n c) : w.cell? ⟨R, 0, none⟩ = some (.slice a n c) := by rw [blk_cell h.blk]; rfl
theorem RefAt.c1 {w : World} {R : Nat} {bs : Bytes} {e : Nat} {a : Option Addr} {n c : Nat} (h : RefAt w R bs e a n c) : w.cell? ⟨R, 1, none⟩ = some (.int .i64 (e : Int)) := by rw [blk_cell h.blk]; rfl
theorem RefAt.fr {w : World} {R : Nat} {bs : Bytes} {e : Nat} {a : Option Addr} {n c : Nat} (h : RefAt w R bs e a n c) : ∀ off, w.frozen? ⟨R, off, none⟩ = false := blk_free h.blk
theorem RefAt.other {w w' : World} {R : Nat} {bs : Bytes} {e : Nat} {a : Option Addr} {n c : Nat} (h : RefAt w R bs e a n c) {row : Option Nat} (hg : w.grownBy w' row) (hr : ∀ k, row = some k → R < k) : RefAt w' R bs e a n c := by
  refine ⟨?_, ?_, h.lt, h.nc, h.nil, h.len, h.bd⟩
  · rw [hg.block R (blk_lt h.blk) (fun e => by have := hr R e.symm; omega)]
    exact h.blk
  · have hc := h.cells
    have hlt := h.lt
    rcases hc with h0 | ⟨b, off, rfl, hc⟩
    · exact .inl h0
    · exact .inr ⟨b, off, rfl, fun j u hj => ext_of_grown hg _ _ (fun e => by have := hr b e.symm; have := hlt _ rfl; simp at this; omega) (hc j u hj)⟩
theorem RefAt.below {w w' : World} {R : Nat} {bs : Bytes} {e : Nat} {a : Option Addr} {n c : Nat} (h : RefAt w R bs e a n c) (hb : Below w.heap.size w w') : RefAt w' R bs e a n c :=
  ⟨by rw [hb.block R (blk_lt h.blk)]; exact h.blk, h.cells.below hb, h.lt, h.nc, h.nil, h.len, h.bd⟩
theorem RefAt.drew {w : World} {R : Nat} {bs : Bytes} {e : Nat} {a : Option Addr} {n c : Nat} (h : RefAt w R bs e a n c) : RefAt w.drew R bs e a n c := ⟨h.blk, h.cells, h.lt, h.nc, h.nil, h.len, h.bd⟩
theorem RefAt.cl {w : World} {R : Nat} {bs : Bytes} {e : Nat} {a : Option Addr} {n c : Nat} (h : RefAt w R bs e a n c) {w' : World} (hg : w.grownBy w' (some R)) : CellsAt w' a (bc bs) := by
  have hc := h.cells
  have hlt := h.lt
  rcases hc with h0 | ⟨b, off, rfl, hc⟩
  · exact .inl h0
  · exact .inr ⟨b, off, rfl, fun j u hj => ext_of_grown hg _ _ (fun e => by have h1 : b < R := hlt _ rfl; injection e with e; have h2 : b = R := e; omega) (hc j u hj)⟩
theorem RefAt.setE {w : World} {R : Nat} {bs : Bytes} {e : Nat} {a : Option Addr} {n c : Nat} (h : RefAt w R bs e a n c) (k : Nat) : RefAt (w.setCell ⟨R, 1, none⟩ (.int .i64 (k : Int))) R bs k a n c :=
  ⟨by rw [blk_setCell h.blk]; rfl, h.cl (Lib.grownBy_setCell _ _ _ _), h.lt, h.nc, h.nil, h.len, h.bd⟩

theorem CellsAt.dropped {w : World} {a : Option Addr} {bs : Bytes} (h : CellsAt w a (bc bs)) (k c : Nat) (hc : bs.length ≤ c) : CellsAt w (a.bind fun ad => if c = k then some ad else some (ad.add k)) (bc (bs.drop k)) := by
  rcases h with h | ⟨b, off, rfl, hg⟩
  · have : bs = [] := by
      cases bs with
      | nil => rfl
      | cons x t => simp [bc] at h
    subst this
    exact .inl (by simp [bc])
  · by_cases hk : c = k
    · rw [List.drop_eq_nil_of_le (by omega)]
      exact .inl rfl
    · simp only [Option.bind_some, if_neg hk, Addr.add_lit]
      refine .inr ⟨b, off + k, rfl, fun j u hj => ?_⟩
      rw [Nat.add_assoc]
      refine hg (k + j) u ?_
      rw [← hj]
      simp [bc, List.getElem?_drop]

/-- The reader has k bytes fewer. -/
theorem RefAt.skip {w : World} {R : Nat} {bs : Bytes} {e : Nat} {a : Option Addr} {n c : Nat} (h : RefAt w R bs e a n c) (k : Nat) (hk : k ≤ n) (a2 : Option Addr) (ha : a2 = a.bind fun ad => if c = k then some ad else some (ad.add k)) :
    RefAt (w.setCell ⟨R, 0, none⟩ (.slice a2 (n - k) (c - k))) R (bs.drop k) e a2 (n - k) (c - k) := by
  have hlt := h.lt
  have hnil := h.nil
  have hnc := h.nc
  have hl := h.len
  have hc := (h.cl (Lib.grownBy_setCell w R 0 (.slice a2 (n - k) (c - k)))).dropped k c (by omega)
  rw [← ha] at hc
  refine ⟨by rw [blk_setCell h.blk]; rfl, hc, ?_, by omega, ?_, by simp [hl], by have := h.bd; omega⟩
  · intro x hx
    rw [ha] at hx
    cases a with
    | none => cases hx
    | some ad =>
      simp only [Option.bind_some] at hx
      have := hlt ad rfl
      split at hx
      · cases hx; exact this
      · cases hx
        unfold Addr.add
        split <;> simpa using this
  · intro hx
    rw [ha] at hx
    cases a with
    | none => have := hnil rfl; omega
    | some ad =>
      simp only [Option.bind_some] at hx
      split at hx <;> cases hx

/-- What a reading function of the reference leaves. -/
def LeftR (w w' : World) (R : Nat) (st : St) : Prop := ∃ bs e a n c, RefAt w' R bs e a n c ∧ stR bs e = st ∧ w.grownBy w' (some R)

theorem Rfail_any (R : Nat) (bs : Bytes) (a : Option Addr) (n c k : Nat) (w : World) (h : RefAt w R bs 0 a n c) :
    Calls Try.prog 88 #[.pointer (some ⟨R, 0, none⟩), .int .i64 (k : Int)] w fun x w' => x = .returned (.tuple #[]) ∧ RefAt w' R bs k a n c ∧ w.grownBy w' (some R) := by
  have H := Lib.hid (h.setE k)
  have hc := h.c1
  have hfr := h.fr
  clear h
  go_enter Try.func88, Try.ntmps88
  go_wp2_with fail
  refine bodyPost_end (results_none rfl _ _ _) rfl ?_
  exact ⟨rfl, H.out, Lib.grownBy_setCell _ _ _ _⟩

theorem Rnumber_nil (w : World) : Calls Try.prog 87 #[.pointer none] w fun x w' => x = .returned (.int .u64 0) ∧ w = w' := by
  go_enter Try.func87, Try.ntmps87
  go_wp2_with fail
  go_ret
  exact ⟨rfl, rfl⟩

theorem Rnumber_err (R : Nat) (bs : Bytes) (e : Nat) (a : Option Addr) (n c : Nat) (he : e ≠ 0) (w : World) (h : RefAt w R bs e a n c) :
    Calls Try.prog 87 #[.pointer (some ⟨R, 0, none⟩)] w fun x w' => x = .returned (.int .u64 0) ∧ w = w' := by
  have hc1 := h.c1
  have p1 : ((e : Int) == 0) = false := by simp; omega
  clear h he
  go_enter Try.func87, Try.ntmps87
  go_wp2_with fail
  go_ret
  exact ⟨rfl, rfl⟩

theorem rv (m cc k : Nat) (hm : m < 128 ^ k) (hc : cc < 256) (hk : k ≤ 8 ∨ k = 9 ∧ cc ≤ 1) :
    IntKind.u64.wrap ((m : Int) + IntKind.u64.wrap ((cc : Int) % 128 * (128 : Int) ^ k)) = ((m + cc % 128 * 128 ^ k : Nat) : Int) := by
  have hb := nv_bd k (cc % 128) (by omega)
  have e1 : (cc : Int) % 128 * (128 : Int) ^ k = ((cc % 128 * 128 ^ k : Nat) : Int) := by rw [Int.natCast_mul, Int.natCast_pow]; rfl
  rw [e1]
  generalize 128 ^ k = z at *
  generalize cc % 128 * z = y at *
  rw [wrapU (y : Int) (by omega) (by omega), wrapU _ (by omega) (by omega)]
  omega
theorem rz (k : Nat) (hk : k ≤ 8) : IntKind.u64.wrap ((128 : Int) ^ k * 128) = (128 : Int) ^ (k + 1) := by
  have e : (128 : Int) ^ k * 128 = ((128 ^ (k + 1) : Nat) : Int) := by rw [Int.natCast_pow, Int.pow_succ]; rfl
  have h1 : 128 ^ (k + 1) ≤ 128 ^ 9 := Nat.pow_le_pow_right (by decide) (by omega)
  have h2 : (128 : Nat) ^ 9 = 9223372036854775808 := by decide
  rw [e, wrapU _ (Int.natCast_nonneg _) (Int.ofNat_lt.2 (Nat.lt_of_le_of_lt h1 (by rw [h2]; decide))), Int.natCast_pow]
  rfl

/-- What number leaves. -/
def NumPost (R : Nat) (bs : Bytes) (w : World) (x : Ending) (w' : World) : Prop :=
  ∃ (v : Nat) (st : St), x = .returned (.int .u64 (v : Int)) ∧ LeftR w w' R st ∧ ((∃ r, num 0 0 bs = .ok (v, r) ∧ st = .ok r) ∨ (∃ e, num 0 0 bs = .error e ∧ st = .error e ∧ v = 0))

set_option maxRecDepth 100000 in
set_option maxHeartbeats 4000000 in
theorem Rnumber_any (R : Nat) (bs : Bytes) (a : Option Addr) (n c : Nat) (w : World) (h : RefAt w R bs 0 a n c) :
    Calls Try.prog 87 #[.pointer (some ⟨R, 0, none⟩)] w (NumPost R bs w) := by
  have H := Lib.hid h
  have hc0 := h.c0
  have hc1 := h.c1
  have hfr := h.fr
  have hB := h.bd
  have hnc := h.nc
  have HL := Lib.hid h.len
  have HC := Lib.hid h.cells
  clear h
  go_enter Try.func87, Try.ntmps87
  go_wp2_with fail
  go_loop [3, 4, 5] (fun y z i => ∃ m k : Nat, y = .int .u64 (m : Int) ∧ z = .int .u64 ((128 : Int) ^ k) ∧ i = .int .i64 (k : Int) ∧ k ≤ n ∧ k ≤ 9 ∧ m < 128 ^ k ∧ Hid (num 0 0 bs = num k m (bs.drop k))) (fun _ _ i => n - (intOf i).toNat)
  case atStart => exact ⟨0, 0, rfl, rfl, rfl, by omega, by omega, by decide, Lib.hid rfl⟩
  case round =>
    obtain ⟨m, k, rfl, rfl, rfl, hk, hk9, hm, HN⟩ := hrel
    have HSB := Lib.hid (fun (hlb : k < bs.length) h1 => num_bad (m := m) (i := k) hlb h1)
    have HST := Lib.hid (fun (hlb : k < bs.length) h1 h2 => num_step (m := m) (i := k) hlb h1 h2)
    have HSP := Lib.hid (fun (hlb : k < bs.length) h1 h2 => num_stop (m := m) (i := k) hlb h1 h2)
    by_cases hlt : k < n
    · have hlb : k < bs.length := by have := HL.out; omega
      obtain ⟨b1, o1, rfl, g1⟩ := HC.out.pos (by rw [bc_length]; omega)
      have e1 := g1 _ _ (bc_get hlb)
      have hcl : bs[k].toNat < 256 := bs[k].toNat_lt
      have HSB := Lib.hid (HSB.out hlb)
      have HST := Lib.hid (HST.out hlb)
      have HSP := Lib.hid (HSP.out hlb)
      generalize bs[k].toNat = cc at e1 hcl HST HSP HSB
      clear g1
      by_cases k9 : k = 9
      · have p1 : ((k : Int) == 9) = true := by simp; omega
        have p3 : decide (0 < k) = true := by simp; omega
        by_cases c1 : 1 < cc
        · have p2 : decide (1 < (cc : Int)) = true := by simp; omega
          have HE := Lib.hid (show num 0 0 bs = .error 3 by rw [HN.out]; exact HSB.out (.inl ⟨k9, c1⟩))
          have HF := Lib.hid (H.out.setE 3)
          clear k9
          go_wp2_with fail
          go_ret
          exact (⟨0, .error 3, rfl, ⟨bs, 3, _, _, _, HF.out, rfl, Lib.grownBy_setCell _ _ _ _⟩, .inr ⟨3, HE.out, rfl, rfl⟩⟩ : NumPost _ _ _ _ _)
        · have p2 : decide (1 < (cc : Int)) = false := by simp; omega
          by_cases c0 : cc = 0
          · have p4 : ((cc : Int) == 0) = true := by simp; omega
            have HE := Lib.hid (show num 0 0 bs = .error 3 by rw [HN.out]; exact HSB.out (.inr ⟨by omega, c0⟩))
            have HF := Lib.hid (H.out.setE 3)
            clear k9
            go_wp2_with fail
            go_ret
            exact (⟨0, .error 3, rfl, ⟨bs, 3, _, _, _, HF.out, rfl, Lib.grownBy_setCell _ _ _ _⟩, .inr ⟨3, HE.out, rfl, rfl⟩⟩ : NumPost _ _ _ _ _)
          · have p4 : ((cc : Int) == 0) = false := by simp; omega
            have p5 : decide ((cc : Int) < 128) = true := by simp; omega
            have HE := Lib.hid (show num 0 0 bs = .ok (m + cc % 128 * 128 ^ k, bs.drop (k + 1)) by rw [HN.out, HSP.out (by omega) (by omega), Nat.mod_eq_of_lt (by omega)])
            have NV := Lib.hid (rv m cc k hm hcl (by omega))
            by_cases hck : c = k + 1
            · subst hck
              obtain rfl : n = k + 1 := by omega
              have HF := Lib.hid (show RefAt (w.setCell ⟨R, 0, none⟩ (.slice (some ⟨b1, o1, none⟩) 0 0)) R (bs.drop (k + 1)) 0 (some ⟨b1, o1, none⟩) 0 0 by
                have := H.out.skip (k + 1) (by omega) (some ⟨b1, o1, none⟩) (by simp)
                rwa [Nat.sub_self] at this)
              clear k9
              go_wp2_with fail
              go_ret
              exact (⟨m + cc % 128 * 128 ^ k, .ok (bs.drop (k + 1)), ret1 (congrArg (Value.int .u64) NV.out), ⟨_, 0, _, _, _, HF.out, rfl, Lib.grownBy_setCell _ _ _ _⟩, .inl ⟨_, HE.out, rfl⟩⟩ : NumPost _ _ _ _ _)
            · have HF := Lib.hid (show RefAt (w.setCell ⟨R, 0, none⟩ (.slice (some ⟨b1, o1 + (k + 1), none⟩) (n - (k + 1)) (c - (k + 1)))) R (bs.drop (k + 1)) 0 (some ⟨b1, o1 + (k + 1), none⟩) (n - (k + 1)) (c - (k + 1)) from
                H.out.skip (k + 1) (by omega) (some ⟨b1, o1 + (k + 1), none⟩) (by simp [hck, Addr.add_lit]))
              clear k9
              go_wp2_with fail
              go_ret
              exact (⟨m + cc % 128 * 128 ^ k, .ok (bs.drop (k + 1)), ret1 (congrArg (Value.int .u64) NV.out), ⟨_, 0, _, _, _, HF.out, rfl, Lib.grownBy_setCell _ _ _ _⟩, .inl ⟨_, HE.out, rfl⟩⟩ : NumPost _ _ _ _ _)
      · have p1 : ((k : Int) == 9) = false := by simp; omega
        by_cases k0 : 0 < k
        · have p3 : decide (0 < k) = true := by simp; omega
          by_cases c0 : cc = 0
          · have p4 : ((cc : Int) == 0) = true := by simp; omega
            have HE := Lib.hid (show num 0 0 bs = .error 3 by rw [HN.out]; exact HSB.out (.inr ⟨by omega, c0⟩))
            have HF := Lib.hid (H.out.setE 3)
            go_wp2_with fail
            go_ret
            exact (⟨0, .error 3, rfl, ⟨bs, 3, _, _, _, HF.out, rfl, Lib.grownBy_setCell _ _ _ _⟩, .inr ⟨3, HE.out, rfl, rfl⟩⟩ : NumPost _ _ _ _ _)
          · have p4 : ((cc : Int) == 0) = false := by simp; omega
            by_cases c5 : cc < 128
            · have p5 : decide ((cc : Int) < 128) = true := by simp; omega
              have HE := Lib.hid (show num 0 0 bs = .ok (m + cc % 128 * 128 ^ k, bs.drop (k + 1)) by rw [HN.out, HSP.out (by omega) (by omega), Nat.mod_eq_of_lt (by omega)])
              have NV := Lib.hid (rv m cc k hm hcl (by omega))
              by_cases hck : c = k + 1
              · subst hck
                obtain rfl : n = k + 1 := by omega
                have HF := Lib.hid (show RefAt (w.setCell ⟨R, 0, none⟩ (.slice (some ⟨b1, o1, none⟩) 0 0)) R (bs.drop (k + 1)) 0 (some ⟨b1, o1, none⟩) 0 0 by
                  have := H.out.skip (k + 1) (by omega) (some ⟨b1, o1, none⟩) (by simp)
                  rwa [Nat.sub_self] at this)
                skip
                go_wp2_with fail
                go_ret
                exact (⟨m + cc % 128 * 128 ^ k, .ok (bs.drop (k + 1)), ret1 (congrArg (Value.int .u64) NV.out), ⟨_, 0, _, _, _, HF.out, rfl, Lib.grownBy_setCell _ _ _ _⟩, .inl ⟨_, HE.out, rfl⟩⟩ : NumPost _ _ _ _ _)
              · have HF := Lib.hid (show RefAt (w.setCell ⟨R, 0, none⟩ (.slice (some ⟨b1, o1 + (k + 1), none⟩) (n - (k + 1)) (c - (k + 1)))) R (bs.drop (k + 1)) 0 (some ⟨b1, o1 + (k + 1), none⟩) (n - (k + 1)) (c - (k + 1)) from
                  H.out.skip (k + 1) (by omega) (some ⟨b1, o1 + (k + 1), none⟩) (by simp [hck, Addr.add_lit]))
                skip
                go_wp2_with fail
                go_ret
                exact (⟨m + cc % 128 * 128 ^ k, .ok (bs.drop (k + 1)), ret1 (congrArg (Value.int .u64) NV.out), ⟨_, 0, _, _, _, HF.out, rfl, Lib.grownBy_setCell _ _ _ _⟩, .inl ⟨_, HE.out, rfl⟩⟩ : NumPost _ _ _ _ _)
            · have p5 : decide ((cc : Int) < 128) = false := by simp; omega
              have HE := Lib.hid (show num 0 0 bs = num (k + 1) (m + cc % 128 * 128 ^ k) (bs.drop (k + 1)) by rw [HN.out, HST.out (by omega) (by omega), show cc % 128 = cc - 128 by omega])
              have NV := Lib.hid (rv m cc k hm hcl (by omega))
              have ZV := Lib.hid (rz k (by omega))
              go_wp2_with fail
              go_round
              case rel => exact ⟨m + cc % 128 * 128 ^ k, k + 1, congrArg (Value.int .u64) NV.out, congrArg (Value.int .u64) ZV.out, by go_num, by omega, by omega, nv_next m cc k hm, HE⟩
              case measure => first | (simp [intOf]; done) | (simp [intOf]; omega)
        · have p3 : decide (0 < k) = false := by simp; omega
          by_cases c5 : cc < 128
          · have p5 : decide ((cc : Int) < 128) = true := by simp; omega
            have HE := Lib.hid (show num 0 0 bs = .ok (m + cc % 128 * 128 ^ k, bs.drop (k + 1)) by rw [HN.out, HSP.out (by omega) (by omega), Nat.mod_eq_of_lt (by omega)])
            have NV := Lib.hid (rv m cc k hm hcl (by omega))
            by_cases hck : c = k + 1
            · subst hck
              obtain rfl : n = k + 1 := by omega
              have HF := Lib.hid (show RefAt (w.setCell ⟨R, 0, none⟩ (.slice (some ⟨b1, o1, none⟩) 0 0)) R (bs.drop (k + 1)) 0 (some ⟨b1, o1, none⟩) 0 0 by
                have := H.out.skip (k + 1) (by omega) (some ⟨b1, o1, none⟩) (by simp)
                rwa [Nat.sub_self] at this)
              skip
              go_wp2_with fail
              go_ret
              exact (⟨m + cc % 128 * 128 ^ k, .ok (bs.drop (k + 1)), ret1 (congrArg (Value.int .u64) NV.out), ⟨_, 0, _, _, _, HF.out, rfl, Lib.grownBy_setCell _ _ _ _⟩, .inl ⟨_, HE.out, rfl⟩⟩ : NumPost _ _ _ _ _)
            · have HF := Lib.hid (show RefAt (w.setCell ⟨R, 0, none⟩ (.slice (some ⟨b1, o1 + (k + 1), none⟩) (n - (k + 1)) (c - (k + 1)))) R (bs.drop (k + 1)) 0 (some ⟨b1, o1 + (k + 1), none⟩) (n - (k + 1)) (c - (k + 1)) from
                H.out.skip (k + 1) (by omega) (some ⟨b1, o1 + (k + 1), none⟩) (by simp [hck, Addr.add_lit]))
              skip
              go_wp2_with fail
              go_ret
              exact (⟨m + cc % 128 * 128 ^ k, .ok (bs.drop (k + 1)), ret1 (congrArg (Value.int .u64) NV.out), ⟨_, 0, _, _, _, HF.out, rfl, Lib.grownBy_setCell _ _ _ _⟩, .inl ⟨_, HE.out, rfl⟩⟩ : NumPost _ _ _ _ _)
          · have p5 : decide ((cc : Int) < 128) = false := by simp; omega
            have HE := Lib.hid (show num 0 0 bs = num (k + 1) (m + cc % 128 * 128 ^ k) (bs.drop (k + 1)) by rw [HN.out, HST.out (by omega) (by omega), show cc % 128 = cc - 128 by omega])
            have NV := Lib.hid (rv m cc k hm hcl (by omega))
            have ZV := Lib.hid (rz k (by omega))
            go_wp2_with fail
            go_round
            case rel => exact ⟨m + cc % 128 * 128 ^ k, k + 1, congrArg (Value.int .u64) NV.out, congrArg (Value.int .u64) ZV.out, by go_num, by omega, by omega, nv_next m cc k hm, HE⟩
            case measure => first | (simp [intOf]; done) | (simp [intOf]; omega)
    · have HE := Lib.hid (show num 0 0 bs = .error 4 by rw [HN.out, List.drop_eq_nil_of_le (by have := HL.out; omega)]; rfl)
      have HF := Lib.hid (H.out.setE 4)
      go_wp2_with fail
      go_ret
      exact (⟨0, .error 4, rfl, ⟨bs, 4, _, _, _, HF.out, rfl, Lib.grownBy_setCell _ _ _ _⟩, .inr ⟨4, HE.out, rfl, rfl⟩⟩ : NumPost _ _ _ _ _)
end Go.Proofs.Ytbcpdjhpceimlaa
