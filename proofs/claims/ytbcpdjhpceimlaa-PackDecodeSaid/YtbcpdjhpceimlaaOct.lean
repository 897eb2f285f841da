/-
  Layer 4 in plain Lean: the encoding of numbers, strings and lists as bytes, and the reader as a step from state to state; no program in sight.
-/
import Derived.WalkKit
namespace Go.Proofs.Ytbcpdjhpceimlaa
open Go Go.RowKit

abbrev Bytes := List UInt8

/-- The encoding of an unsigned number: groups of seven bits, least significant first. -/
def lebF : Nat → Nat → Bytes
  | 0, n => [UInt8.ofNat n]
  | f + 1, n => if n < 128 then [UInt8.ofNat n] else UInt8.ofNat (n % 128 + 128) :: lebF f (n / 128)

def leb (n : Nat) : Bytes := lebF 9 n

/-- The unsigned number that stands for an int, and back. -/
def zz (n : Int) : Nat := if 0 ≤ n then (2 * n).toNat else (-2 * n - 1).toNat
def unzz (n : Nat) : Int := if n % 2 = 1 then -((n / 2 : Nat) : Int) - 1 else ((n / 2 : Nat) : Int)

theorem unzz_zz (n : Int) : unzz (zz n) = n := by
  unfold unzz zz
  split <;> split <;> omega
theorem zz_unzz (n : Nat) : zz (unzz n) = n := by
  unfold unzz zz
  split <;> split <;> omega
theorem zz_lt (n : Int) (h0 : -9223372036854775808 ≤ n) (h1 : n ≤ 9223372036854775807) : zz n < 18446744073709551616 := by
  unfold zz
  split <;> omega
theorem unzz_bd (n : Nat) (h : n < 18446744073709551616) : -9223372036854775808 ≤ unzz n ∧ unzz n ≤ 9223372036854775807 := by
  unfold unzz
  split <;> omega

def encI (n : Int) : Bytes := leb (zz n)
def encB (b : Bool) : Bytes := leb (if b then 1 else 0)
def encT (s : Bytes) : Bytes := leb s.length ++ s
def encL (l : List Int) : Bytes := leb l.length ++ l.flatMap encI

/-- The reader: what is left, or the error. -/
abbrev St := Except Nat Bytes

/-- One number: i bytes have been read, they say a. Errors: 3 the form, 4 too short. -/
def num : Nat → Nat → Bytes → Except Nat (Nat × Bytes)
  | _, _, [] => .error 4
  | i, a, c :: t =>
    if (i = 9 ∧ 1 < c.toNat) ∨ (0 < i ∧ c.toNat = 0) then .error 3
    else if c.toNat < 128 then .ok (a + c.toNat * 128 ^ i, t)
    else num (i + 1) (a + (c.toNat - 128) * 128 ^ i) t

def uS (most : Nat) : St → Nat × St
  | .error c => (0, .error c)
  | .ok bs => match num 0 0 bs with
    | .error c => (0, .error c)
    | .ok (n, rest) => if most < n then (0, .error 2) else (n, .ok rest)

def top64 : Nat := 18446744073709551615

def iS (s : St) : Int × St := (unzz (uS top64 s).1, (uS top64 s).2)
def bS (s : St) : Bool × St := (decide ((uS 1 s).1 = 1), (uS 1 s).2)

def tS (most : Int) (s : St) : Bytes × St :=
  match (uS most.toNat s).2 with
  | .error c => ([], .error c)
  | .ok rest => if rest.length < (uS most.toNat s).1 then ([], .error 4) else (rest.take (uS most.toNat s).1, .ok (rest.drop (uS most.toNat s).1))

/-- n ints more, behind those that have been read; after an error none. -/
def isN : Nat → List Int → St → List Int × St
  | 0, acc, s => (acc, s)
  | n + 1, acc, s => match (iS s).2 with
    | .error c => ([], .error c)
    | .ok rest => isN n (acc ++ [(iS s).1]) (.ok rest)

def lS (most : Int) (s : St) : List Int × St := isN (uS most.toNat s).1 [] (uS most.toNat s).2

/-! ### the errors stay, and what is read is what was written -/
theorem uS_err (most c : Nat) : uS most (.error c) = (0, .error c) := rfl
theorem iS_err (c : Nat) : iS (.error c) = (0, .error c) := by simp [iS, uS, unzz]
theorem bS_err (c : Nat) : bS (.error c) = (false, .error c) := rfl
theorem tS_err (m : Int) (c : Nat) : tS m (.error c) = ([], .error c) := rfl
theorem lS_err (m : Int) (c : Nat) : lS m (.error c) = ([], .error c) := rfl

theorem num_code : ∀ (bs : Bytes) (i a c : Nat), num i a bs = .error c → c = 3 ∨ c = 4
  | [], _, _, _, h => by simp only [num, Except.error.injEq] at h; omega
  | b :: t, i, a, c, h => by
    unfold num at h
    split at h
    · simp only [Except.error.injEq] at h; omega
    · split at h
      · cases h
      · exact num_code t _ _ c h

theorem num_len : ∀ (bs : Bytes) (i a n : Nat) (rest : Bytes), num i a bs = .ok (n, rest) → rest.length < bs.length
  | [], _, _, _, _, h => by cases h
  | b :: t, i, a, n, rest, h => by
    unfold num at h
    split at h
    · cases h
    · split at h
      · cases h; simp
      · have := num_len t _ _ n rest h; simp; omega

/-- Bounds, by the round: what has been read is below 128 ^ i. -/
theorem num_lt : ∀ (bs : Bytes) (i a n : Nat) (rest : Bytes), i ≤ 9 → a < 128 ^ i → num i a bs = .ok (n, rest) → n < 18446744073709551616
  | [], _, _, _, _, _, _, h => by cases h
  | b :: t, i, a, n, rest, hi, ha, h => by
    have hb : b.toNat < 256 := b.toNat_lt
    unfold num at h
    split at h
    · cases h
    · rename_i hc
      split at h
      · rename_i hlt
        cases h
        by_cases h9 : i = 9
        · subst h9
          have h1 : b.toNat ≤ 1 := by omega
          have : b.toNat * 128 ^ 9 ≤ 1 * 128 ^ 9 := Nat.mul_le_mul_right _ h1
          have e : (128 : Nat) ^ 9 = 9223372036854775808 := by decide
          omega
        · have h8 : i ≤ 8 := by omega
          have h1 : b.toNat * 128 ^ i ≤ 127 * 128 ^ i := Nat.mul_le_mul_right _ (by omega)
          have h2 : 128 ^ i ≤ 128 ^ 8 := Nat.pow_le_pow_right (by decide) h8
          have e : (128 : Nat) ^ 8 = 72057594037927936 := by decide
          omega
      · rename_i hge
        have h9 : i ≠ 9 := fun e => by subst e; omega
        refine num_lt t (i + 1) _ n rest (by omega) ?_ h
        have h1 : (b.toNat - 128) * 128 ^ i ≤ 127 * 128 ^ i := Nat.mul_le_mul_right _ (by omega)
        rw [Nat.pow_succ]
        omega

theorem uS_bd (most : Nat) (s : St) : (uS most s).1 ≤ most := by
  unfold uS
  split
  · simp
  · split
    · simp
    · split <;> simp <;> omega

theorem toNat_ofNat {n : Nat} (h : n < 256) : (UInt8.ofNat n).toNat = n := by simp [UInt8.toNat_ofNat', Nat.mod_eq_of_lt h]

/-- What is written is read. -/
theorem num_lebF : ∀ (f i a n : Nat) (rest : Bytes), f + i = 9 → n < 2 * 128 ^ f → (0 < i → 0 < n) → num i a (lebF f n ++ rest) = .ok (a + n * 128 ^ i, rest)
  | 0, i, a, n, rest, hi, hn, hz => by
    have h2 : n < 2 := by simpa using hn
    have hi9 : i = 9 := by omega
    subst hi9
    have hp := hz (by omega)
    have e : (UInt8.ofNat n).toNat = n := toNat_ofNat (by omega)
    simp only [lebF, List.cons_append, List.nil_append, num, e]
    rw [if_neg (by omega), if_pos (by omega)]
  | f + 1, i, a, n, rest, hi, hn, hz => by
    unfold lebF
    by_cases h : n < 128
    · have e : (UInt8.ofNat n).toNat = n := toNat_ofNat (by omega)
      rw [if_pos h]
      simp only [List.cons_append, List.nil_append, num, e]
      rw [if_neg (by omega), if_pos h]
    · have e : (UInt8.ofNat (n % 128 + 128)).toNat = n % 128 + 128 := toNat_ofNat (by omega)
      rw [if_neg h]
      simp only [List.cons_append, num, e]
      rw [if_neg (by omega), if_neg (by omega)]
      have hn' : n / 128 < 2 * 128 ^ f := by
        rw [Nat.pow_succ] at hn
        omega
      rw [num_lebF f (i + 1) _ (n / 128) rest (by omega) hn' (fun _ => by omega)]
      have e2 : a + (n % 128 + 128 - 128) * 128 ^ i + n / 128 * 128 ^ (i + 1) = a + n * 128 ^ i := by
        have h3 : n = n % 128 + n / 128 * 128 := by omega
        have h4 : n * 128 ^ i = (n % 128) * 128 ^ i + n / 128 * 128 * 128 ^ i := by rw [← Nat.add_mul, ← h3]
        rw [h4, Nat.pow_succ, Nat.add_sub_cancel, ← Nat.mul_assoc, Nat.mul_right_comm (n / 128) (128 ^ i) 128]
        omega
      rw [e2]

theorem num_leb (n : Nat) (rest : Bytes) (h : n < 18446744073709551616) : num 0 0 (leb n ++ rest) = .ok (n, rest) := by
  have := num_lebF 9 0 0 n rest rfl (by have : (128 : Nat) ^ 9 = 9223372036854775808 := by decide
                                        omega) (fun h => by omega)
  simpa [leb] using this

/-- What is read was written so. -/
theorem lebF_num : ∀ (bs : Bytes) (f i a n : Nat) (rest : Bytes), f + i = 9 → num i a bs = .ok (n, rest) → ∃ m, n = a + m * 128 ^ i ∧ bs = lebF f m ++ rest ∧ m < 2 * 128 ^ f ∧ (0 < i → 0 < m)
  | [], _, _, _, _, _, _, h => by cases h
  | b :: t, f, i, a, n, rest, hi, h => by
    have hb : b.toNat < 256 := b.toNat_lt
    have hbn : UInt8.ofNat b.toNat = b := by simp
    unfold num at h
    split at h
    · cases h
    · rename_i hc
      split at h
      · rename_i hlt
        cases h
        refine ⟨b.toNat, rfl, ?_, ?_, fun h => by omega⟩
        · cases f with
          | zero => simp [lebF]
          | succ f => simp [lebF, hlt]
        · cases f with
          | zero => have : i = 9 := by omega
                    simp; omega
          | succ f => have : 0 < 128 ^ f := Nat.pow_pos (by decide)
                      rw [Nat.pow_succ]; omega
      · rename_i hge
        cases f with
        | zero => omega
        | succ f =>
          obtain ⟨m, h1, h2, h3, h4⟩ := lebF_num t f (i + 1) _ n rest (by omega) h
          have hm := h4 (by omega)
          refine ⟨(b.toNat - 128) + m * 128, ?_, ?_, ?_, fun _ => by omega⟩
          · rw [h1, Nat.add_mul, Nat.pow_succ, Nat.mul_assoc m 128, Nat.mul_comm 128 (128 ^ i)]
            omega
          · have e1 : ((b.toNat - 128) + m * 128) % 128 + 128 = b.toNat := by omega
            have e2 : ((b.toNat - 128) + m * 128) / 128 = m := by omega
            rw [lebF, if_neg (by omega), e1, e2, hbn, h2]
            rfl
          · rw [Nat.pow_succ]; omega

theorem leb_num {bs rest : Bytes} {n : Nat} (h : num 0 0 bs = .ok (n, rest)) : bs = leb n ++ rest := by
  obtain ⟨m, h1, h2, _, _⟩ := lebF_num bs 9 0 0 n rest rfl h
  have : m = n := by simp at h1; omega
  subst this
  exact h2

theorem lebF_length : ∀ (f n : Nat), 1 ≤ (lebF f n).length ∧ (lebF f n).length ≤ f + 1
  | 0, n => by simp [lebF]
  | f + 1, n => by
    unfold lebF
    split
    · simp
    · have := lebF_length f (n / 128)
      simp
      omega
theorem leb_length (n : Nat) : 1 ≤ (leb n).length ∧ (leb n).length ≤ 10 := lebF_length 9 n

/-- A proper prefix of a number is too short. -/
theorem num_cutF : ∀ (f i a n k : Nat), f + i = 9 → n < 2 * 128 ^ f → (0 < i → 0 < n) → k < (lebF f n).length → num i a ((lebF f n).take k) = .error 4
  | 0, i, a, n, k, _, _, _, hk => by
    have : k = 0 := by simp [lebF] at hk; omega
    subst this; rfl
  | f + 1, i, a, n, k, hi, hn, hz, hk => by
    cases k with
    | zero => rfl
    | succ k =>
      unfold lebF at hk ⊢
      by_cases h : n < 128
      · rw [if_pos h] at hk; simp at hk
      · have e : (UInt8.ofNat (n % 128 + 128)).toNat = n % 128 + 128 := toNat_ofNat (by omega)
        rw [if_neg h] at hk ⊢
        simp only [List.take_succ_cons, num, e]
        rw [if_neg (by omega), if_neg (by omega)]
        exact num_cutF f (i + 1) _ (n / 128) k (by omega) (by rw [Nat.pow_succ] at hn; omega) (fun _ => by omega) (by simpa using hk)

theorem num_cut (n k : Nat) (h : n < 18446744073709551616) (hk : k < (leb n).length) : num 0 0 ((leb n).take k) = .error 4 :=
  num_cutF 9 0 0 n k rfl (by have : (128 : Nat) ^ 9 = 9223372036854775808 := by decide
                             omega) (fun h => by omega) hk

theorem or128_all : ∀ r : Fin 256, bits BinOp.or IntKind.u8 ((r.val : Nat) : Int) 128 = ((r.val % 128 + 128 : Nat) : Int) := by decide +kernel
theorem or128 (m : Nat) : bits BinOp.or IntKind.u8 ((m : Int) % 256) 128 = ((m % 128 + 128 : Nat) : Int) := by
  have h := or128_all ⟨m % 256, Nat.mod_lt _ (by decide)⟩
  simp only at h
  rw [show ((m % 256 : Nat) : Int) = (m : Int) % 256 by omega] at h
  rw [h]
  omega
end Go.Proofs.Ytbcpdjhpceimlaa
