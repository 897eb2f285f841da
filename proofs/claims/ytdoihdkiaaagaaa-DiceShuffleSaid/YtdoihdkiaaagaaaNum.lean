/-
  The numbers of layer 6: the next seed, the value, and the shuffle, as plain functions; no program in sight.
-/
import Derived.WalkKit
import Derived.OpenShut
namespace Go.Proofs.Ytdoihdkiaaagaaa
open Go Go.RowKit

/-- The next seed. -/
def sd (s : Int) : Int := IntKind.u64.wrap (s + 11400714819323198485)
def m1 (s : Int) : Int := IntKind.u64.wrap (bits BinOp.xor IntKind.u64 (sd s) (sd s / 1073741824) * 13787848793156543929)
def m2 (s : Int) : Int := IntKind.u64.wrap (bits BinOp.xor IntKind.u64 (m1 s) (m1 s / 134217728) * 10723151780598845931)
/-- The value. -/
def mixv (s : Int) : Int := bits BinOp.xor IntKind.u64 (m2 s) (m2 s / 2147483648)

theorem sd_wf (s : Int) : (Lit.int .u64 (sd s)).wf = true := wf_wrap .u64 _
theorem mixv_wf (s : Int) : (Lit.int .u64 (mixv s)).wf = true := wf_bits _ .u64 _ _
theorem bd_u64 {x : Int} (h : (Lit.int .u64 x).wf = true) : 0 ≤ x ∧ x ≤ 18446744073709551615 := bounds_u64 h
theorem mixv_nonneg (s : Int) : 0 ≤ mixv s := (bd_u64 (mixv_wf s)).1

/-- Below: the number and the next seed. -/
def belowN (s n : Int) : Int := if n < 1 then 0 else mixv s % n
def belowS (s n : Int) : Int := if n < 1 then s else sd s

theorem belowN_bd (s n : Int) (h : 1 ≤ n) : 0 ≤ belowN s n ∧ belowN s n < n := by
  unfold belowN
  rw [if_neg (by omega)]
  exact ⟨Int.emod_nonneg _ (by omega), Int.emod_lt_of_pos _ (by omega)⟩

theorem belowS_wf (s n : Int) (h : (Lit.int .u64 s).wf = true) : (Lit.int .u64 (belowS s n)).wf = true := by
  unfold belowS
  split
  · exact h
  · exact sd_wf s

/-- One exchange. -/
def swp (l : List Int) (i j : Nat) : List Int := (l.set i (l.getD j 0)).set j (l.getD i 0)

/-- The exchanges for i = k, k-1, .., 1. -/
def shufL : Nat → Int → List Int → List Int
  | 0, _, l => l
  | k + 1, s, l => shufL k (sd s) (swp l (k + 1) (belowN s ((k : Int) + 1 + 1)).toNat)
def shufS : Nat → Int → Int
  | 0, s => s
  | k + 1, s => shufS k (sd s)

theorem swp_length (l : List Int) (i j : Nat) : (swp l i j).length = l.length := by simp [swp]
theorem shufL_length : ∀ (k : Nat) (s : Int) (l : List Int), (shufL k s l).length = l.length
  | 0, _, _ => rfl
  | k + 1, s, l => by rw [shufL, shufL_length]; exact swp_length _ _ _
theorem shufS_wf : ∀ (k : Nat) (s : Int), (Lit.int .u64 s).wf = true → (Lit.int .u64 (shufS k s)).wf = true
  | 0, _, h => h
  | k + 1, s, _ => shufS_wf k (sd s) (sd_wf s)

/-- How often x stands in l. -/
def cnt (x : Int) (l : List Int) : Nat := l.count x

theorem swp_perm (l : List Int) (i j : Nat) (hi : i < l.length) (hj : j < l.length) : (swp l i j).Perm l := by
  unfold swp
  by_cases hij : i = j
  · subst hij
    have : (l.set i (l.getD i 0)).set i (l.getD i 0) = l := by
      apply List.ext_getElem?
      intro k
      simp only [List.getElem?_set, List.length_set]
      split
      · rename_i h; subst h; simp [hi]
      · rfl
    rw [this]
  · rw [List.perm_iff_count]
    intro x
    have e1 : l.getD i 0 = l[i] := by simp [hi]
    have e2 : l.getD j 0 = l[j] := by simp [hj]
    rw [e1, e2, List.count_set (by simpa using hj), List.count_set hi]
    have e3 : (l.set i l[j])[j]'(by simpa using hj) = l[j] := by simp [hij]
    rw [e3]
    have p1 : (if l[i] == x then 1 else 0) ≤ l.count x := by
      split
      · rename_i h
        have : x ∈ l := by rw [← eq_of_beq h]; exact List.getElem_mem hi
        exact List.count_pos_iff.2 this
      · omega
    split <;> split <;> simp_all <;> omega

theorem shufL_perm : ∀ (k : Nat) (s : Int) (l : List Int), k < l.length ∨ k = 0 → (shufL k s l).Perm l
  | 0, _, _, _ => List.Perm.refl _
  | k + 1, s, l, h => by
    have h : k + 1 < l.length := by omega
    have hb := belowN_bd s ((k : Int) + 1 + 1) (by omega)
    rw [shufL]
    refine (shufL_perm k _ _ (.inl (by rw [swp_length]; omega))).trans (swp_perm l _ _ h (by omega))
end Go.Proofs.Ytdoihdkiaaagaaa
