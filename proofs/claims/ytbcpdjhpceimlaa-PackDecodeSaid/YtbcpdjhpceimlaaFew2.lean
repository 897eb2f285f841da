/-
  The laws' own test that a state is small: modifications.
-/
import Derived.Test.YtbcpdjhpceimlaaFew
import Derived.WalkKit
namespace Go.Proofs.Ytbcpdjhpceimlaa
open Go.ChangeShapes Go.WideShapes Go.ChangeAt Go.RowKit
set_option linter.unusedVariables false

/-- The answer of a test that looks at memory only: true only if the value is few. -/
def FewAns (N : Nat) (q : Fld) (x : V) (w : World) (e : Ending) (w' : World) : Prop := w' = w ∧ ∃ b, e = .returned (.bool b) ∧ (b = true → fewV N 100 q x)
/-- The first k rows are few. -/
def FewTo (N : Nat) (s : List Fld) (rows : List (List V)) (k : Nat) : Prop := ∀ i r, i < k → rows[i]? = some r → fewRow N 100 s r
theorem FewTo.zero (N : Nat) (s : List Fld) (rows : List (List V)) : FewTo N s rows 0 := fun i r h => by omega
theorem FewTo.succ {N : Nat} {s : List Fld} {rows : List (List V)} {k : Nat} {r : List V} (h : FewTo N s rows k) (hr : rows[k]? = some r) (hf : fewRow N 100 s r) : FewTo N s rows (k + 1) := by
  intro i r' hi h'
  by_cases hik : i = k
  · subst hik; rw [hr] at h'; cases h'; exact hf
  · exact h i r' (by omega) h'
theorem FewTo.all {N : Nat} {s : List Fld} {rows : List (List V)} {k : Nat} (h : FewTo N s rows k) (hk : rows.length ≤ k) (hn : rows.length ≤ 100) : fewV N 100 (.e s) (.e rows) :=
  ⟨hn, fewRows_iff rows (fun i r hr => h i r (by have := (List.getElem?_eq_some_iff.1 hr).1; omega) hr)⟩

set_option maxRecDepth 100000 in
set_option maxHeartbeats 1000000 in
theorem fewMods_any (N : Nat) (a : Option Addr) (n c : Nat) (x : V) (w : World) (hN : N ≤ 100) (h : Rep (Old w) w (.e modS) x (.slice a n c)) :
    Calls Try.prog 40 #[.slice a n c, .int .i64 (N : Int)] w (FewAns N (.e modS) x w) := by
  obtain ⟨rows, f, rfl, hrl, hlc, hlm, hrs, -, hcl, hrp⟩ := vals_open h
  have HRL := Lib.hid hrl
  have HRS := Lib.hid hrs
  have HCL := Lib.hid hcl
  have HRP := Lib.hid hrp
  unfold maxLen at hlm
  have hn63 : n ≤ 9223372036854775807 := by omega
  clear h hrl hlc hrs hcl hrp
  go_enter Try.func40, Try.ntmps40
  go_wp2_with fail
  go_loopw [5] (fun i wr => ∃ k : Nat, i = .int .i64 k ∧ k ≤ n ∧ wr = w ∧ FewTo N modS rows k) (fun i _ => n - (intOf i).toNat)
  case atStart => exact ⟨0, rfl, Nat.zero_le _, rfl, FewTo.zero _ _ _⟩
  case round =>
    obtain ⟨k, rfl, hk, rfl, HF⟩ := hrel
    by_cases hlt : k < n
    · obtain ⟨g, o, rfl, hA, hgl, hcells⟩ := HCL.out (by omega)
      have hrk : rows[k]? = some (rows[k]'(by rw [HRL.out]; exact hlt)) := List.getElem?_eq_getElem _
      have hrkl := HRS.out _ (List.getElem_mem (l := rows) (n := k) (by rw [HRL.out]; exact hlt))
      have hrkr := fun j q x h1 h2 => HRP.out k j _ q x hrk h1 h2
      generalize rows[k]'(by rw [HRL.out]; exact hlt) = r at hrk hrkl hrkr
      obtain ⟨s1, hf1, hm1, P1⟩ := row_t hrkl hrkr (j := 3) rfl
      obtain ⟨s2, hf2, hm2, P2⟩ := row_t hrkl hrkr (j := 11) rfl
      have e1 : wr.cell? ⟨g, o + k * 20 + 3, none⟩ = some (.string s1) := by have h := hcells k 3 hlt (by decide); rw [len_modS, hf1] at h; simpa [Nat.add_assoc] using h
      have e2 : wr.cell? ⟨g, o + k * 20 + 4 + 7, none⟩ = some (.string s2) := by have h := hcells k 11 hlt (by decide); rw [len_modS, hf2] at h; simpa [Nat.add_assoc] using h
      have HP := Lib.hid (show s1.size ≤ N → s2.size ≤ N → fewRow N 100 modS r from fun h1 h2 => few_of_places hrkl hrkr (ps := [3, 11]) (by decide) (fun p hp => by simp at hp; rcases hp with rfl | rfl; exact P1 N 100 h1; exact P2 N 100 h2))
      have HRK := Lib.hid hrk
      clear hf1 hf2 P1 P2 hcells hrk hrkl hrkr
      by_cases h1 : N < s1.size
      · go_wp2_with fail
        go_ret
        exact ⟨rfl, false, rfl, fun h => by cases h⟩
      · by_cases h2 : N < s2.size
        · go_wp2_with fail
          go_ret
          exact ⟨rfl, false, rfl, fun h => by cases h⟩
        · go_wp2_with fail
          go_roundw
          case rel => exact ⟨k + 1, by go_num, by omega, by first | rfl | trivial, HF.succ HRK.out (HP.out (by omega) (by omega))⟩
          case measure => simp [intOf]; omega
    · go_wp2_with fail
      go_ret
      refine ⟨by first | rfl | trivial, _, rfl, fun h => HF.all (by rw [HRL.out]; omega) (by have := HRL.out; have h : decide ((n : Int) ≤ 10) = true := h; simp at h; omega)⟩
end Go.Proofs.Ytbcpdjhpceimlaa
