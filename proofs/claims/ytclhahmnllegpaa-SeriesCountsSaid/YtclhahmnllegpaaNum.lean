/-
  Layer 55 in plain Lean: the counts, who lost last, and how a match is decided; no program in sight.
-/
import Derived.WalkKit
namespace Go.Proofs.Ytclhahmnllegpaa
open Go Go.RowKit

/-- Games won by p. -/
def cw (g : List Int) (p : Int) : Nat := if p = 0 ∨ p = 1 then g.count p else 0

theorem cw_le (g : List Int) (p : Int) : cw g p ≤ g.length := by
  unfold cw
  split
  · exact List.count_le_length
  · omega

theorem cw0 (g : List Int) : cw g 0 = g.count 0 := by simp [cw]
theorem cw1 (g : List Int) : cw g 1 = g.count 1 := by simp [cw]

theorem cw_succ (g : List Int) (k : Nat) (p : Int) (h : k < g.length) : cw (g.take (k + 1)) p = cw (g.take k) p + if g.getD k 0 = p ∧ (p = 0 ∨ p = 1) then 1 else 0 := by
  unfold cw
  rw [List.take_succ_eq_append_getElem h]
  have e : g.getD k 0 = g[k] := by simp [h]
  rw [e]
  by_cases h1 : p = 0 ∨ p = 1
  · simp only [h1, if_true, and_true, List.count_append, List.count_singleton, beq_iff_eq]
  · simp [h1]

theorem two_counts (g : List Int) : g.count 0 + g.count 1 ≤ g.length := by
  induction g with
  | nil => simp
  | cons x t ih =>
    simp only [List.count_cons, List.length_cons, beq_iff_eq]
    by_cases h0 : x = 0
    · subst h0; simp; omega
    · simp only [h0, if_false]; split <;> omega

/-- Who lost the last game that was not a draw; the list from its end. -/
def loserL : List Int → Int
  | [] => 0
  | x :: t => if x = 0 ∨ x = 1 then 1 - x else loserL t

def loserOf (g : List Int) : Int := loserL g.reverse

theorem loser_step (g : List Int) (k : Nat) (h : k < g.length) : loserL (g.take (k + 1)).reverse = if g.getD k 0 = 0 ∨ g.getD k 0 = 1 then 1 - g.getD k 0 else loserL (g.take k).reverse := by
  have e : g.getD k 0 = g[k] := by simp [h]
  rw [List.take_succ_eq_append_getElem h, List.reverse_append, e]
  rfl

/-- The player with more wins. -/
def leadN (a b : Nat) : Int := if b < a then 0 else if a < b then 1 else -1
def leadOf (l : List Int) : Int := leadN (l.count 0) (l.count 1)

/-- The match is decided by the first n games. -/
def stopAt (g : List Int) (b : Int) (n : Nat) : Prop := b / 2 < ((g.take n).count 0 : Nat) ∨ b / 2 < ((g.take n).count 1 : Nat) ∨ (n : Int) = b

/-- What Decided answers. -/
def DecR (g : List Int) (b : Int) (p : Int) (ok : Bool) : Prop :=
  (ok = true ∧ ∃ n, 0 < n ∧ n ≤ g.length ∧ stopAt g b n ∧ (∀ m, 0 < m → m < n → ¬ stopAt g b m) ∧ p = leadOf (g.take n)) ∨
  (ok = false ∧ p = -1 ∧ ∀ m, 0 < m → m ≤ g.length → ¬ stopAt g b m)

theorem decR_one {g : List Int} {b p q : Int} {ok is : Bool} (h : DecR g b p ok) (k : DecR g b q is) : p = q ∧ ok = is := by
  rcases h with ⟨rfl, n, n0, n1, n2, n3, rfl⟩ | ⟨rfl, rfl, n3⟩ <;> rcases k with ⟨rfl, m, m0, m1, m2, m3, rfl⟩ | ⟨rfl, rfl, m3⟩
  · have : n = m := by
      rcases Nat.lt_trichotomy n m with h | h | h
      · exact absurd n2 (m3 n n0 h)
      · exact h
      · exact absurd m2 (n3 m m0 h)
    subst this
    exact ⟨rfl, rfl⟩
  · exact absurd n2 (m3 n n0 n1)
  · exact absurd m2 (n3 m m0 m1)
  · exact ⟨rfl, rfl⟩

theorem decR_no {g : List Int} {b p : Int} (hb : 1 ≤ b) (h : DecR g b p false) : p = -1 ∧ (g.length : Int) < b := by
  rcases h with ⟨h, _⟩ | ⟨_, rfl, h3⟩
  · cases h
  · refine ⟨rfl, ?_⟩
    rcases Int.lt_or_le (g.length : Int) b with h | h
    · exact h
    · exact absurd (.inr (.inr (by omega))) (h3 b.toNat (by omega) (by omega))

theorem stop_append (g l : List Int) (b : Int) (n : Nat) (h : n ≤ g.length) : stopAt (g ++ l) b n ↔ stopAt g b n := by
  unfold stopAt
  rw [List.take_append_of_le_length h]

theorem decR_more {g l : List Int} {b p : Int} (h : DecR g b p true) : DecR (g ++ l) b p true := by
  rcases h with ⟨_, n, n0, n1, n2, n3, rfl⟩ | ⟨h, _⟩
  · refine .inl ⟨rfl, n, n0, by simp; omega, (stop_append g l b n n1).2 n2, fun m m0 m1 hm => n3 m m0 m1 ((stop_append g l b m (by omega)).1 hm), ?_⟩
    rw [List.take_append_of_le_length n1]
  · cases h

/-! ### another list with the same counts -/
theorem decR_same {g h : List Int} (hl : h.length = g.length) (h0 : ∀ n, (h.take n).count 0 = (g.take n).count 0) (h1 : ∀ n, (h.take n).count 1 = (g.take n).count 1) {b p : Int} {ok : Bool}
    (k : DecR g b p ok) : DecR h b p ok := by
  have hs : ∀ n, stopAt h b n ↔ stopAt g b n := fun n => by unfold stopAt; rw [h0, h1]
  rcases k with ⟨rfl, n, n0, n1, n2, n3, rfl⟩ | ⟨rfl, rfl, n3⟩
  · exact .inl ⟨rfl, n, n0, by omega, (hs n).2 n2, fun m m0 m1 hm => n3 m m0 m1 ((hs m).1 hm), by simp [leadOf, h0, h1]⟩
  · exact .inr ⟨rfl, rfl, fun m m0 m1 hm => n3 m m0 (by omega) ((hs m).1 hm)⟩

def mirror (p : Int) : Int := if p = 0 then 1 else if p = 1 then 0 else p

theorem lead_swap (a b : Nat) : leadN b a = mirror (leadN a b) := by
  unfold leadN mirror
  by_cases h1 : b < a
  · simp [h1, show ¬ a < b by omega]
  · by_cases h2 : a < b
    · simp [h1, h2]
    · simp [h1, h2]

theorem lead_range (a b : Nat) : leadN a b = 0 ∨ leadN a b = 1 ∨ leadN a b = -1 := by
  unfold leadN
  split
  · exact .inl rfl
  · split
    · exact .inr (.inl rfl)
    · exact .inr (.inr rfl)

theorem decR_range {g : List Int} {b p : Int} {ok : Bool} (h : DecR g b p ok) : p = 0 ∨ p = 1 ∨ p = -1 := by
  rcases h with ⟨_, n, _, _, _, _, rfl⟩ | ⟨_, rfl, _⟩
  · exact lead_range _ _
  · exact .inr (.inr rfl)

theorem decR_swap {g h : List Int} (hl : h.length = g.length) (h0 : ∀ n, (h.take n).count 0 = (g.take n).count 1) (h1 : ∀ n, (h.take n).count 1 = (g.take n).count 0) {b p : Int} {ok : Bool}
    (k : DecR g b p ok) : DecR h b (mirror p) ok := by
  have hs : ∀ n, stopAt h b n ↔ stopAt g b n := fun n => by unfold stopAt; rw [h0, h1]; constructor <;> (rintro (h | h | h); exact .inr (.inl h); exact .inl h; exact .inr (.inr h))
  rcases k with ⟨rfl, n, n0, n1, n2, n3, rfl⟩ | ⟨rfl, rfl, n3⟩
  · exact .inl ⟨rfl, n, n0, by omega, (hs n).2 n2, fun m m0 m1 hm => n3 m m0 m1 ((hs m).1 hm), by rw [leadOf, leadOf, h0, h1]; exact (lead_swap _ _).symm⟩
  · exact .inr ⟨rfl, rfl, fun m m0 m1 hm => n3 m m0 (by omega) ((hs m).1 hm)⟩

/-- The games, the players exchanged. -/
def swapG (x : Int) : Int := if x = 0 ∨ x = 1 then 1 - x else x
theorem count_swap (l : List Int) : (l.map swapG).count 0 = l.count 1 ∧ (l.map swapG).count 1 = l.count 0 := by
  induction l with
  | nil => simp
  | cons x t ih =>
    simp only [List.map_cons, List.count_cons, beq_iff_eq, ih.1, ih.2]
    unfold swapG
    by_cases h0 : x = 0
    · subst h0; simp
    · by_cases h1 : x = 1
      · subst h1; simp
      · simp [h0, h1]

/-- The games, another number for a draw. -/
def drawG (n x : Int) : Int := if x = 0 ∨ x = 1 then x else n
theorem count_draw (n : Int) (hn : n ≠ 0 ∧ n ≠ 1) (l : List Int) : (l.map (drawG n)).count 0 = l.count 0 ∧ (l.map (drawG n)).count 1 = l.count 1 := by
  induction l with
  | nil => simp
  | cons x t ih =>
    simp only [List.map_cons, List.count_cons, beq_iff_eq, ih.1, ih.2]
    unfold drawG
    by_cases h0 : x = 0
    · subst h0; simp
    · by_cases h1 : x = 1
      · subst h1; simp
      · simp [h0, h1, hn.1, hn.2]

theorem loser_draw (n : Int) (hn : n ≠ 0 ∧ n ≠ 1) (l : List Int) : loserL (l.map (drawG n)) = loserL l := by
  induction l with
  | nil => rfl
  | cons x t ih =>
    simp only [List.map_cons, loserL, ih]
    unfold drawG
    by_cases h : x = 0 ∨ x = 1
    · simp [h]
    · simp [h, hn.1, hn.2]
end Go.Proofs.Ytclhahmnllegpaa
