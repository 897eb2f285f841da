/-
  The plain laws of layer 27: what was encoded is decoded.
-/
import Derived.Test.YtbcpdjhpceimlaaMach
import Derived.Test.YtbcpdjhpceimlaaBack
namespace Go.Proofs.Ytbcpdjhpceimlaa
open Go.ChangeShapes Go.WideShapes Go.ChangeAt Go.RowKit
set_option linter.unusedVariables false

mutual
/-- A value that can be decoded again: texts of at most 32 bytes, lists and slices of at most 4096 elements. -/
def okV : Fld → V → Prop
  | .i, .i n => In64 n
  | .b, .b _ => True
  | .t, .t s => s.length ≤ 32
  | .u, .u n => n < 18446744073709551616
  | .l, .l xs => xs.length ≤ 4096 ∧ ∀ x ∈ xs, In64 x
  | .e s, .e rows => rows.length ≤ 4096 ∧ okRows s rows
  | _, _ => False
def okRow : List Fld → List V → Prop
  | [], [] => True
  | q :: s, v :: r => okV q v ∧ okRow s r
  | _, _ => False
def okRows : List Fld → List (List V) → Prop
  | _, [] => True
  | s, r :: rs => okRow s r ∧ okRows s rs
end

mutual
theorem backV : ∀ (q : Fld) (v : V) (rest : Bytes), okV q v → rdV q (.ok (encV v ++ rest)) = (v, .ok rest)
  | .i, .i n, rest, h => by simp only [rdV, encV, iS_back (show In64 n from h)]
  | .b, .b x, rest, h => by simp only [rdV, encV, bS_back]
  | .t, .t s, rest, h => by
    have h : s.length ≤ 32 := h
    simp only [rdV, encV, tS_back (s := s) (rest := rest) (most := 32) (by omega) (by exact h)]
  | .u, .u n, rest, h => by
    have h : n < 18446744073709551616 := h
    simp only [rdV, encV, uS_back (most := top64) h (by unfold top64; omega)]
  | .l, .l xs, rest, h => by
    have h : xs.length ≤ 4096 ∧ ∀ x ∈ xs, In64 x := h
    simp only [rdV, encV, lS_back (l := xs) (rest := rest) (most := 4096) (by omega) (by exact h.1) h.2]
  | .e s, .e rows, rest, h => by
    have h : rows.length ≤ 4096 ∧ okRows s rows := h
    simp only [rdV, encV, List.append_assoc, uS_back (n := rows.length) (most := 4096) (by omega) h.1, backRows s rows [] rest h.2, List.nil_append]
theorem backRow : ∀ (s : List Fld) (r : List V) (rest : Bytes), okRow s r → rdRow s (.ok (encRow r ++ rest)) = (r, .ok rest)
  | [], [], rest, h => by simp [rdRow, encRow]
  | q :: s, v :: r, rest, h => by
    have h : okV q v ∧ okRow s r := h
    simp only [rdRow, encRow, List.append_assoc, backV q v _ h.1, backRow s r rest h.2]
theorem backRows : ∀ (s : List Fld) (rows acc : List (List V)) (rest : Bytes), okRows s rows → rdN (rdRow s) rows.length acc (.ok (encRows rows ++ rest)) = (acc ++ rows, .ok rest)
  | s, [], acc, rest, h => by simp [rdN, encRows]
  | s, r :: rows, acc, rest, h => by
    have h : okRow s r ∧ okRows s rows := h
    simp only [List.length_cons, rdN, encRows, List.append_assoc, backRow s r _ h.1]
    rw [backRows s rows (acc ++ [r]) rest h.2]
    simp
end

/-! ### an error stays -/
theorem isN_err : ∀ (n : Nat) (acc : List Int) (c : Nat), (isN n acc (.error c)).2 = .error c
  | 0, acc, c => rfl
  | n + 1, acc, c => by rw [isN, iS_err]
theorem rdN_err (f : St → List V × St) : ∀ (n : Nat) (acc : List (List V)) (c : Nat), (rdN f n acc (.error c)).2 = .error c
  | 0, acc, c => rfl
  | n + 1, acc, c => rfl
theorem rdV_err (q : Fld) (c : Nat) : (rdV q (.error c)).2 = .error c := by
  cases q with
  | i => simp [rdV, iS_err]
  | b => simp [rdV, bS_err]
  | t => simp [rdV, tS_err]
  | u => simp [rdV, uS_err]
  | l => simp [rdV, lS_err]
  | e s => simp only [rdV, uS_err]; exact rdN_err _ _ _ _
theorem rdRow_err : ∀ (s : List Fld) (c : Nat), (rdRow s (.error c)).2 = .error c
  | [], c => by simp [rdRow]
  | q :: s, c => by simp only [rdRow, rdV_err]; exact rdRow_err s c

/-! ### a proper prefix is too short -/
theorem uS_cut {n most k : Nat} (h : n < 18446744073709551616) (hk : k < (leb n).length) : uS most (.ok ((leb n).take k)) = (0, .error 4) := by
  simp only [uS, num_cut n k h hk]
theorem iS_cut {n : Int} {k : Nat} (h : In64 n) (hk : k < (encI n).length) : (iS (.ok ((encI n).take k))).2 = .error 4 := by
  simp only [iS, encI, uS_cut (zz_lt n h.1 h.2) hk]

theorem isN_cut : ∀ (l : List Int) (acc : List Int) (k : Nat), (∀ x ∈ l, In64 x) → k < (l.flatMap encI).length → (isN l.length acc (.ok ((l.flatMap encI).take k))).2 = .error 4
  | [], acc, k, _, hk => by simp at hk
  | x :: l, acc, k, h, hk => by
    rw [List.flatMap_cons] at hk ⊢
    rw [List.length_cons, isN]
    by_cases h1 : k < (encI x).length
    · rw [List.take_append_of_le_length (by omega), iS_cut (h x (by simp)) h1]
    · rw [List.take_append, List.take_of_length_le (by omega), iS_back (h x (by simp))]
      simp only
      exact isN_cut l _ _ (fun y hy => h y (by simp [hy])) (by rw [List.length_append] at hk; omega)

/-- A prefix of two pieces. -/
theorem take_two {a b : Bytes} {k : Nat} (h : a.length ≤ k) : (a ++ b).take k = a ++ b.take (k - a.length) := by
  rw [List.take_append, List.take_of_length_le h]

mutual
theorem cutV : ∀ (q : Fld) (v : V) (k : Nat), okV q v → k < (encV v).length → (rdV q (.ok ((encV v).take k))).2 = .error 4
  | .i, .i n, k, h, hk => by simp only [rdV, encV]; exact iS_cut h hk
  | .b, .b x, k, h, hk => by
    simp only [rdV, encV, bS, encB]
    rw [uS_cut (by split <;> omega) hk]
  | .t, .t s, k, h, hk => by
    have h : s.length ≤ 32 := h
    simp only [rdV, encV] at hk ⊢
    by_cases h1 : k < (leb s.length).length
    · rw [encT, List.take_append_of_le_length (by omega)]
      unfold tS
      rw [uS_cut (by omega) h1]
    · rw [encT] at hk ⊢
      rw [take_two (by omega)]
      unfold tS
      rw [uS_back (by omega) (show s.length ≤ (32 : Int).toNat from h)]
      simp only
      rw [if_pos (by rw [List.length_append] at hk; rw [List.length_take]; omega)]
  | .u, .u n, k, h, hk => by
    have h : n < 18446744073709551616 := h
    simp only [rdV, encV]
    rw [uS_cut h hk]
  | .l, .l xs, k, h, hk => by
    have h : xs.length ≤ 4096 ∧ ∀ x ∈ xs, In64 x := h
    simp only [rdV, encV] at hk ⊢
    by_cases h1 : k < (leb xs.length).length
    · rw [encL, List.take_append_of_le_length (by omega)]
      unfold lS
      rw [uS_cut (by omega) h1]
      exact isN_err _ _ _
    · rw [encL] at hk ⊢
      rw [take_two (by omega)]
      unfold lS
      rw [uS_back (by omega) (show xs.length ≤ (4096 : Int).toNat from h.1)]
      exact isN_cut xs [] _ h.2 (by rw [List.length_append] at hk; omega)
  | .e s, .e rows, k, h, hk => by
    have h : rows.length ≤ 4096 ∧ okRows s rows := h
    simp only [rdV, encV] at hk ⊢
    by_cases h1 : k < (leb rows.length).length
    · rw [List.take_append_of_le_length (by omega), uS_cut (by omega) h1]
      exact rdN_err _ _ _ _
    · rw [take_two (by omega), uS_back (by omega) h.1]
      exact cutRows s rows [] _ h.2 (by rw [List.length_append] at hk; omega)
theorem cutRow : ∀ (s : List Fld) (r : List V) (k : Nat), okRow s r → k < (encRow r).length → (rdRow s (.ok ((encRow r).take k))).2 = .error 4
  | [], [], k, h, hk => by simp [encRow] at hk
  | q :: s, v :: r, k, h, hk => by
    have h : okV q v ∧ okRow s r := h
    rw [encRow] at hk ⊢
    simp only [rdRow]
    by_cases h1 : k < (encV v).length
    · rw [List.take_append_of_le_length (by omega), cutV q v k h.1 h1]
      exact rdRow_err s 4
    · rw [take_two (by omega), backV q v _ h.1]
      exact cutRow s r _ h.2 (by rw [List.length_append] at hk; omega)
theorem cutRows : ∀ (s : List Fld) (rows acc : List (List V)) (k : Nat), okRows s rows → k < (encRows rows).length → (rdN (rdRow s) rows.length acc (.ok ((encRows rows).take k))).2 = .error 4
  | s, [], acc, k, h, hk => by simp [encRows] at hk
  | s, r :: rows, acc, k, h, hk => by
    have h : okRow s r ∧ okRows s rows := h
    rw [encRows] at hk ⊢
    rw [List.length_cons, rdN]
    by_cases h1 : k < (encRow r).length
    · rw [List.take_append_of_le_length (by omega), cutRow s r k h.1 h1]
      exact rdN_err _ _ _ _
    · rw [take_two (by omega), backRow s r _ h.1]
      exact cutRows s rows _ _ h.2 (by rw [List.length_append] at hk; omega)
end

/-! ### what is decoded was encoded so -/
theorem uS_inv {most n : Nat} {bs r : Bytes} (h : uS most (.ok bs) = (n, .ok r)) : bs = leb n ++ r ∧ n ≤ most ∧ n < 18446744073709551616 := by
  obtain ⟨q, hq⟩ : ∃ q, num 0 0 bs = q := ⟨_, rfl⟩
  rcases q with ce | ⟨v, rest⟩
  · simp only [uS, hq] at h
    cases h
  · simp only [uS, hq] at h
    split at h
    · cases h
    · cases h
      exact ⟨leb_num hq, by omega, num_lt bs 0 0 _ _ (by omega) (by decide) hq⟩

theorem iS_inv {n : Int} {bs r : Bytes} (h : iS (.ok bs) = (n, .ok r)) : bs = encI n ++ r ∧ In64 n := by
  have h1 : n = (iS (.ok bs)).1 := by rw [h]
  have h2 : (uS top64 (.ok bs)).2 = .ok r := by have : (iS (.ok bs)).2 = .ok r := by rw [h]
                                                exact this
  have h3 := uS_inv (show uS top64 (.ok bs) = ((uS top64 (.ok bs)).1, .ok r) by rw [← h2])
  refine ⟨?_, by rw [h1]; exact iS_bd _⟩
  rw [h1, iS, encI, zz_unzz]
  exact h3.1

theorem isN_inv : ∀ (n : Nat) (acc : List Int) (bs r : Bytes) (l : List Int), isN n acc (.ok bs) = (l, .ok r) → ∃ new, l = acc ++ new ∧ new.length = n ∧ bs = new.flatMap encI ++ r ∧ ∀ x ∈ new, In64 x
  | 0, acc, bs, r, l, h => by
    rw [isN] at h
    cases h
    exact ⟨[], by simp, rfl, by simp, fun x hx => by simp at hx⟩
  | n + 1, acc, bs, r, l, h => by
    rw [isN] at h
    cases hq : (iS (.ok bs)).2 with
    | error c => rw [hq] at h; cases h
    | ok b =>
      rw [hq] at h
      have h1 := iS_inv (show iS (.ok bs) = ((iS (.ok bs)).1, .ok b) by rw [← hq])
      obtain ⟨new, e1, e2, e3, e4⟩ := isN_inv n _ b r l h
      refine ⟨(iS (.ok bs)).1 :: new, by rw [e1]; simp, by simp [e2], ?_, fun x hx => ?_⟩
      · rw [List.flatMap_cons, List.append_assoc, ← e3]
        exact h1.1
      · rcases List.mem_cons.1 hx with rfl | hx
        · exact h1.2
        · exact e4 x hx

theorem rdN_inv {s : List Fld} {f : St → List V × St} (hf : ∀ (bs r : Bytes) (v : List V), f (.ok bs) = (v, .ok r) → bs = encRow v ++ r ∧ okRow s v) :
    ∀ (n : Nat) (acc : List (List V)) (bs r : Bytes) (rows : List (List V)), rdN f n acc (.ok bs) = (rows, .ok r) → ∃ new, rows = acc ++ new ∧ new.length = n ∧ bs = encRows new ++ r ∧ okRows s new
  | 0, acc, bs, r, rows, h => by
    rw [rdN] at h
    cases h
    exact ⟨[], by simp, rfl, by simp [encRows], by simp [okRows]⟩
  | n + 1, acc, bs, r, rows, h => by
    rw [rdN] at h
    cases hq : (f (.ok bs)).2 with
    | error c =>
      rw [hq] at h
      have := rdN_err f n (acc ++ [(f (.ok bs)).1]) c
      rw [h] at this
      cases this
    | ok b =>
      rw [hq] at h
      have h1 := hf bs b (f (.ok bs)).1 (by rw [← hq])
      obtain ⟨new, e1, e2, e3, e4⟩ := rdN_inv hf n _ b r rows h
      refine ⟨(f (.ok bs)).1 :: new, by rw [e1]; simp, by simp [e2], ?_, ⟨h1.2, e4⟩⟩
      rw [encRows, List.append_assoc, ← e3]
      exact h1.1

theorem tS_inv {bs r s : Bytes} (h : tS 32 (.ok bs) = (s, .ok r)) : bs = encT s ++ r ∧ s.length ≤ 32 := by
  unfold tS at h
  cases hq : (uS (32 : Int).toNat (.ok bs)).2 with
  | error c => rw [hq] at h; cases h
  | ok b =>
    rw [hq] at h
    simp only at h
    have h1 := uS_inv (show uS (32 : Int).toNat (.ok bs) = ((uS (32 : Int).toNat (.ok bs)).1, .ok b) by rw [← hq])
    generalize (uS (32 : Int).toNat (.ok bs)).1 = n at h h1
    split at h
    · cases h
    · rename_i hlt
      cases h
      have hn : (b.take n).length = n := by rw [List.length_take]; omega
      have h2 : n ≤ 32 := h1.2.1
      refine ⟨?_, by omega⟩
      rw [encT, hn, List.append_assoc, List.take_append_drop]
      exact h1.1

theorem pair_of {α β : Type} {p : α × β} {b : β} (h : p.2 = b) : p = (p.1, b) := by rw [← h]

mutual
theorem canonV : ∀ (q : Fld) (bs r : Bytes) (v : V), rdV q (.ok bs) = (v, .ok r) → bs = encV v ++ r ∧ okV q v
  | .i, bs, r, v, h => by
    rw [rdV] at h
    injection h with h1 h2
    subst h1
    exact iS_inv (pair_of h2)
  | .b, bs, r, v, h => by
    rw [rdV] at h
    injection h with h1 h2
    subst h1
    have h3 := uS_inv (pair_of (show (uS 1 (.ok bs)).2 = .ok r from h2))
    refine ⟨?_, trivial⟩
    have h4 : encB (bS (.ok bs)).1 = leb (uS 1 (.ok bs)).1 := by
      have h5 := h3.2.1
      show encB (decide ((uS 1 (.ok bs)).1 = 1)) = _
      generalize (uS 1 (.ok bs)).1 = n at h5
      have : n = 0 ∨ n = 1 := by omega
      rcases this with rfl | rfl <;> rfl
    rw [encV, h4]
    exact h3.1
  | .t, bs, r, v, h => by
    rw [rdV] at h
    injection h with h1 h2
    subst h1
    exact tS_inv (pair_of h2)
  | .u, bs, r, v, h => by
    rw [rdV] at h
    injection h with h1 h2
    subst h1
    have h3 := uS_inv (pair_of h2)
    exact ⟨h3.1, h3.2.2⟩
  | .l, bs, r, v, h => by
    rw [rdV] at h
    injection h with h1 h2
    subst h1
    cases hq : (uS (4096 : Int).toNat (.ok bs)).2 with
    | error c =>
      unfold lS at h2
      rw [hq, isN_err] at h2
      cases h2
    | ok b =>
      have h3 := uS_inv (pair_of hq)
      unfold lS at h2 ⊢
      rw [hq] at h2 ⊢
      obtain ⟨new, e1, e2, e3, e4⟩ := isN_inv _ [] b r _ (pair_of h2)
      have h5 : (uS (4096 : Int).toNat (.ok bs)).1 ≤ 4096 := h3.2.1
      rw [e1, List.nil_append]
      refine ⟨?_, by omega, e4⟩
      rw [encV, encL, e2, List.append_assoc, ← e3]
      exact h3.1
  | .e s, bs, r, v, h => by
    rw [rdV] at h
    injection h with h1 h2
    subst h1
    cases hq : (uS 4096 (.ok bs)).2 with
    | error c =>
      rw [hq, rdN_err] at h2
      cases h2
    | ok b =>
      have h3 := uS_inv (pair_of hq)
      rw [hq] at h2
      obtain ⟨new, e1, e2, e3, e4⟩ := rdN_inv (canonRow s) _ [] b r _ (pair_of h2)
      have h5 := h3.2.1
      rw [e1, List.nil_append]
      refine ⟨?_, by omega, e4⟩
      rw [encV, e2, List.append_assoc, ← e3]
      exact h3.1
theorem canonRow : ∀ (s : List Fld) (bs r : Bytes) (v : List V), rdRow s (.ok bs) = (v, .ok r) → bs = encRow v ++ r ∧ okRow s v
  | [], bs, r, v, h => by
    rw [rdRow] at h
    cases h
    exact ⟨by simp [encRow], trivial⟩
  | q :: s, bs, r, v, h => by
    rw [rdRow] at h
    injection h with h1 h2
    subst h1
    cases hq : (rdV q (.ok bs)).2 with
    | error c => rw [hq, rdRow_err] at h2; cases h2
    | ok b =>
      rw [hq] at h2
      have h3 := canonV q bs b _ (pair_of hq)
      have h4 := canonRow s b r _ (pair_of h2)
      refine ⟨?_, h3.2, h4.2⟩
      rw [encRow, List.append_assoc, ← h4.1]
      exact h3.1
end
end Go.Proofs.Ytbcpdjhpceimlaa
