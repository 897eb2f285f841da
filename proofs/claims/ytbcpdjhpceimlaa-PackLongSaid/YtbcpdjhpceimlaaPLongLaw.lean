/-
  Too long a text, too long a list: the plain law; the states of the law, in memory.
-/
import Derived.Test.YtbcpdjhpceimlaaPLib
namespace Go.Proofs.Ytbcpdjhpceimlaa
open Go.ChangeShapes Go.WideShapes Go.ChangeAt Go.RowKit
set_option linter.unusedVariables false

/-- A field that is not read, whatever follows: behind fields that are read. -/
theorem rdRow_stop {c : Nat} (s1 : List Fld) (q : Fld) (s2 : List Fld) (v1 : List V) (x : V) (v2 : List V) (rest : Bytes) (h1 : okRow s1 v1) (hq : ∀ r, (rdV q (.ok (encV x ++ r))).2 = .error c) :
    (rdRow (s1 ++ q :: s2) (.ok (encRow (v1 ++ x :: v2) ++ rest))).2 = .error c := by
  rw [rdRow_append, encRow_append, List.append_assoc, backRow s1 v1 _ h1]
  simp only [encRow, rdRow, List.append_assoc, hq, rdRow_err]
/-- A slice of one struct that is not read. -/
theorem rdV_stop {c : Nat} (s : List Fld) (r : List V) (rest : Bytes) (h : ∀ r', (rdRow s (.ok (encRow r ++ r'))).2 = .error c) : (rdV (.e s) (.ok (encV (.e [r]) ++ rest))).2 = .error c := by
  simp only [rdV, encV, List.length_cons, List.length_nil, List.append_assoc, encRows_one]
  rw [uS_back (by omega) (by omega)]
  simp only [rdN, h]
theorem text_long (b rest : Bytes) (h : 32 < b.length) (h2 : b.length < 18446744073709551616) : (rdV .t (.ok (encV (.t b) ++ rest))).2 = .error 2 := by
  simp only [rdV, encV, encT, List.append_assoc, tS]
  rw [show (uS (32 : Int).toNat (.ok (leb b.length ++ (b ++ rest)))) = (0, .error 2) by
    simp only [uS, num_leb b.length _ h2]
    rw [if_pos (by simpa using h)]]
theorem ints_long (l : List Int) (rest : Bytes) (h : 4096 < l.length) (h2 : l.length < 18446744073709551616) : (rdV .l (.ok (encV (.l l) ++ rest))).2 = .error 2 := by
  simp only [rdV, encV, encL, List.append_assoc, lS]
  rw [show (uS (4096 : Int).toNat (.ok (leb l.length ++ (l.flatMap encI ++ rest)))) = (0, .error 2) by
    simp only [uS, num_leb l.length _ h2]
    rw [if_pos (by simpa using h)]]
  exact isN_err _ _ _

/-- The modification of the law. -/
def longM (b : Bytes) : List V := [.i 0, .i 0, .i 0, .t b, .i 0, .i 0, .i 0, .i 0, .i 0, .i 0, .i 0, .t [], .i 0, .i 0, .i 0, .i 0, .i 0, .i 0, .i 0, .i 0]
def longC (b : Bytes) : List V := [.i 0, .i 0, .i 0, .i 0, .l [], .e [longM b]]
def longS (b : Bytes) : List V := [.e [], .e [], .l [], .l [], .e [], .e [], .e [longC b], .i 0, .i 0, .i 0, .b false, .i 0, .i 0, .i 0, .i 0, .u 0, .l [], .i 0, .i 0]
def exileS (l : List Int) : List V := [.e [], .e [], .l [], .l l, .e [], .e [], .e [], .i 0, .i 0, .i 0, .b false, .i 0, .i 0, .i 0, .i 0, .u 0, .l [], .i 0, .i 0]

theorem longS_err (b : Bytes) (h : 32 < b.length) (h2 : b.length < 18446744073709551616) : (rdRow stateS (.ok (encRow (longS b)))).2 = .error 2 := by
  have h3 := rdRow_stop (c := 2) [.e playerS, .e objectS, .l, .l, .e itemS, .e waitingS] (.e contS) [.i, .i, .i, .b, .i, .i, .i, .i, .u, .l, .i, .i] [.e [], .e [], .l [], .l [], .e [], .e []] (.e [longC b]) [.i 0, .i 0, .i 0, .b false, .i 0, .i 0, .i 0, .i 0, .u 0, .l [], .i 0, .i 0] []
    (by simp [okRow, okV, okRows]) (fun r => rdV_stop _ _ _ (fun r' => rdRow_stop (c := 2) [.i, .i, .i, .i, .l] (.e modS) [] [.i 0, .i 0, .i 0, .i 0, .l []] (.e [longM b]) [] r'
      (by simp [okRow, okV, In64]) (fun r2 => rdV_stop _ _ _ (fun r3 => rdRow_stop (c := 2) [.i, .i, .i] .t filterS [.i 0, .i 0, .i 0] (.t b) [.i 0, .i 0, .i 0, .i 0, .i 0, .i 0, .i 0, .t [], .i 0, .i 0, .i 0, .i 0, .i 0, .i 0, .i 0, .i 0] r3
        (by simp [okRow, okV, In64]) (fun r4 => text_long b r4 h h2)))))
  rw [List.append_nil] at h3
  exact h3
theorem exileS_err (l : List Int) (h : 4096 < l.length) (h2 : l.length < 18446744073709551616) : (rdRow stateS (.ok (encRow (exileS l)))).2 = .error 2 := by
  have h3 := rdRow_stop (c := 2) [.e playerS, .e objectS, .l] .l [.e itemS, .e waitingS, .e contS, .i, .i, .i, .b, .i, .i, .i, .i, .u, .l, .i, .i] [.e [], .e [], .l []] (.l l) [.e [], .e [], .e [], .i 0, .i 0, .i 0, .b false, .i 0, .i 0, .i 0, .i 0, .u 0, .l [], .i 0, .i 0] []
    (by simp [okRow, okV, okRows]) (fun r => ints_long l r h h2)
  rw [List.append_nil] at h3
  exact h3
theorem longS_ok (b : Bytes) (h : b.length ≤ 32) : okRow stateS (longS b) := by
  simp [longS, longC, longM, stateS, contS, modS, filterS, okRow, okV, okRows, In64, List.replicate]
  exact h
theorem exileS_ok (l : List Int) (h : l.length ≤ 4096) (h2 : ∀ x ∈ l, In64 x) : okRow stateS (exileS l) := by
  simp [exileS, stateS, okRow, okV, okRows, In64, List.replicate]
  exact ⟨h, h2⟩
theorem longS_len (b : Bytes) (h : b.length ≤ 200) : (encRow (longS b)).length ≤ 17000000000000 := by
  have h1 : fewRow 200 100 stateS (longS b) := by
    simp [longS, longC, longM, stateS, contS, modS, filterS, fewRow, fewV, fewRows, In64, List.replicate]
    exact h
  exact Nat.le_trans (bndRow_le 200 100 stateS _ h1) (by decide +kernel)
theorem exileS_len (l : List Int) (h : l.length ≤ 5000) : (encRow (exileS l)).length ≤ 17000000000000 := by
  have h3 := encL_len l
  have h4 : encRow (exileS l) = encRow [.e [], .e [], .l []] ++ (encL l ++ encRow [.e [], .e [], .e [], .i 0, .i 0, .i 0, .b false, .i 0, .i 0, .i 0, .i 0, .u 0, .l [], .i 0, .i 0]) := by
    rw [show exileS l = [.e [], .e [], .l []] ++ (.l l :: [.e [], .e [], .e [], .i 0, .i 0, .i 0, .b false, .i 0, .i 0, .i 0, .i 0, .u 0, .l [], .i 0, .i 0]) from rfl, encRow_append]
    rfl
  have h5 : (encRow [.e [], .e [], .l []]).length = 3 := by decide +kernel
  have h6 : (encRow [.e [], .e [], .e [], .i 0, .i 0, .i 0, .b false, .i 0, .i 0, .i 0, .i 0, .u 0, .l [], .i 0, .i 0]).length = 15 := by decide +kernel
  rw [h4, List.length_append, List.length_append, h5, h6]
  omega

theorem rep_one_row {A : Nat → Prop} {w : World} {s : List Fld} {v : List V} {cs : Array Value} {g : Nat} {T : TypeId} (h : w.heap[g]? = some (.cells cs T (0, 0))) (hA : A g) (hr : RowRep A w s v cs.toList) : Rep A w (.e s) (.e [v]) (.slice (some ⟨g, 0, none⟩) 1 1) := by
  refine .e s [v] _ 1 1 (fun _ j => cs.toList.getD j undef) rfl (Nat.le_refl _) (by decide) (fun h => by cases h) (fun x hx _ => by cases hx; exact ⟨hA, blk_lt h, rfl⟩) (fun r hm => by simp at hm; subst hm; exact hr.1) (fun g' o i j hgo hi hj => ?_) (fun i j r q x h1 h2 h3 => ?_)
  · cases hgo
    have hi0 : i = 0 := by omega
    subst hi0
    rw [Nat.zero_mul, Nat.zero_add, Nat.zero_add]
    exact blk_f h rfl (by have := hr.2.1; simp at this; omega)
  · cases i with
    | succ i => simp at h1
    | zero =>
      simp at h1
      subst h1
      exact row_f hr j q x h2 h3

/-- What Decode leaves, whatever it is. -/
theorem DecPost.any {w : World} {bs : Bytes} {e : Ending} {w' : World} (h : DecPost w bs e w') :
    ∃ (us : Array Value) (c : Int), e = .returned (.tuple #[.agg us, .int .i64 c]) ∧ us.size = 19 ∧ us.all (·.oneCell') = true ∧ Below w.heap.size w w' ∧ (∀ k : Nat, (rdRow stateS (.ok bs)).2 = .error k → c = k) ∧ ((rdRow stateS (.ok bs)).2 = .ok [] → c = 0) := by
  obtain ⟨hb, h⟩ := h
  split at h
  · rename_i k hk
    exact ⟨_, _, h, rfl, one_zeroS, hb, fun k' hk' => (by rw [hk] at hk'; cases hk'; rfl), fun h0 => by rw [hk] at h0; cases h0⟩
  · rename_i r hk
    split at h
    · obtain ⟨us, h1, h2⟩ := h
      exact ⟨_, _, h1, size_row h2, one_row h2, hb, fun k' hk' => (by rw [hk] at hk'; cases hk'), fun h0 => rfl⟩
    · rename_i hr
      exact ⟨_, _, h, rfl, one_zeroS, hb, fun k' hk' => (by rw [hk] at hk'; cases hk'), fun h0 => by rw [hk] at h0; injection h0 with h0; exact absurd h0 hr⟩
end Go.Proofs.Ytbcpdjhpceimlaa
