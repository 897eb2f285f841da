/-
  What the laws of decoding share: an error is never 0; what Decode leaves, told by what is read; the zero state.
-/
import Derived.Test.YtbcpdjhpceimlaaPLib
import Derived.Test.YtbcpdjhpceimlaaSameD
namespace Go.Proofs.Ytbcpdjhpceimlaa
open Go.ChangeShapes Go.WideShapes Go.ChangeAt Go.RowKit
set_option linter.unusedVariables false

/-- No error, or one that is told by a number other than 0. -/
def Good (s : St) : Prop := ∀ c, s = .error c → c ≠ 0
theorem Good.ok (b : Bytes) : Good (.ok b) := fun c h => by cases h
theorem uS_good (m : Nat) (s : St) (h : Good s) : Good (uS m s).2 := by
  cases s with
  | error c => exact h
  | ok b =>
    unfold uS
    simp only
    split
    · rename_i c hc
      exact fun c' h' => by cases h'; exact num_pos hc
    · split
      · exact fun c' h' => by cases h'; decide
      · exact Good.ok _
theorem iS_good (s : St) (h : Good s) : Good (iS s).2 := uS_good _ _ h
theorem bS_good (s : St) (h : Good s) : Good (bS s).2 := uS_good _ _ h
theorem tS_good (m : Int) (s : St) (h : Good s) : Good (tS m s).2 := by
  have h1 := uS_good m.toNat s h
  unfold tS
  split
  · rename_i c hc
    rw [hc] at h1
    exact h1
  · split
    · exact fun c' h' => by cases h'; decide
    · exact Good.ok _
theorem isN_good : ∀ (n : Nat) (acc : List Int) (s : St), Good s → Good (isN n acc s).2
  | 0, acc, s, h => h
  | n + 1, acc, s, h => by
    have h1 := iS_good s h
    rw [isN]
    split
    · rename_i c hc
      rw [hc] at h1
      exact h1
    · exact isN_good n _ _ (Good.ok _)
theorem lS_good (m : Int) (s : St) (h : Good s) : Good (lS m s).2 := isN_good _ _ _ (uS_good _ _ h)
theorem rdN_good (f : St → List V × St) (hf : ∀ s, Good s → Good (f s).2) : ∀ (n : Nat) (acc : List (List V)) (s : St), Good s → Good (rdN f n acc s).2
  | 0, acc, s, h => h
  | n + 1, acc, .error c, h => h
  | n + 1, acc, .ok b, h => rdN_good f hf n _ _ (hf _ (Good.ok b))
mutual
theorem rdV_good : ∀ (q : Fld) (s : St), Good s → Good (rdV q s).2
  | .i, s, h => iS_good s h
  | .b, s, h => bS_good s h
  | .t, s, h => tS_good _ s h
  | .u, s, h => uS_good _ s h
  | .l, s, h => lS_good _ s h
  | .e fs, s, h => by
    simp only [rdV]
    exact rdN_good _ (fun s h => rdRow_good fs s h) _ _ _ (uS_good _ _ h)
theorem rdRow_good : ∀ (fs : List Fld) (s : St), Good s → Good (rdRow fs s).2
  | [], s, h => h
  | q :: fs, s, h => by
    simp only [rdRow]
    exact rdRow_good fs _ (rdV_good q s h)
end

theorem Rep.old {A : Nat → Prop} {w : World} {q : Fld} {v : V} {u : Value} (h : Rep A w q v u) : Rep (Old w) w q v u := by
  induction h with
  | i n h => exact .i n h
  | b x => exact .b x
  | t s h => exact .t s h
  | u n h => exact .u n h
  | l xs a n c hl hc hm hn hA' hw' hx => exact .l xs a n c hl hc hm hn (fun x hx h0 => ⟨(hA' x hx h0).2.1, (hA' x hx h0).2.1, (hA' x hx h0).2.2⟩) hw' hx
  | e s rows a n c f hl hc hm hn hA' hs hx _ ih => exact .e s rows a n c f hl hc hm hn (fun x hx h0 => ⟨(hA' x hx h0).2.1, (hA' x hx h0).2.1, (hA' x hx h0).2.2⟩) hs hx (fun i j r q v h1 h2 h3 => ih i j r q v h1 h2 h3)
theorem RowRep.old {A : Nat → Prop} {w : World} {s : List Fld} {v : List V} {cs : List Value} (h : RowRep A w s v cs) : RowRep (Old w) w s v cs :=
  ⟨h.1, h.2.1, fun j q x u h1 h2 h3 => (h.2.2 j q x u h1 h2 h3).old⟩

/-- What was encoded is decoded. -/
theorem DecPost.back {w : World} {bs : Bytes} {e : Ending} {w' : World} {v : List V} (h : DecPost w bs e w') (hv : rdRow stateS (.ok bs) = (v, .ok [])) :
    ∃ us : List Value, e = .returned (.tuple #[.agg us.toArray, .int .i64 0]) ∧ RowRep (fun k => w.heap.size ≤ k) w' stateS v us ∧ Below w.heap.size w w' := by
  obtain ⟨hb, h⟩ := h
  rw [hv] at h
  simp only [if_true] at h
  obtain ⟨us, h1, h2⟩ := h
  exact ⟨us, h1, h2, hb⟩

section
variable {A : Nat → Prop} {w : World}
theorem z_i : Rep A w .i (.i 0) (.int .i64 0) := .i 0 (by unfold In64; omega)
theorem z_b : Rep A w .b (.b false) (.bool false) := .b false
theorem z_u : Rep A w .u (.u 0) (.int .u64 0) := .u 0 (by omega)
theorem z_t : Rep A w .t (.t []) (.string ⟨#[]⟩) := .t ⟨#[]⟩ (by decide)
theorem z_l : Rep A w .l (.l []) (.slice none 0 0) := .l [] none 0 0 rfl (Nat.le_refl _) (Nat.zero_le _) (fun _ => ⟨rfl, rfl⟩) (fun x h => by cases h) (fun x h => by simp at h) (.inl rfl)
theorem z_e (s : List Fld) : Rep A w (.e s) (.e []) (.slice none 0 0) := .e s [] none 0 0 (fun _ _ => undef) rfl (Nat.le_refl _) (Nat.zero_le _) (fun _ => ⟨rfl, rfl⟩) (fun x h => by cases h) (fun x h => by simp at h) (fun _ _ _ _ _ h => by omega) (fun i j r q v h => by simp at h)
theorem z_cons {q : Fld} {x : V} {u : Value} {s : List Fld} {v : List V} {cs : List Value} (h : Rep A w q x u) (h2 : RowRep A w s v cs) : RowRep A w (q :: s) (x :: v) (u :: cs) := (RowRep.one h).append h2
/-- The zero state. -/
def zeroV : List V := [.e [], .e [], .l [], .l [], .e [], .e [], .e [], .i 0, .i 0, .i 0, .b false, .i 0, .i 0, .i 0, .i 0, .u 0, .l [], .i 0, .i 0]
theorem zero_row : RowRep A w stateS zeroV zeroS.toList :=
  z_cons (z_e _) <| z_cons (z_e _) <| z_cons z_l <| z_cons z_l <| z_cons (z_e _) <| z_cons (z_e _) <| z_cons (z_e _) <| z_cons z_i <| z_cons z_i <| z_cons z_i <| z_cons z_b <| z_cons z_i <| z_cons z_i <| z_cons z_i <| z_cons z_i <| z_cons z_u <| z_cons z_l <| z_cons z_i <| z_cons z_i <| RowRep.nil _ _
end

/-- What Decode leaves, whatever it is: told by a value, and by a number. -/
def DecV (bs : Bytes) : List V × Nat := match (rdRow stateS (.ok bs)).2 with
  | .error c => (zeroV, c)
  | .ok r => if r = [] then ((rdRow stateS (.ok bs)).1, 0) else (zeroV, 5)
theorem DecPost.all {w : World} {bs : Bytes} {e : Ending} {w' : World} (h : DecPost w bs e w') :
    ∃ us : Array Value, e = .returned (.tuple #[.agg us, .int .i64 ((DecV bs).2 : Int)]) ∧ RowRep (fun k => w.heap.size ≤ k) w' stateS (DecV bs).1 us.toList ∧ Below w.heap.size w w' := by
  obtain ⟨hb, h⟩ := h
  unfold DecV
  split at h
  · rename_i c hc
    rw [hc]
    exact ⟨zeroS, h, zero_row, hb⟩
  · rename_i r hr
    rw [hr]
    simp only
    split at h
    · rename_i h0
      rw [if_pos h0]
      obtain ⟨us, h1, h2⟩ := h
      exact ⟨us.toArray, h1, by simpa using h2, hb⟩
    · rename_i h0
      rw [if_neg h0]
      exact ⟨zeroS, h, zero_row, hb⟩
/-- Without an error the bytes are the state's encoding; with one the state is zero. -/
theorem DecV_canon (bs : Bytes) : (DecV bs).2 = 0 ∧ encRow (DecV bs).1 = bs ∨ (DecV bs).2 ≠ 0 ∧ (DecV bs).1 = zeroV := by
  have hg := rdRow_good stateS (.ok bs) (Good.ok bs)
  unfold DecV
  split
  · rename_i c hc
    exact .inr ⟨hg c hc, rfl⟩
  · rename_i r hr
    split
    · rename_i h0
      subst h0
      have h1 := (canonRow stateS bs [] _ (pair_of hr)).1
      exact .inl ⟨rfl, by rw [List.append_nil] at h1; exact h1.symm⟩
    · exact .inr ⟨by decide, rfl⟩
end Go.Proofs.Ytbcpdjhpceimlaa
