/-
  Layer 27's coder in plain Lean and in memory: what a row of fields is read as; what a coding function needs and leaves, when it encodes and when it decodes; how two follow one another.
-/
import Derived.Test.YtbcpdjhpceimlaaPutInts
import Derived.Test.YtbcpdjhpceimlaaSch
namespace Go.Proofs.Ytbcpdjhpceimlaa
open Go.ChangeShapes Go.WideShapes Go.ChangeAt Go.RowKit
set_option linter.unusedVariables false

/-! ### reading, in plain Lean -/
/-- n rows more, behind those that have been read, while there is no error. -/
def rdN (f : St → List V × St) : Nat → List (List V) → St → List (List V) × St
  | 0, acc, s => (acc, s)
  | n + 1, acc, s => match s with
    | .error c => (acc, .error c)
    | .ok b => rdN f n (acc ++ [(f (.ok b)).1]) (f (.ok b)).2

mutual
/-- A field, a row of fields. -/
def rdV : Fld → St → V × St
  | .i, s => (.i (iS s).1, (iS s).2)
  | .b, s => (.b (bS s).1, (bS s).2)
  | .t, s => (.t (tS 32 s).1, (tS 32 s).2)
  | .u, s => (.u (uS top64 s).1, (uS top64 s).2)
  | .l, s => (.l (lS 4096 s).1, (lS 4096 s).2)
  | .e fs, s => (.e (rdN (rdRow fs) (uS 4096 s).1 [] (uS 4096 s).2).1, (rdN (rdRow fs) (uS 4096 s).1 [] (uS 4096 s).2).2)
def rdRow : List Fld → St → List V × St
  | [], s => ([], s)
  | q :: fs, s => ((rdV q s).1 :: (rdRow fs (rdV q s).2).1, (rdRow fs (rdV q s).2).2)
end

theorem rdRow_append : ∀ (a b : List Fld) (s : St), rdRow (a ++ b) s = ((rdRow a s).1 ++ (rdRow b (rdRow a s).2).1, (rdRow b (rdRow a s).2).2)
  | [], b, s => by simp [rdRow]
  | q :: a, b, s => by simp [rdRow, rdRow_append a b]
theorem rdRow_len : ∀ (a : List Fld) (s : St), (rdRow a s).1.length = a.length
  | [], s => by simp [rdRow]
  | q :: a, s => by simp [rdRow, rdRow_len a]
theorem rdRow_one (q : Fld) (s : St) : rdRow [q] s = ([(rdV q s).1], (rdV q s).2) := by simp [rdRow]

/-! ### the coder in memory -/
/-- The coder's block C, when it encodes: the bytes so far. -/
def Enc (w : World) (C : Nat) (bs : Bytes) : Prop :=
  ∃ a n c, w.heap[C]? = some (.cells #[.slice a n c, .pointer none] 104 (0, 0)) ∧ CellsAt w a (bc bs) ∧ bs.length = n ∧ (a = none → n = 0 ∧ c = 0) ∧ n ≤ c

/-- When it decodes: the reader R, in the state st. -/
def Dec (w : World) (C R : Nat) (st : St) : Prop :=
  (∃ o, w.heap[C]? = some (.cells #[o, .pointer (some ⟨R, 0, none⟩)] 104 (0, 0))) ∧ ∃ a n c bs at' e, RdrAt 109 w R a n c bs at' e ∧ stOf bs at' e = st ∧ n ≤ 17592186044415

inductive Mach where
  | enc (bs : Bytes) (v : Nat → V)
  | dec (R : Nat) (st : St)

def vals (v : Nat → V) (o n : Nat) : List V := (List.range n).map fun j => v (o + j)
theorem vals_length (v : Nat → V) (o n : Nat) : (vals v o n).length = n := by simp [vals]
theorem vals_add (v : Nat → V) (o m n : Nat) : vals v o (m + n) = vals v o m ++ vals v (o + m) n := by
  unfold vals
  rw [List.range_add, List.map_append, List.map_map]
  congr 1
  exact List.map_congr_left fun j _ => by simp [Nat.add_assoc]
theorem vals_zero (v : Nat → V) (o : Nat) : vals v o 0 = [] := rfl
theorem vals_one (v : Nat → V) (o : Nat) : vals v o 1 = [v o] := rfl

def Mach.next : Mach → List Fld → Nat → Mach
  | .enc bs v, s, o => .enc (bs ++ encRow (vals v o s.length)) v
  | .dec R st, s, _ => .dec R (rdRow s st).2

theorem Mach.next_append (M : Mach) (d s : List Fld) (o : Nat) : (M.next d o).next s (o + d.length) = M.next (d ++ s) o := by
  cases M with
  | enc bs v => simp only [Mach.next, List.length_append, vals_add, encRow_append, List.append_assoc]
  | dec R st => simp only [Mach.next, rdRow_append]
theorem Mach.next_nil (M : Mach) (o : Nat) : M.next [] o = M := by
  cases M with
  | enc bs v => simp [Mach.next, vals_zero, encRow]
  | dec R st => simp [Mach.next, rdRow]

/-- A row of cells, with others in its middle. -/
def splice (cs : Array Value) (o : Nat) : List Value → Array Value
  | [] => cs
  | u :: us => splice (cs.setIfInBounds o u) (o + 1) us

theorem splice_append : ∀ (us1 us2 : List Value) (cs : Array Value) (o : Nat), splice (splice cs o us1) (o + us1.length) us2 = splice cs o (us1 ++ us2)
  | [], us2, cs, o => rfl
  | u :: us1, us2, cs, o => by
    simp only [List.cons_append, splice]
    rw [← splice_append us1 us2 _ (o + 1)]
    congr 1
    simp
    omega
theorem splice_size : ∀ (us : List Value) (cs : Array Value) (o : Nat), (splice cs o us).size = cs.size
  | [], cs, o => rfl
  | u :: us, cs, o => by simp [splice, splice_size us]

theorem splice_out : ∀ (us : List Value) (cs : Array Value) (o j : Nat), j < o → (splice cs o us)[j]? = cs[j]?
  | [], cs, o, j, _ => rfl
  | u :: us, cs, o, j, h => by
    rw [splice, splice_out us _ (o + 1) j (by omega), Array.getElem?_setIfInBounds]
    split
    · omega
    · rfl
theorem splice_get : ∀ (us : List Value) (cs : Array Value) (o j : Nat), o + us.length ≤ cs.size → j < us.length → (splice cs o us)[o + j]? = us[j]?
  | [], cs, o, j, _, h => by simp at h
  | u :: us, cs, o, 0, h, _ => by
    show (splice (cs.setIfInBounds o u) (o + 1) us)[o]? = _
    rw [splice_out us _ (o + 1) o (by omega), Array.getElem?_setIfInBounds]
    simp at h
    simp
    omega
  | u :: us, cs, o, j + 1, h, hj => by
    rw [splice, show o + (j + 1) = o + 1 + j by omega, splice_get us _ (o + 1) j (by simp at h ⊢; omega) (by simpa using hj)]
    simp
theorem splice_all {us : List Value} {cs : Array Value} (h : us.length = cs.size) : splice cs 0 us = us.toArray := by
  apply Array.ext_getElem?
  intro j
  by_cases hj : j < us.length
  · have := splice_get us cs 0 j (by omega) hj
    rw [Nat.zero_add] at this
    rw [this]
    simp
  · rw [Array.getElem?_eq_none (by rw [splice_size]; omega), Array.getElem?_eq_none (by simp; omega)]

/-- Nothing of what was there is changed but blocks in W. -/
structure Kept (w w' : World) (W : Nat → Prop) : Prop where
  os : w'.os = w.os
  tape : w'.tape = w.tape
  output : w'.output = w.output
  size : w.heap.size ≤ w'.heap.size
  block : ∀ k, k < w.heap.size → ¬ W k → w'.heap[k]? = w.heap[k]?

theorem Kept.refl (w : World) (W : Nat → Prop) : Kept w w W := ⟨rfl, rfl, rfl, Nat.le_refl _, fun _ _ _ => rfl⟩
theorem Kept.trans {w w1 w2 : World} {W : Nat → Prop} (h : Kept w w1 W) (h2 : Kept w1 w2 W) : Kept w w2 W :=
  ⟨h2.os.trans h.os, h2.tape.trans h.tape, h2.output.trans h.output, Nat.le_trans h.size h2.size, fun k hk hn => (h2.block k (Nat.lt_of_lt_of_le hk h.size) hn).trans (h.block k hk hn)⟩
theorem Kept.of_grown {w w' : World} {row : Option Nat} {W : Nat → Prop} (h : w.grownBy w' row) (hW : ∀ k, row = some k → k < w.heap.size → W k) : Kept w w' W :=
  ⟨h.os, h.tape, h.output, h.size, fun k hk hn => h.block k hk (fun e => hn (hW k e.symm hk))⟩
theorem Kept.mono {w w' : World} {W W' : Nat → Prop} (h : Kept w w' W) (hW : ∀ k, k < w.heap.size → W k → W' k) : Kept w w' W' :=
  ⟨h.os, h.tape, h.output, h.size, fun k hk hn => h.block k hk (fun hw => hn (hW k hk hw))⟩

/-- What a coding function needs: block C is the coder; in block b, from o on, lie the fields s. -/
def Pre (C b : Nat) : Mach → List Fld → Nat → World → Prop
  | .enc bs v, s, o, w => Enc w C bs ∧ b ≠ C ∧ (∀ (j : Nat) (q : Fld), s[j]? = some q → ∃ u, w.cell? ⟨b, o + j, none⟩ = some u ∧ Rep (· ≠ C) w q (v (o + j)) u) ∧ bs.length + (encRow (vals v o s.length)).length ≤ 140737488355000
  | .dec R st, s, o, w => Dec w C R st ∧ b ≠ C ∧ R < b ∧ ∃ cs T, w.heap[b]? = some (.cells cs T (0, 0)) ∧ o + s.length ≤ cs.size

/-- What it leaves. -/
def Post (C b : Nat) : Mach → List Fld → Nat → World → World → Prop
  | .enc bs v, s, o, w, w' => Enc w' C (bs ++ encRow (vals v o s.length)) ∧ w.grownBy w' (some C)
  | .dec R st, s, o, w, w' => Dec w' C R (rdRow s st).2 ∧ R < b ∧ b < w.heap.size ∧ Kept w w' (fun k => k = R ∨ k = b) ∧
      ∃ us, RowRep (fun k => w.heap.size ≤ k) w' s (rdRow s st).1 us ∧ ∀ cs T, w.heap[b]? = some (.cells cs T (0, 0)) → w'.heap[b]? = some (.cells (splice cs o us) T (0, 0))

theorem Enc.grown {w w' : World} {C : Nat} {bs : Bytes} (h : Enc w C bs) (hg : w.grownBy w' none) : Enc w' C bs := by
  obtain ⟨a, n, c, h1, h2, h3, h4, h5⟩ := h
  exact ⟨a, n, c, by rw [hg.block C (blk_lt h1) (by simp)]; exact h1, h2.below (grown_below hg), h3, h4, h5⟩

theorem Dec.grown {w w' : World} {C R : Nat} {st : St} (h : Dec w C R st) (hg : w.grownBy w' none) : Dec w' C R st := by
  obtain ⟨⟨o, h1⟩, a, n, c, bs, at', e, h2, h3, h4⟩ := h
  exact ⟨⟨o, by rw [hg.block C (blk_lt h1) (by simp)]; exact h1⟩, a, n, c, bs, at', e, h2.other hg (fun k hk => by cases hk), h3, h4⟩

theorem Pre.grown {C b : Nat} {M : Mach} {s : List Fld} {o : Nat} {w w' : World} (h : Pre C b M s o w) (hg : w.grownBy w' none) : Pre C b M s o w' := by
  cases M with
  | enc bs v =>
    obtain ⟨h1, h2, h3, h4⟩ := h
    refine ⟨h1.grown hg, h2, fun j q hj => ?_, h4⟩
    obtain ⟨u, h5, h6⟩ := h3 j q hj
    exact ⟨u, ext_of_below (grown_below hg) _ _ h5, h6.mono (fun _ h => h) hg.size (fun k _ hk => hg.block k hk (by simp))⟩
  | dec R st =>
    obtain ⟨h1, h2, h3, cs, T, h4, h5⟩ := h
    exact ⟨h1.grown hg, h2, h3, cs, T, by rw [hg.block b (blk_lt h4) (by simp)]; exact h4, h5⟩

theorem Pre.left {C b : Nat} {M : Mach} {s1 s2 : List Fld} {o : Nat} {w : World} (h : Pre C b M (s1 ++ s2) o w) : Pre C b M s1 o w := by
  cases M with
  | enc bs v =>
    obtain ⟨h1, h2, h3, h4⟩ := h
    refine ⟨h1, h2, fun j q hj => h3 j q ?_, ?_⟩
    · rw [List.getElem?_append_left (List.getElem?_eq_some_iff.1 hj).1]; exact hj
    · rw [List.length_append, vals_add, encRow_append, List.length_append] at h4
      omega
  | dec R st =>
    obtain ⟨h1, h2, h3, cs, T, h4, h5⟩ := h
    exact ⟨h1, h2, h3, cs, T, h4, by rw [List.length_append] at h5; omega⟩

theorem Post.nil {C b : Nat} {M : Mach} {s : List Fld} {o : Nat} {w : World} (h : Pre C b M s o w) : Post C b M [] o w w := by
  cases M with
  | enc bs v => exact ⟨by simpa [vals_zero, encRow] using h.1, World.grownBy.refl _ _⟩
  | dec R st =>
    obtain ⟨h1, h2, h3, cs, T, h4, h5⟩ := h
    exact ⟨by simpa [rdRow] using h1, h3, blk_lt h4, Kept.refl _ _, [], by simpa [rdRow] using RowRep.nil _ _, fun cs T h => h⟩

/-- What grew before the call is no matter. -/
theorem Post.grown {C b : Nat} {M : Mach} {s : List Fld} {o : Nat} {w w1 w2 : World} (hp : Pre C b M s o w) (hg : w.grownBy w1 none) (h : Post C b M s o w1 w2) : Post C b M s o w w2 := by
  cases M with
  | enc bs v => exact ⟨h.1, ⟨h.2.os.trans hg.os, h.2.tape.trans hg.tape, h.2.output.trans hg.output, Nat.le_trans hg.size h.2.size, fun k hk hn => (h.2.block k (Nat.lt_of_lt_of_le hk hg.size) hn).trans (hg.block k hk (by simp))⟩⟩
  | dec R st =>
    obtain ⟨h1, h2, h3, h4, us, h5, h6⟩ := h
    obtain ⟨_, _, _, cs, T, h7, _⟩ := hp
    have hb := blk_lt h7
    refine ⟨h1, h2, hb, (Kept.of_grown hg (fun k hk => by cases hk)).trans h4, us, h5.mono (fun k hk => Nat.le_trans hg.size hk) (Nat.le_refl _) (fun _ _ _ => rfl), fun cs T h => h6 cs T ?_⟩
    rw [hg.block b hb (by simp)]
    exact h

/-- What is left to do, behind a call. -/
theorem Pre.right {C b : Nat} {M : Mach} {s1 s2 : List Fld} {o : Nat} {w w' : World} (h : Pre C b M (s1 ++ s2) o w) (hp : Post C b M s1 o w w') : Pre C b (M.next s1 o) s2 (o + s1.length) w' := by
  cases M with
  | enc bs v =>
    obtain ⟨h1, h2, h3, h4⟩ := h
    refine ⟨hp.1, h2, fun j q hj => ?_, ?_⟩
    · obtain ⟨u, h5, h6⟩ := h3 (s1.length + j) q (by rw [List.getElem?_append_right (by omega)]; simpa using hj)
      rw [← Nat.add_assoc] at h5 h6
      exact ⟨u, ext_of_grown hp.2 _ _ (fun e => by injection e with e; exact h2 e) h5, h6.mono (fun _ h => h) hp.2.size (fun k hk hlt => hp.2.block k hlt (fun e => by injection e with e; exact hk e))⟩
    · rw [List.length_append, vals_add, encRow_append, List.length_append] at h4
      rw [List.length_append]
      omega
  | dec R st =>
    obtain ⟨h1, h2, h3, cs, T, h4, h5⟩ := h
    obtain ⟨g1, g2, g3, g4, us, g5, g6⟩ := hp
    exact ⟨g1, h2, h3, _, T, g6 cs T h4, by rw [splice_size]; rw [List.length_append] at h5; omega⟩

theorem Post.seq {C b : Nat} {M : Mach} {s1 s2 : List Fld} {o : Nat} {w w1 w2 : World} (h1 : Post C b M s1 o w w1) (h2 : Post C b (M.next s1 o) s2 (o + s1.length) w1 w2) : Post C b M (s1 ++ s2) o w w2 := by
  cases M with
  | enc bs v =>
    refine ⟨?_, h1.2.trans h2.2⟩
    have := h2.1
    rwa [List.append_assoc, ← encRow_append, ← vals_add, ← List.length_append] at this
  | dec R st =>
    obtain ⟨a1, a2, a3, a4, us1, a5, a6⟩ := h1
    obtain ⟨b1, b2, b3, b4, us2, b5, b6⟩ := h2
    refine ⟨by rw [rdRow_append]; exact b1, a2, a3, a4.trans b4, us1 ++ us2, ?_, fun cs T h => ?_⟩
    · rw [rdRow_append]
      refine RowRep.append (a5.mono (fun _ h => h) b4.size (fun k hk hlt => b4.block k hlt (fun e => by rcases e with rfl | rfl <;> omega))) (b5.mono (fun k hk => Nat.le_trans a4.size hk) (Nat.le_refl _) (fun _ _ _ => rfl))
    · rw [b6 _ T (a6 cs T h), ← a5.2.1, splice_append]

/-- In the middle of a row: d is done, r is left. -/
def Mid (C b : Nat) (M : Mach) (d r : List Fld) (o : Nat) (w0 w : World) : Prop := Post C b M d o w0 w ∧ Pre C b (M.next d o) r (o + d.length) w

theorem Mid.start {C b : Nat} {M : Mach} {s : List Fld} {o : Nat} {w : World} (h : Pre C b M s o w) : Mid C b M [] s o w w := ⟨Post.nil h, by rw [Mach.next_nil]; exact h⟩
theorem Mid.pre {C b : Nat} {M : Mach} {d s r : List Fld} {o : Nat} {w0 w w1 : World} (h : Mid C b M d (s ++ r) o w0 w) (hg : w.grownBy w1 none) : Pre C b (M.next d o) s (o + d.length) w1 := (h.2.left).grown hg
theorem Mid.step {C b : Nat} {M : Mach} {d s r : List Fld} {o : Nat} {w0 w w1 w2 : World} (h : Mid C b M d (s ++ r) o w0 w) (hg : w.grownBy w1 none) (hp : Post C b (M.next d o) s (o + d.length) w1 w2) : Mid C b M (d ++ s) r o w0 w2 := by
  have hp' := Post.grown h.2.left hg hp
  refine ⟨Post.seq h.1 hp', ?_⟩
  have := Pre.right h.2 hp'
  rwa [Mach.next_append, Nat.add_assoc, ← List.length_append] at this
theorem Mid.last {C b : Nat} {M : Mach} {d r : List Fld} {o : Nat} {w0 w : World} (h : Mid C b M d r o w0 w) (hr : r = []) {s : List Fld} (hs : d = s) : Post C b M s o w0 w := by subst hs; exact h.1

/-- A coding function of a struct. -/
def Coder (F : Nat) (s : List Fld) : Prop := ∀ (C b o : Nat) (M : Mach) (w : World), Pre C b M s o w →
  Calls Try.prog F #[.pointer (some ⟨C, 0, none⟩), .pointer (some ⟨b, o, none⟩)] w fun e w' => e = .returned (.tuple #[]) ∧ Post C b M s o w w'

/-- The addresses of m fields from o on. -/
def ptrs (b o m : Nat) : List Value := (List.range m).map fun j => .pointer (some ⟨b, o + j, none⟩)

/-- A coding function of a list of fields of one kind. -/
def CoderL (F T : Nat) (q : Fld) : Prop := ∀ (C b o m p : Nat) (M : Mach) (w w1 : World), Pre C b M (List.replicate m q) o w → w.grownBy w1 none → w.heap.size ≤ p → w1.heap[p]? = some (.cells (ptrs b o m).toArray T (0, 0)) →
  m ≤ 1000000 → Calls Try.prog F #[.pointer (some ⟨C, 0, none⟩), .slice (some ⟨p, 0, none⟩) m m] w1 fun e w' => e = .returned (.tuple #[]) ∧ Post C b M (List.replicate m q) o w w'

end Go.Proofs.Ytbcpdjhpceimlaa
