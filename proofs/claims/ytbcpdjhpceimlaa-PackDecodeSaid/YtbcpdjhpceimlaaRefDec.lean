/-
  The reference's readers of layer 27: what they need and leave; how one field of a struct, one row of a slice follows another.
-/
import Derived.Test.YtbcpdjhpceimlaaRefInts
import Derived.Test.YtbcpdjhpceimlaaPLib2
namespace Go.Proofs.Ytbcpdjhpceimlaa
open Go.ChangeShapes Go.WideShapes Go.ChangeAt Go.RowKit
set_option linter.unusedVariables false

/-- What is left to read is of a size that fits. -/
def Small (st : St) : Prop := ∀ b, st = .ok b → b.length ≤ 17592186044415
theorem Small.row {st : St} (s : List Fld) (h : Small st) : Small (rdRow s st).2 := by
  intro b hb
  cases st with
  | error c => rw [rdRow_err] at hb; cases hb
  | ok b0 =>
    have h1 := (canonRow s b0 b _ (pair_of hb)).1
    have h2 := h b0 rfl
    rw [h1, List.length_append] at h2
    omega
theorem Small.v {st : St} (q : Fld) (h : Small st) : Small (rdV q st).2 := by
  have := h.row [q]
  rwa [rdRow_one] at this
theorem Small.u {st : St} (m : Nat) (h : Small st) : Small (uS m st).2 := by
  intro b hb
  cases st with
  | error c => cases hb
  | ok b0 =>
    have h1 := (uS_inv (pair_of hb)).1
    have h2 := h b0 rfl
    rw [h1, List.length_append] at h2
    omega

/-- The reader R, in the state st. -/
def RDec (w : World) (R : Nat) (st : St) : Prop := ∃ bs e a n c, RefAt w R bs e a n c ∧ stR bs e = st
theorem RefAt.keep {w w' : World} {R : Nat} {bs : Bytes} {e : Nat} {a : Option Addr} {n c : Nat} (h : RefAt w R bs e a n c) (hk : ∀ j, j ≤ R → w'.heap[j]? = w.heap[j]?) : RefAt w' R bs e a n c := by
  refine ⟨by rw [hk R (Nat.le_refl _)]; exact h.blk, ?_, h.lt, h.nc, h.nil, h.len, h.bd⟩
  rcases h.cells with h0 | ⟨b, off, rfl, hc⟩
  · exact .inl h0
  · have hb : b < R := h.lt _ rfl
    exact .inr ⟨b, off, rfl, fun j u hj => by rw [cell?_heap (p := ⟨b, off + j, none⟩) (hk b (by omega))]; exact hc j u hj⟩
theorem RDec.keep {w w' : World} {R : Nat} {st : St} (h : RDec w R st) (hk : ∀ j, j ≤ R → w'.heap[j]? = w.heap[j]?) : RDec w' R st := by
  obtain ⟨bs, e, a, n, c, h1, h2⟩ := h
  exact ⟨bs, e, a, n, c, h1.keep hk, h2⟩
theorem RDec.lt {w : World} {R : Nat} {st : St} (h : RDec w R st) : R < w.heap.size := by
  obtain ⟨bs, e, a, n, c, h1, h2⟩ := h
  exact blk_lt h1.blk
theorem LeftR.dec {w w' : World} {R : Nat} {st : St} (h : LeftR w w' R st) : RDec w' R st ∧ w.grownBy w' (some R) := by
  obtain ⟨bs, e, a, n, c, h1, h2, h3⟩ := h
  exact ⟨⟨bs, e, a, n, c, h1, h2⟩, h3⟩

/-- What may change while a function runs that began in w: the reader, and what is new. -/
abbrev KW (w : World) (R : Nat) : Nat → Prop := fun i => i = R ∨ w.heap.size ≤ i
theorem Kept.grown {w w' : World} {R : Nat} (h : Kept w w' (KW w R)) : w.grownBy w' (some R) :=
  ⟨h.os, h.tape, h.output, h.size, fun k hk hn => h.block k hk (fun e => by rcases e with e | e; exact hn (by rw [e]); omega)⟩
theorem Kept.more {w0 w w' : World} {R : Nat} {W : Nat → Prop} (h : Kept w0 w (KW w0 R)) (h2 : Kept w w' W) (hW : ∀ k, W k → k = R ∨ w0.heap.size ≤ k) : Kept w0 w' (KW w0 R) :=
  h.trans (h2.mono (fun k _ hk => hW k hk))

/-- A reading function of a struct, of a slice of structs. -/
def RRead (R : Nat) (s : List Fld) (st : St) (w : World) (x : Ending) (w' : World) : Prop :=
  ∃ us : List Value, x = .returned (.agg us.toArray) ∧ RowRep (fun i => w.heap.size ≤ i) w' s (rdRow s st).1 us ∧ RDec w' R (rdRow s st).2 ∧ w.grownBy w' (some R)
def RReader (F : Nat) (s : List Fld) : Prop := ∀ (R : Nat) (st : St) (w : World), RDec w R st → Small st → Calls Try.prog F #[.pointer (some ⟨R, 0, none⟩)] w (RRead R s st w)
def RReadE (R : Nat) (s : List Fld) (st : St) (w : World) (x : Ending) (w' : World) : Prop :=
  ∃ a n c, x = .returned (.slice a n c) ∧ Rep (fun i => w.heap.size ≤ i) w' (.e s) (rdV (.e s) st).1 (.slice a n c) ∧ RDec w' R (rdV (.e s) st).2 ∧ w.grownBy w' (some R)
def RReaderE (F : Nat) (s : List Fld) : Prop := ∀ (R : Nat) (st : St) (w : World), RDec w R st → Small st → Calls Try.prog F #[.pointer (some ⟨R, 0, none⟩)] w (RReadE R s st w)

theorem blk_setCells {w : World} {b : Nat} {T : TypeId} : ∀ (us : List Value) (o : Nat) (cs : Array Value) (w : World), w.heap[b]? = some (.cells cs T (0, 0)) → (w.setCells b o us).heap[b]? = some (.cells (splice cs o us) T (0, 0))
  | [], o, cs, w, h => h
  | u :: us, o, cs, w, h => by
    rw [World.setCells, splice]
    exact blk_setCells (w := w) us (o + 1) _ _ (blk_setCell h o u)
theorem grownBy_setCells {b : Nat} : ∀ (us : List Value) (o : Nat) (w : World), w.grownBy (w.setCells b o us) (some b)
  | [], o, w => World.grownBy.refl _ _
  | u :: us, o, w => by
    rw [World.setCells]
    exact (Lib.grownBy_setCell w b o u).trans (grownBy_setCells us (o + 1) _)

/-- In the middle of a struct in block b that is being read: k fields are read. The function began when the world was w0. -/
structure DSt (w0 : World) (R b : Nat) (T : TypeId) (zs : Array Value) (s : List Fld) (st0 : St) (k : Nat) (w : World) : Prop where
  rdr : RDec w R (rdRow (s.take k) st0).2
  small : Small st0
  hR : R < w0.heap.size
  hb : w0.heap.size ≤ b
  size : zs.size = s.length
  us : ∃ us : List Value, w.heap[b]? = some (.cells (splice zs 0 us) T (0, 0)) ∧ RowRep (fun i => w0.heap.size ≤ i ∧ i ≠ b) w (s.take k) (rdRow (s.take k) st0).1 us
  kept : Kept w0 w (KW w0 R)

theorem DSt.start {w : World} {R : Nat} {T : TypeId} {zs : Array Value} {s : List Fld} {st : St} (h : RDec w R st) (hs : Small st) (hz : zs.size = s.length) : DSt w R w.heap.size T zs s st 0 (w.alloc (.cells zs T)) :=
  have hg : w.grownBy (w.alloc (.cells zs T)) none := World.grownBy_alloc _ _ _
  have hlt := h.lt
  ⟨by simpa [rdRow] using h.keep (fun j hj => hg.block j (by omega) (by simp)), hs, hlt, Nat.le_refl _, hz, ⟨[], heap_alloc_new w _, by simpa [rdRow] using RowRep.nil _ _⟩, Kept.of_grown hg (fun k hk => by cases hk)⟩

theorem row_take_one {s : List Fld} {k : Nat} {q : Fld} (hq : s[k]? = some q) : s.take (k + 1) = s.take k ++ [q] := by
  obtain ⟨hk, rfl⟩ := List.getElem?_eq_some_iff.1 hq
  exact List.take_succ_eq_append_getElem hk

section
variable {w0 : World} {R b : Nat} {T : TypeId} {zs : Array Value} {s : List Fld} {st0 : St} {k : Nat} {w : World}

theorem DSt.blt (h : DSt w0 R b T zs s st0 k w) : b < w.heap.size := by
  obtain ⟨us, h1, -⟩ := h.us
  exact blk_lt h1

theorem DSt.len (h : DSt w0 R b T zs s st0 k w) {us : List Value} (hr : RowRep (fun i => w0.heap.size ≤ i ∧ i ≠ b) w (s.take k) (rdRow (s.take k) st0).1 us) (hk : k ≤ s.length) : us.length = k := by
  rw [hr.2.1, List.length_take]
  omega

/-- m fields more: what was read (in w'), stored at their place (in w''). -/
theorem DSt.step {m : Nat} {t : List Fld} {us2 : List Value} {w' w'' : World} (h : DSt w0 R b T zs s st0 k w) (hs : (s.drop k).take m = t) (ht : t.length = m) (hg : w.grownBy w' (some R)) (hr : RDec w' R (rdRow t (rdRow (s.take k) st0).2).2)
    (hu : RowRep (fun i => w.heap.size ≤ i) w' t (rdRow t (rdRow (s.take k) st0).2).1 us2) (hg2 : w'.grownBy w'' (some b)) (hb2 : ∀ cs, w'.heap[b]? = some (.cells cs T (0, 0)) → w''.heap[b]? = some (.cells (splice cs k us2) T (0, 0))) : DSt w0 R b T zs s st0 (k + m) w'' := by
  obtain ⟨us, hbk, hrow⟩ := h.us
  have hlt := blk_lt hbk
  have hRw := h.hR
  have hbw := h.hb
  have hsw := h.kept.size
  have htk : s.take (k + m) = s.take k ++ t := by rw [List.take_add, hs]
  have hlen : us.length = k ∨ m = 0 := by
    by_cases hm : m = 0
    · exact .inr hm
    · refine .inl (h.len hrow ?_)
      have := congrArg List.length hs
      rw [List.length_take, List.length_drop, ht] at this
      omega
  have hrd : (rdRow (s.take (k + m)) st0) = ((rdRow (s.take k) st0).1 ++ (rdRow t (rdRow (s.take k) st0).2).1, (rdRow t (rdRow (s.take k) st0).2).2) := by rw [htk, rdRow_append]
  refine ⟨?_, h.small, hRw, hbw, h.size, ⟨us ++ us2, ?_, ?_⟩, ?_⟩
  · rw [hrd]
    exact hr.keep (fun j hj => hg2.block j (by have := hr.lt; omega) (fun e => by injection e with e; omega))
  · have h1 := hb2 _ (by rw [hg.block b hlt (fun e => by injection e with e; omega)]; exact hbk)
    rw [h1, ← splice_append]
    rcases hlen with e | e
    · rw [Nat.zero_add, e]
    · have h0 : us2 = [] := List.eq_nil_of_length_eq_zero (by rw [hu.2.1, ht, e])
      subst h0
      rfl
  · rw [hrd, htk]
    refine RowRep.append (hrow.mono (fun j hj => hj) (Nat.le_trans hg.size hg2.size) (fun j hj hjl => ?_)) (hu.lt.mono (fun j hj => ⟨by have := hj.1; omega, by have := hj.1; omega⟩) hg2.size (fun j hj hjl => hg2.block j hjl (fun e => by injection e with e; have := hj.1; omega)))
    rw [hg2.block j (by have := hg.size; omega) (fun e => by injection e with e; exact hj.2 e), hg.block j hjl (fun e => by injection e with e; have := hj.1; omega)]
  · exact (h.kept.more (Kept.of_grown (W := fun i => i = R) hg (fun k hk _ => by injection hk with hk; exact hk.symm)) (fun k hk => .inl hk)).more (Kept.of_grown (W := fun i => i = b) hg2 (fun k hk _ => by injection hk with hk; exact hk.symm)) (fun k hk => .inr (by omega))

/-- One field: what the walk needs to store it. -/
theorem DSt.put {q : Fld} {w' : World} {u : Value} (h : DSt w0 R b T zs s st0 k w) (hq : s[k]? = some q) (hg : w.grownBy w' (some R)) (hr : RDec w' R (rdV q (rdRow (s.take k) st0).2).2) (hu : Rep (fun i => w.heap.size ≤ i) w' q (rdV q (rdRow (s.take k) st0).2).1 u) :
    ∃ old, w'.cell? ⟨b, k, none⟩ = some old ∧ (∀ off, w'.frozen? ⟨b, off, none⟩ = false) ∧ Hid (DSt w0 R b T zs s st0 (k + 1) (w'.setCell ⟨b, k, none⟩ u)) := by
  obtain ⟨us, hbk, hrow⟩ := h.us
  have hk : k < s.length := (List.getElem?_eq_some_iff.1 hq).1
  have hb' : w'.heap[b]? = some (.cells (splice zs 0 us) T (0, 0)) := by rw [hg.block b (blk_lt hbk) (fun e => by injection e with e; have := h.hR; have := h.hb; omega)]; exact hbk
  have hsz : k < (splice zs 0 us).size := by rw [splice_size, h.size]; exact hk
  have hq1 : (s.drop k).take 1 = [q] := by
    obtain ⟨hk, rfl⟩ := List.getElem?_eq_some_iff.1 hq
    rw [List.drop_eq_getElem_cons hk]
    rfl
  refine ⟨_, by rw [blk_cell hb']; exact Array.getElem?_eq_getElem hsz, blk_free hb', Lib.hid ?_⟩
  refine h.step (m := 1) hq1 rfl hg (by rw [rdRow_one]; exact hr) (by rw [rdRow_one]; exact RowRep.one hu) (Lib.grownBy_setCell w' b k u) (fun cs hcs => ?_)
  rw [blk_setCell hcs]
  rfl

theorem DSt.int (h : DSt w0 R b T zs s st0 k w) (hq : s[k]? = some .i) : Calls Try.prog 57 #[.pointer (some ⟨R, 0, none⟩)] w fun x w' => ∃ z old, x = .returned (.int .i64 z) ∧ w'.cell? ⟨b, k, none⟩ = some old ∧ (∀ off, w'.frozen? ⟨b, off, none⟩ = false) ∧ Hid (DSt w0 R b T zs s st0 (k + 1) (w'.setCell ⟨b, k, none⟩ (.int .i64 z))) := by
  obtain ⟨bs, e, a, n, c, h1, h2⟩ := h.rdr
  refine (RInt_any R bs e a n c w h1).mono ?_
  rw [h2]
  rintro x w' ⟨rfl, hl⟩
  obtain ⟨h3, h4⟩ := hl.dec
  obtain ⟨old, h5, h6, h7⟩ := h.put hq h4 h3 (.i _ (iS_in64 _))
  exact ⟨_, old, rfl, h5, h6, h7⟩
theorem DSt.bool (h : DSt w0 R b T zs s st0 k w) (hq : s[k]? = some .b) : Calls Try.prog 58 #[.pointer (some ⟨R, 0, none⟩)] w fun x w' => ∃ z old, x = .returned (.bool z) ∧ w'.cell? ⟨b, k, none⟩ = some old ∧ (∀ off, w'.frozen? ⟨b, off, none⟩ = false) ∧ Hid (DSt w0 R b T zs s st0 (k + 1) (w'.setCell ⟨b, k, none⟩ (.bool z))) := by
  obtain ⟨bs, e, a, n, c, h1, h2⟩ := h.rdr
  refine (RBool_any R bs e a n c w h1).mono ?_
  rw [h2]
  rintro x w' ⟨rfl, hl⟩
  obtain ⟨h3, h4⟩ := hl.dec
  obtain ⟨old, h5, h6, h7⟩ := h.put hq h4 h3 (.b _)
  exact ⟨_, old, rfl, h5, h6, h7⟩
theorem DSt.text (h : DSt w0 R b T zs s st0 k w) (hq : s[k]? = some .t) : Calls Try.prog 59 #[.pointer (some ⟨R, 0, none⟩), .int .i64 32] w fun x w' => ∃ z old, x = .returned (.string z) ∧ w'.cell? ⟨b, k, none⟩ = some old ∧ (∀ off, w'.frozen? ⟨b, off, none⟩ = false) ∧ Hid (DSt w0 R b T zs s st0 (k + 1) (w'.setCell ⟨b, k, none⟩ (.string z))) := by
  obtain ⟨bs, e, a, n, c, h1, h2⟩ := h.rdr
  refine (RText_any R bs e a n c 32 (by decide) w h1).mono ?_
  rw [h2]
  rintro x w' ⟨rfl, hl⟩
  obtain ⟨h3, h4⟩ := hl.dec
  have h8 : Rep (fun i => w.heap.size ≤ i) w' .t (rdV .t (rdRow (s.take k) st0).2).1 (.string ⟨(tS 32 (rdRow (s.take k) st0).2).1.toArray⟩) := by
    have h9 := tS_len 32 (rdRow (s.take k) st0).2
    have h10 : (⟨(tS 32 (rdRow (s.take k) st0).2).1.toArray⟩ : ByteArray).size ≤ maxLen := by
      simp only [ByteArray.size, List.size_toArray]
      unfold maxLen
      have : (32 : Int).toNat = 32 := rfl
      omega
    have h11 := Rep.t (A := fun i => w.heap.size ≤ i) (w := w') (⟨(tS 32 (rdRow (s.take k) st0).2).1.toArray⟩ : ByteArray) h10
    simpa [rdV] using h11
  obtain ⟨old, h5, h6, h7⟩ := h.put hq h4 h3 h8
  exact ⟨_, old, rfl, h5, h6, h7⟩
theorem DSt.num (h : DSt w0 R b T zs s st0 k w) (hq : s[k]? = some .u) : Calls Try.prog 56 #[.pointer (some ⟨R, 0, none⟩), .int .u64 18446744073709551615] w fun x w' => ∃ (z : Nat) (old : Value), x = .returned (.int .u64 (z : Int)) ∧ w'.cell? ⟨b, k, none⟩ = some old ∧ (∀ off, w'.frozen? ⟨b, off, none⟩ = false) ∧ Hid (DSt w0 R b T zs s st0 (k + 1) (w'.setCell ⟨b, k, none⟩ (.int .u64 (z : Int)))) := by
  obtain ⟨bs, e, a, n, c, h1, h2⟩ := h.rdr
  refine (RUint_any R bs e a n c top64 w h1).mono ?_
  rw [h2]
  rintro x w' ⟨rfl, hl⟩
  obtain ⟨h3, h4⟩ := hl.dec
  have hb := uS_bd top64 (rdRow (s.take k) st0).2
  obtain ⟨old, h5, h6, h7⟩ := h.put hq h4 h3 (.u _ (show (uS top64 (rdRow (s.take k) st0).2).1 < 18446744073709551616 by unfold top64 at hb ⊢; omega))
  exact ⟨_, old, rfl, h5, h6, h7⟩
theorem DSt.ints (h : DSt w0 R b T zs s st0 k w) (hq : s[k]? = some .l) : Calls Try.prog 61 #[.pointer (some ⟨R, 0, none⟩), .int .i64 4096] w fun x w' => ∃ za zn zc old, x = .returned (.slice za zn zc) ∧ w'.cell? ⟨b, k, none⟩ = some old ∧ (∀ off, w'.frozen? ⟨b, off, none⟩ = false) ∧ Hid (DSt w0 R b T zs s st0 (k + 1) (w'.setCell ⟨b, k, none⟩ (.slice za zn zc))) := by
  obtain ⟨bs, e, a, n, c, h1, h2⟩ := h.rdr
  refine (RInts_any R bs e a n c 4096 (by decide) (fun h0 => ?_) w h1).mono ?_
  · subst h0
    have := (h.small.row (s.take k)) bs h2.symm
    have := h1.len
    omega
  · rw [h2]
    rintro x w' ⟨o, rfl, how, hl⟩
    obtain ⟨h3, h4⟩ := hl.dec
    obtain ⟨za, zc, rfl, -⟩ := ownsRow_rd how
    obtain ⟨old, h5, h6, h7⟩ := h.put hq h4 h3 (own_rep_l how (lS_in64 _ _))
    exact ⟨_, _, _, old, rfl, h5, h6, h7⟩
/-- A slice of structs, read by a function of its own. -/
theorem DSt.list {F : Nat} {t : List Fld} (h : DSt w0 R b T zs s st0 k w) (hF : RReaderE F t) (hq : s[k]? = some (.e t)) : Calls Try.prog F #[.pointer (some ⟨R, 0, none⟩)] w fun x w' => ∃ za zn zc old, x = .returned (.slice za zn zc) ∧ w'.cell? ⟨b, k, none⟩ = some old ∧ (∀ off, w'.frozen? ⟨b, off, none⟩ = false) ∧ Hid (DSt w0 R b T zs s st0 (k + 1) (w'.setCell ⟨b, k, none⟩ (.slice za zn zc))) := by
  refine (hF R _ w h.rdr (h.small.row _)).mono ?_
  rintro x w' ⟨za, zn, zc, rfl, h1, h2, h3⟩
  obtain ⟨old, h5, h6, h7⟩ := h.put hq h3 h2 h1
  exact ⟨_, _, _, old, rfl, h5, h6, h7⟩
/-- A struct in the struct. -/
theorem DSt.sub {F m : Nat} {t : List Fld} (h : DSt w0 R b T zs s st0 k w) (hF : RReader F t) (hs : (s.drop k).take m = t) (ht : t.length = m) : Calls Try.prog F #[.pointer (some ⟨R, 0, none⟩)] w fun x w' => ∃ us : Array Value, x = .returned (.agg us) ∧ Hid (us.size = m) ∧ Hid (us.all (·.oneCell') = true) ∧ Hid (w'.there b k us.size) ∧ Hid (DSt w0 R b T zs s st0 (k + m) (w'.setCells b k us.toList)) := by
  refine (hF R _ w h.rdr (h.small.row _)).mono ?_
  rintro x w' ⟨us, rfl, h1, h2, h3⟩
  obtain ⟨us0, hbk, hrow⟩ := h.us
  have hul : us.length = m := by rw [h1.2.1, ht]
  have hb' : w'.heap[b]? = some (.cells (splice zs 0 us0) T (0, 0)) := by rw [h3.block b (blk_lt hbk) (fun e => by injection e with e; have := h.hR; have := h.hb; omega)]; exact hbk
  refine ⟨us.toArray, rfl, Lib.hid (by simpa using hul), Lib.hid (all_oneCell_toArray (row_one h1)), Lib.hid (fun j hj => ⟨?_, blk_free hb' _⟩), Lib.hid ?_⟩
  · rw [blk_cell hb']
    have hm : m ≤ s.length - k := by
      have := congrArg List.length hs
      rw [List.length_take, List.length_drop, ht] at this
      omega
    have hjm : j < m := by simpa [hul] using hj
    rw [Array.getElem?_eq_getElem (by rw [splice_size, h.size]; omega)]
    rfl
  · rw [List.toList_toArray]
    exact h.step hs ht h3 h2 h1 (grownBy_setCells us k w') (fun cs hcs => blk_setCells (w := w') us k cs w' hcs)

/-- The struct is read: its block. -/
theorem DSt.done (h : DSt w0 R b T zs s st0 k w) (hk : s.length = k) : ∃ us : Array Value, Hid (w.heap[b]? = some (.cells us T (0, 0))) ∧ Hid (us.size = k) ∧ Hid (RowRep (fun i => w0.heap.size ≤ i) w s (rdRow s st0).1 us.toList) ∧ Hid (RDec w R (rdRow s st0).2) ∧ Hid (Kept w0 w (KW w0 R)) := by
  obtain ⟨us, hbk, hrow⟩ := h.us
  have hl := h.len hrow (by omega)
  have e : s.take k = s := List.take_of_length_le (by omega)
  have hr := h.rdr
  rw [e] at hrow hr
  rw [splice_all (by rw [hl, h.size, hk])] at hbk
  exact ⟨us.toArray, Lib.hid hbk, Lib.hid (by simpa using hl), Lib.hid (by simpa using hrow.mono (fun _ h => h.1) (Nat.le_refl _) (fun _ _ _ => rfl)), Lib.hid hr, Lib.hid h.kept⟩
end

/-- The struct is stored where the function's result lies. -/
theorem RRead.of {w wA w1 : World} {R g : Nat} {s : List Fld} {st : St} {us : Array Value} (hg : g = w.heap.size) (hA : w.grownBy wA none) (hAs : wA.heap.size = g + 1) (hR : R < w.heap.size) (hrow : RowRep (fun i => wA.heap.size ≤ i) w1 s (rdRow s st).1 us.toList) (hrd : RDec w1 R (rdRow s st).2) (hk : Kept wA w1 (KW wA R)) :
    RRead R s st w (.returned (.agg us)) (w1.setRow g us) := by
  have hss : (w1.setRow g us).heap.size = w1.heap.size := by simp [World.setRow]
  refine ⟨us.toList, by simp, hrow.mono (fun j hj => by omega) (by omega) (fun j hj _ => setRow_other _ _ _ _ (by omega)), hrd.keep (fun j hj => setRow_other _ _ _ _ (by omega)), ?_⟩
  have h1 : Kept w wA (KW w R) := Kept.of_grown hA (fun k hk => by cases hk)
  have h2 : Kept w w1 (KW w R) := h1.more hk (fun k hk => by rcases hk with hk | hk; exact .inl hk; exact .inr (by omega))
  have h3 : Kept w1 (w1.setRow g us) (fun i => i = g) := ⟨rfl, rfl, rfl, by omega, fun k _ hk => setRow_other _ _ _ _ hk⟩
  exact (h2.more h3 (fun k hk => .inr (by omega))).grown

theorem results_cell_one {fn : Func} {p : Tmp} {ty : TypeId} (h : fn.results = #[.cell p ty]) (tmps : Array Value) (P : Program) (w : World) :
    (results fn tmps).run P w = ((asAddr (tmps.getD p undef)).run P w).andThen fun a w₁ => ((loadVar ty a).run P w₁).andThen fun v w₂ => .ok v w₂ := by
  simp only [results, h]
  simp [Sem.run_bind, Result.andThen]
  split <;> (try rfl) <;> (split <;> simp_all)
theorem results_one {P : Program} {fn : Func} {p : Tmp} {ty : TypeId} (h : fn.results = #[.cell p ty]) {tmps : Array Value} {w : World} {g : Nat} {cs : Array Value} (hp : tmps.getD p undef = .pointer (some ⟨g, 0, none⟩)) (hg : w.heap[g]? = some (.cells cs ty (0, 0)))
    {d : TypeDesc} (hu : P.underlying ty = some d) (hd : (match d with | .struct _ | .array _ _ => true | _ => false) = true) (hi : (P.info? ty).map (·.size) = some cs.size) : (results fn tmps).run P w = .ok (.agg cs) w := by
  rw [results_cell_one h, hp]
  simp [asAddr, Result.andThen, run_loadVar_row (P := P) w g ty ty cs (0, 0) d hg hu hd hi]

/-! ### slices of structs -/
/-- A round of a loop that reads a slice of structs: i rows are read; the loop began when the world was w1; W: what else it changes. -/
structure DLt (W : Nat → Prop) (w1 : World) (R T N : Nat) (t : List Fld) (n : Nat) (st1 : St) (i : Nat) (acc : List (List V)) (cells : List (List Value)) (ov : Value) (stk : St) (w : World) : Prop where
  rdr : RDec w R stk
  small : Small stk
  hR : R < w1.heap.size
  hW : ∀ j, W j → R < j ∧ j < w1.heap.size
  rel : rdN (rdRow t) n [] st1 = rdN (rdRow t) (n - i) acc stk
  le : n ≤ 4096
  ile : i ≤ n
  alen : acc.length = i
  clen : cells.length = acc.length
  rows : ∀ (j : Nat) r c, acc[j]? = some r → cells[j]? = some c → RowRep (fun k => w1.heap.size ≤ k ∧ ov.ownBlock ≠ some k) w t r c
  own : w.ownsRow w1.heap.size T N ov acc.length cells.flatten
  kept : Kept w1 w (fun j => j = R ∨ W j ∨ w1.heap.size ≤ j)

section
variable {W : Nat → Prop} {w1 : World} {R T N : Nat} {t : List Fld} {n : Nat} {st1 : St} {i : Nat} {acc : List (List V)} {cells : List (List Value)} {ov : Value} {stk : St} {w : World}

theorem DLt.start (h : RDec w1 R st1) (hs : Small st1) (hW : ∀ j, W j → R < j ∧ j < w1.heap.size) (hn : n ≤ 4096) : DLt W w1 R T N t n st1 0 [] [] (.slice none 0 0) st1 w1 :=
  ⟨h, hs, h.lt, hW, rfl, hn, Nat.zero_le _, rfl, rfl, fun j r c h => by simp at h, World.ownsRow_nil _ _ _ _, Kept.refl _ _⟩

theorem DLt.slice (h : DLt W w1 R T N t n st1 i acc cells ov stk w) : ∃ a c, ov = .slice a i c := by
  obtain ⟨a, c, e, -⟩ := ownsRow_rd h.own
  rw [h.alen] at e
  exact ⟨a, c, e⟩

/-- The loop's end. -/
theorem DLt.fin (h : DLt W w1 R T N t n st1 i acc cells ov stk w) (hx : n ≤ i ∨ ∃ c, stk = .error c) : rdN (rdRow t) n [] st1 = (acc, stk) := by
  rw [h.rel]
  rcases hx with hx | ⟨c, rfl⟩
  · rw [show n - i = 0 by omega]
    rfl
  · cases n - i <;> rfl
theorem DLt.rep (h : DLt W w1 R T N t n st1 i acc cells ov stk w) (hN : t.length = N) : Rep (fun j => w1.heap.size ≤ j) w (.e t) (.e acc) ov :=
  (own_rep_e hN h.clen h.rows h.own).mono (fun j hj => by rcases hj with h | h; exact h; exact h.1) (Nat.le_refl _) (fun _ _ _ => rfl)

theorem DLt.ownLt (h : DLt W w1 R T N t n st1 i acc cells ov stk w) : ∀ k, ov.ownBlock = some k → w1.heap.size ≤ k ∧ k < w.heap.size := fun k hk => h.own.lt k hk

/-- The rows so far, while the next is read. -/
theorem DLt.own3 {w2 w3 : World} (h : DLt W w1 R T N t n st1 i acc cells ov stk w) (hk2 : Kept w w2 (KW w R)) (hg3 : w2.grownBy w3 none) : w3.ownsRow w1.heap.size T N ov i cells.flatten := by
  have h1 := own_keptR h.own hk2 (fun k hk e => by have := h.ownLt k hk; have := h.hR; rcases e with e | e <;> omega)
  have h2 := own_keptR h1 (Kept.of_grown (W := fun _ => False) hg3 (fun k hk => by cases hk)) (fun k hk e => e)
  rwa [h.alen] at h2

/-- A row more. -/
theorem DLt.step {bk : Bytes} {w2 w3 w4 w5 : World} {us : List Value} {v' : Value} (h : DLt W w1 R T N t n st1 i acc cells ov (.ok bk) w) (hi : i < n) (hrow : RowRep (fun k => w.heap.size ≤ k) w2 t (rdRow t (.ok bk)).1 us) (hd2 : RDec w2 R (rdRow t (.ok bk)).2) (hk2 : Kept w w2 (KW w R))
    (hg3 : w2.grownBy w3 none) (how : w4.ownsRow w1.heap.size T N v' (i + 1) (cells.flatten ++ us)) (hg4 : w3.grownBy w4 ov.ownBlock) (hv' : v'.ownBlock = ov.ownBlock ∨ v'.ownBlock = some w3.heap.size) (hk5 : Kept w4 w5 W) :
    DLt W w1 R T N t n st1 (i + 1) (acc ++ [(rdRow t (.ok bk)).1]) (cells ++ [us]) v' (rdRow t (.ok bk)).2 w5 := by
  have hR := h.hR
  have hWW := h.hW
  have hs1 := h.kept.size
  have hs2 := hk2.size
  have hs3 := hg3.size
  have hs4 := hg4.size
  have hs5 := hk5.size
  have hown := h.ownLt
  have hal := h.alen
  have hcl := h.clen
  have hkeep : ∀ j, w1.heap.size ≤ j → j < w.heap.size → ov.ownBlock ≠ some j → w5.heap[j]? = w.heap[j]? := by
    intro j hj hjl hjo
    rw [hk5.block j (by omega) (fun e => by have := hWW j e; omega), hg4.block j (by omega) (fun e => hjo e.symm), hg3.block j (by omega) (by simp), hk2.block j hjl (fun e => by rcases e with e | e <;> omega)]
  refine ⟨?_, h.small.row t, hR, hWW, ?_, h.le, hi, by simp [hal], by simp [hcl], fun j r c hj hc => ?_, ?_, ?_⟩
  · exact hd2.keep (fun j hj => by
      have hjR : j ≤ R := hj
      rw [hk5.block j (by omega) (fun e => by have := hWW j e; omega), hg4.block j (by omega) (fun e => by have := hown j e.symm; omega), hg3.block j (by omega) (by simp)])
  · rw [h.rel, show n - i = (n - (i + 1)) + 1 by omega, rdN]
  · by_cases hjl : j < acc.length
    · rw [List.getElem?_append_left hjl] at hj
      rw [List.getElem?_append_left (by omega)] at hc
      refine (h.rows j r c hj hc).lt.mono (fun m hm => ⟨hm.1.1, fun e => ?_⟩) (by omega) (fun m hm hlt => hkeep m hm.1.1 hlt hm.1.2)
      rcases hv' with e1 | e1
      · exact hm.1.2 (e1.symm.trans e)
      · rw [e1] at e; injection e with e; have := hm.2; omega
    · rw [List.getElem?_append_right (by omega)] at hj hc
      rw [hcl] at hc
      have hj0 : j - acc.length = 0 := by
        have := (List.getElem?_eq_some_iff.1 hj).1
        simp at this
        omega
      rw [hj0] at hj hc
      simp at hj hc
      subst hj hc
      refine hrow.lt.mono (fun m hm => ⟨by omega, fun e => ?_⟩) (by omega) (fun m hm hlt => ?_)
      · rcases hv' with e1 | e1
        · have := hown m (e1.symm.trans e); omega
        · rw [e1] at e; injection e with e; have := hm.2; omega
      · rw [hk5.block m (by omega) (fun e => by have := hWW m e; omega), hg4.block m (by omega) (fun e => by have := hown m e.symm; omega), hg3.block m (by omega) (by simp)]
  · have h6 := own_keptR how hk5 (fun k hk e => by
      have := hWW k e
      rcases hv' with e1 | e1
      · have := hown k (e1.symm.trans hk); omega
      · rw [e1] at hk; injection hk with hk; omega)
    rw [List.length_append, List.flatten_append]
    simpa [hal] using h6
  · have ka : Kept w w2 (fun j => j = R ∨ W j ∨ w1.heap.size ≤ j) := hk2.mono (fun k _ hk => by rcases hk with hk | hk; exact .inl hk; exact .inr (.inr (by omega)))
    have kb : Kept w2 w3 (fun j => j = R ∨ W j ∨ w1.heap.size ≤ j) := Kept.of_grown hg3 (fun k hk => by cases hk)
    have kc : Kept w3 w4 (fun j => j = R ∨ W j ∨ w1.heap.size ≤ j) := Kept.of_grown hg4 (fun k hk _ => .inr (.inr (hown k hk).1))
    have kd : Kept w4 w5 (fun j => j = R ∨ W j ∨ w1.heap.size ≤ j) := hk5.mono (fun k _ hk => .inr (.inl hk))
    exact (((h.kept.trans ka).trans kb).trans kc).trans kd
end

section
variable {w0 : World} {R b : Nat} {T : TypeId} {zs : Array Value} {s : List Fld} {st0 : St} {k : Nat} {w : World}
/-- The number of a slice's rows is read. -/
theorem uint_read {st : St} (h : RDec w R st) : Calls Try.prog 56 #[.pointer (some ⟨R, 0, none⟩), .int .u64 4096] w fun x w' => x = .returned (.int .u64 ((uS 4096 st).1 : Nat)) ∧ RDec w' R (uS 4096 st).2 ∧ w.grownBy w' (some R) := by
  obtain ⟨bs, e, a, n, c, h1, h2⟩ := h
  refine (RUint_any R bs e a n c 4096 w h1).mono ?_
  rw [h2]
  rintro x w' ⟨rfl, hl⟩
  exact ⟨rfl, hl.dec.1, hl.dec.2⟩
/-- Is there an error? -/
theorem err_read {st : St} (h : RDec w R st) : ∃ e : Nat, Calls Try.prog 63 #[.pointer (some ⟨R, 0, none⟩)] w (fun x w' => x = .returned (.int .i64 (e : Int)) ∧ w = w') ∧ (e = 0 ∧ (∃ b, st = .ok b) ∨ e ≠ 0 ∧ st = .error e) := by
  obtain ⟨bs, e, a, n, c, h1, h2⟩ := h
  refine ⟨e, RErr_any R bs e a n c w h1, ?_⟩
  by_cases he : e = 0
  · subst he
    exact .inl ⟨rfl, bs, by rw [← h2, stR_ok]⟩
  · exact .inr ⟨he, by rw [← h2, stR_er _ _ he]⟩

/-- The slice's rows are read and lie in the struct. -/
theorem DSt.listEnd {t : List Fld} {cs : Array Value} {w1 w2 : World} {acc : List (List V)} {stk : St} {ov : Value} (h : DSt w0 R b T zs s st0 k w) (hq : s[k]? = some (.e t)) (hb : w.heap[b]? = some (.cells cs T (0, 0))) (hg : w.grownBy w1 (some R)) (hk : Kept w1 w2 (fun j => j = R ∨ j = b ∨ w1.heap.size ≤ j)) (hd : RDec w2 R stk)
    (hv : rdV (.e t) (rdRow (s.take k) st0).2 = (.e acc, stk)) (hu : Rep (fun j => w1.heap.size ≤ j) w2 (.e t) (.e acc) ov) (hb2 : w2.heap[b]? = some (.cells (cs.setIfInBounds k ov) T (0, 0))) : DSt w0 R b T zs s st0 (k + 1) w2 := by
  obtain ⟨us, hbk, hrow⟩ := h.us
  have hk1 : k < s.length := (List.getElem?_eq_some_iff.1 hq).1
  have hlen := h.len hrow (by omega)
  have hRw := h.hR
  have hbw := h.hb
  have hsw := h.kept.size
  have hs1 := hg.size
  rw [hb] at hbk
  injection hbk with hbk
  injection hbk with e1 e2 e3
  have hrd : rdRow (s.take (k + 1)) st0 = ((rdRow (s.take k) st0).1 ++ [.e acc], stk) := by rw [row_take_one hq, rdRow_append, rdRow_one, hv]
  refine ⟨by rw [hrd]; exact hd, h.small, hRw, hbw, h.size, ⟨us ++ [ov], ?_, ?_⟩, ?_⟩
  · rw [hb2, e1, ← splice_append, Nat.zero_add, hlen]
    rfl
  · rw [hrd, row_take_one hq]
    refine RowRep.append (hrow.lt.mono (fun j hj => hj.1) (Nat.le_trans hs1 hk.size) (fun j hj hjl => ?_)) (RowRep.one (hu.mono (fun j hj => ⟨by omega, by have := blk_lt hb; omega⟩) (Nat.le_refl _) (fun _ _ _ => rfl)))
    rw [hk.block j (by omega) (fun e => by have := hj.1; rcases e with e | e | e; omega; exact hj.1.2 e; omega), hg.block j hjl (fun e => by injection e with e; have := hj.1; omega)]
  · exact (h.kept.more (Kept.of_grown (W := fun i => i = R) hg (fun k hk _ => by injection hk with hk; exact hk.symm)) (fun k hk => .inl hk)).more hk (fun k hk => by rcases hk with hk | hk | hk; exact .inl hk; exact .inr (by omega); exact .inr (by omega))
end

theorem splice_after : ∀ (us : List Value) (cs : Array Value) (o j : Nat), o + us.length ≤ j → (splice cs o us)[j]? = cs[j]?
  | [], cs, o, j, _ => rfl
  | u :: us, cs, o, j, h => by
    simp only [List.length_cons] at h
    rw [splice, splice_after us _ (o + 1) j (by omega), Array.getElem?_setIfInBounds, if_neg (by omega)]

/-- A round of a loop that reads a slice of structs into the k-th cell of the struct in block b. -/
def DLoop (b : Nat) (Tb : TypeId) (cs : Array Value) (k : Nat) (w1 : World) (R T N : Nat) (t : List Fld) (n : Nat) (st1 : St) (i : Nat) (w : World) : Prop :=
  ∃ acc cells ov stk, DLt (fun j => j = b) w1 R T N t n st1 i acc cells ov stk w ∧ w.heap[b]? = some (.cells (cs.setIfInBounds k ov) Tb (0, 0)) ∧ k < cs.size

/-- The number of rows is read: the loop begins. -/
theorem DSt.rows {w0 : World} {R b : Nat} {Tb : TypeId} {zs : Array Value} {s : List Fld} {st0 : St} {k : Nat} {w : World} {t : List Fld} (T N : Nat) (h : DSt w0 R b Tb zs s st0 k w) (hq : s[k]? = some (.e t)) (hz : zs[k]? = some (.slice none 0 0)) (hN : t.length = N) :
    Calls Try.prog 56 #[.pointer (some ⟨R, 0, none⟩), .int .u64 4096] w fun x w1 => ∃ (n : Nat) (st1 : St) (cs : Array Value), x = .returned (.int .u64 (n : Int)) ∧ n ≤ 4096 ∧ Hid (DLoop b Tb cs k w1 R T N t n st1 0 w1) ∧
      Hid (∀ (i : Nat) (w2 : World) acc cells ov stk, DLt (fun j => j = b) w1 R T N t n st1 i acc cells ov stk w2 → (n ≤ i ∨ ∃ c, stk = .error c) → w2.heap[b]? = some (.cells (cs.setIfInBounds k ov) Tb (0, 0)) → DSt w0 R b Tb zs s st0 (k + 1) w2) := by
  refine (uint_read h.rdr).mono ?_
  rintro x w1 ⟨rfl, hrd, hg⟩
  obtain ⟨us, hbk, hrow⟩ := h.us
  have hk1 : k < s.length := (List.getElem?_eq_some_iff.1 hq).1
  have hlen := h.len hrow (by omega)
  have hR := h.hR
  have hb := h.hb
  have hsz : k < (splice zs 0 us).size := by rw [splice_size, h.size]; exact hk1
  have hck : (splice zs 0 us)[k]? = some (.slice none 0 0) := by rw [splice_after us zs 0 k (by omega)]; exact hz
  have hset : (splice zs 0 us).setIfInBounds k (.slice none 0 0) = splice zs 0 us := by
    apply Array.ext_getElem?
    intro j
    rw [Array.getElem?_setIfInBounds]
    split
    · rename_i e
      subst e
      first | rw [if_pos hsz, hck] | exact hck.symm
    · rfl
  have hb1 : w1.heap[b]? = some (.cells (splice zs 0 us) Tb (0, 0)) := by rw [hg.block b (blk_lt hbk) (fun e => by injection e with e; omega)]; exact hbk
  refine ⟨_, (uS 4096 (rdRow (s.take k) st0).2).2, splice zs 0 us, rfl, uS_bd _ _, Lib.hid ⟨[], [], .slice none 0 0, _, DLt.start hrd ((h.small.row _).u _) (fun j hj => by subst hj; exact ⟨by omega, blk_lt hb1⟩) (uS_bd _ _), by rw [hset]; exact hb1, hsz⟩, Lib.hid ?_⟩
  intro i w2 acc cells ov stk hl hx hb2
  have hfin := hl.fin hx
  have hv : rdV (.e t) (rdRow (s.take k) st0).2 = (.e acc, stk) := by simp only [rdV, hfin]
  exact h.listEnd hq hbk hg (hl.kept.mono (fun j _ hj => hj)) hl.rdr hv (hl.rep hN) hb2

theorem info_elem {T N B : Nat} (h : (Try.prog.info? T).map (fun i => (i.zero.map (·.cells.size), i.size, i.bytes)) = some (some N, N, B)) : ∃ i z, Try.prog.info? T = some i ∧ i.zero = some z ∧ i.size = N ∧ i.bytes = B ∧ z.cells.size = N := by
  cases hq : Try.prog.info? T with
  | none => rw [hq] at h; cases h
  | some i =>
    rw [hq] at h
    simp at h
    obtain ⟨h1, h2, h3⟩ := h
    obtain ⟨z, hz, hzs⟩ := h1
    exact ⟨i, z, rfl, hz, h2, h3, hzs⟩

theorem DLt.later {W : Nat → Prop} {w1 : World} {R T N : Nat} {t : List Fld} {n : Nat} {st1 : St} {i : Nat} {acc : List (List V)} {cells : List (List Value)} {ov : Value} {stk : St} {w w' : World} (h : DLt W w1 R T N t n st1 i acc cells ov stk w) (hg : w.grownBy w' none) : DLt W w1 R T N t n st1 i acc cells ov stk w' :=
  ⟨h.rdr.keep (fun j hj => hg.block j (by have := h.rdr.lt; omega) (by simp)), h.small, h.hR, h.hW, h.rel, h.le, h.ile, h.alen, h.clen,
    fun j r c h1 h2 => (h.rows j r c h1 h2).mono (fun _ h => h) hg.size (fun k _ hk => hg.block k hk (by simp)),
    own_keptR h.own (Kept.of_grown (W := fun _ => False) hg (fun k hk => by cases hk)) (fun _ _ e => e), h.kept.trans (Kept.of_grown hg (fun k hk => by cases hk))⟩

/-- append of the row that was read. -/
theorem DLt.append {W : Nat → Prop} {w1 : World} {R T N : Nat} {t : List Fld} {n : Nat} {st1 : St} {i : Nat} {acc : List (List V)} {cells : List (List Value)} {bk : Bytes} {w w2 w3 : World} {us : Array Value} {ao : Option Addr} {co Y B : Nat}
    {o : Oper} {a : Act} {K : Act → World → Prop} {Q : Exit → Act → World → Prop} (x y : Operand) (tt : TypeId) (hop : o.op = .call { callee := .builtin .append, args := #[x, y], argTypes := #[tt, tt] }) (ht : Try.prog.underlying tt = some (.slice T))
    (hinfo : (Try.prog.info? T).map (fun i => (i.zero.map (·.cells.size), i.size, i.bytes)) = some (some N, N, B)) (hB : B ≤ 10000) (hN0 : 0 < N)
    (h : DLt W w1 R T N t n st1 i acc cells (.slice ao i co) (.ok bk) w) (hi : i < n) (hN : us.size = N) (hrow : RowRep (fun k => w.heap.size ≤ k) w2 t (rdRow t (.ok bk)).1 us.toList) (hrd : RDec w2 R (rdRow t (.ok bk)).2) (hg : w.grownBy w2 (some R))
    (hg3 : w2.grownBy w3 none) (hy : w3.heap[Y]? = some (.cells us T (0, 0))) (hx : a.eval x = .slice ao i co) (hyv : a.eval y = .slice (some ⟨Y, 0, none⟩) 1 1)
    (hK : ∀ a' c' w4, (∀ w5, Kept w4 w5 W → DLt W w1 R T N t n st1 (i + 1) (acc ++ [(rdRow t (.ok bk)).1]) (cells ++ [us.toList]) (.slice a' (i + 1) c') (rdRow t (.ok bk)).2 w5) → (∀ j, j < w1.heap.size → j ≠ R → w4.heap[j]? = w.heap[j]?) → K (a.put o.dst (.slice a' (i + 1) c')) w4) : o.wp Try.prog a w3 K Q := by
  have hk2 : Kept w w2 (KW w R) := Kept.of_grown hg (fun k hk _ => by injection hk with hk; exact .inl hk.symm)
  have hown3 := h.own3 hk2 hg3
  obtain ⟨i0, z0, hi0, hz0, hs0, hb0, hzs0⟩ := info_elem hinfo
  have hle := h.le
  have hs1 := h.kept.size
  have hs2 := hg.size
  have hs3 := hg3.size
  refine wp_append_one x y tt hop w1.heap.size T i0 z0 N B ht hi0 hz0 hs0 hb0 hzs0 hN0 (.slice ao i co) i cells.flatten hx hown3 Y 1 us.toList hyv (by simpa using hN) (fun j u hj => by rw [blk_cell hy, ← Array.getElem?_toList]; exact hj) (row_one hrow) (by omega) ?_ (by omega) ?_
  · have := Nat.mul_le_mul (show i + 1 ≤ 4096 by omega) hB
    omega
  · intro v' w4 how hg4 hv'
    obtain ⟨a', c', rfl, -⟩ := ownsRow_rd how
    refine hK a' c' w4 (fun w5 hk5 => h.step hi hrow hrd hk2 hg3 how hg4 hv' hk5) (fun j hj hjR => ?_)
    rw [hg4.block j (by omega) (fun e => by have := h.ownLt j e.symm; omega), hg3.block j (by omega) (by simp), hg.block j (by omega) (fun e => by injection e with e; exact hjR e)]

/-- The new slice is stored. -/
theorem DLoop.store {b : Nat} {Tb : TypeId} {cs : Array Value} {k : Nat} {w1 : World} {R T N : Nat} {t : List Fld} {n : Nat} {st1 : St} {i : Nat} {w w4 : World} {acc acc2 : List (List V)} {cells cells2 : List (List Value)} {ov v' : Value} {stk stk2 : St}
    (h : DLt (fun j => j = b) w1 R T N t n st1 i acc cells ov stk w) (hbk : w.heap[b]? = some (.cells (cs.setIfInBounds k ov) Tb (0, 0))) (hks : k < cs.size)
    (hstep : ∀ w5, Kept w4 w5 (fun j => j = b) → DLt (fun j => j = b) w1 R T N t n st1 (i + 1) acc2 cells2 v' stk2 w5) (hkeep : ∀ j, j < w1.heap.size → j ≠ R → w4.heap[j]? = w.heap[j]?) :
    ∃ old, w4.cell? ⟨b, k, none⟩ = some old ∧ (∀ off, w4.frozen? ⟨b, off, none⟩ = false) ∧ Hid (DLoop b Tb cs k w1 R T N t n st1 (i + 1) (w4.setCell ⟨b, k, none⟩ v')) := by
  have hb := h.hW b rfl
  have hb4 : w4.heap[b]? = some (.cells (cs.setIfInBounds k ov) Tb (0, 0)) := by rw [hkeep b hb.2 (by omega)]; exact hbk
  refine ⟨ov, by rw [blk_cell hb4]; exact set_get hks, blk_free hb4, Lib.hid ⟨acc2, cells2, v', stk2, hstep _ (Kept.of_grown (Lib.grownBy_setCell w4 b k v') (fun j hj _ => by injection hj with hj; exact hj.symm)), ?_, hks⟩⟩
  rw [blk_setCell hb4]
  congr 2
  simp

/-- The rows of a slice are read: what a function of its own returns. -/
theorem DLt.readE {w w1 wr : World} {R T N : Nat} {t : List Fld} {st : St} {i : Nat} {acc : List (List V)} {cells : List (List Value)} {ao : Option Addr} {co : Nat} {stk : St} (hN : t.length = N) (hg : w.grownBy w1 (some R))
    (h : DLt (fun _ => False) w1 R T N t (uS 4096 st).1 (uS 4096 st).2 i acc cells (.slice ao i co) stk wr) (hx : (uS 4096 st).1 ≤ i ∨ ∃ c, stk = .error c) : RReadE R t st w (.returned (.slice ao i co)) wr := by
  have hv : rdV (.e t) st = (.e acc, stk) := by simp only [rdV, h.fin hx]
  have hR := h.hR
  have hs := hg.size
  refine ⟨ao, i, co, rfl, ?_, by rw [hv]; exact h.rdr, ?_⟩
  · rw [hv]
    exact (h.rep hN).mono (fun j hj => by omega) (Nat.le_refl _) (fun _ _ _ => rfl)
  · exact ((Kept.of_grown (W := KW w R) hg (fun k hk _ => by injection hk with hk; exact .inl hk.symm)).trans (h.kept.mono (fun k _ hk => by rcases hk with hk | hk | hk; exact .inl hk; exact hk.elim; exact .inr (by omega)))).grown

/-- The walk stops at a slice literal. -/
theorem wpList_halt_build {P : Program} {ops : Array Oper} {rest : List Oper} {dst : Option Tmp} {type : TypeId} {pos : String} {after : Array Edge} {guard : Option (Nat × Bool)} {a : Act} {w : World} {Q : Exit → Act → World → Prop} (ty : TypeId) (n : Nat) (es : Array (Nat × Operand))
    (h : Stopped (wpList P ops Q ({ dst, op := .buildSlice ty n es, type, pos, after, guard } :: rest) a w)) : wpList P ops Q ({ dst, op := .buildSlice ty n es, type, pos, after, guard } :: rest) a w := h
end Go.Proofs.Ytbcpdjhpceimlaa
