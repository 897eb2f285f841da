/-
  The leaves of layer 27's coder: ints, bools, text, lists.
-/
import Derived.Test.YtbcpdjhpceimlaaMach
import Derived.Test.YtbcpdjhpceimlaaBack2
namespace Go.Proofs.Ytbcpdjhpceimlaa
open Go.ChangeShapes Go.WideShapes Go.ChangeAt Go.RowKit
set_option linter.unusedVariables false

theorem enc_ne {w : World} {C : Nat} {vo ip : Value} {T : TypeId} (h : w.heap[C]? = some (.cells #[vo, ip] T (0, 0))) (hv : ∀ z, vo ≠ .int .u8 z) (hi : ∀ z, ip ≠ .int .u8 z) {b off : Nat} {bs : Bytes} (hc : ∀ j u, (bc bs)[j]? = some u → w.cell? ⟨b, off + j, none⟩ = some u) (hp : bs ≠ []) : b ≠ C := by
  intro e
  subst e
  cases bs with
  | nil => exact hp rfl
  | cons x t =>
    have h1 := hc 0 _ rfl
    rw [blk_cell h] at h1
    match off + 0, h1 with
    | 0, h1 => simp at h1; exact hv _ h1
    | 1, h1 => simp at h1; exact hi _ h1
    | n + 2, h1 => simp at h1

/-- New bytes are laid into the coder. -/
theorem Enc.put {w w2 : World} {C : Nat} {bs bs2 : Bytes} {v : Value} (h : Enc w C bs) (hb : Below w.heap.size w w2) {B : Nat} (how : w2.ownsRow B 5 1 v bs2.length (bc bs2)) :
    Enc (w2.setCell ⟨C, 0, none⟩ v) C bs2 ∧ w.grownBy (w2.setCell ⟨C, 0, none⟩ v) (some C) := by
  obtain ⟨a, n, c, h1, h2, h3, h4, -⟩ := h
  have hlt := blk_lt h1
  have h5 : w2.heap[C]? = some (.cells #[.slice a n c, .pointer none] 104 (0, 0)) := by rw [hb.block C hlt]; exact h1
  have hg1 : w.grownBy w2 (some C) := ⟨hb.os, hb.tape, hb.output, hb.size, fun k hk _ => hb.block k hk⟩
  obtain ⟨a2, c2, rfl, hc⟩ := ownsRow_rd how
  refine ⟨⟨a2, _, c2, by rw [blk_setCell h5]; rfl, ?_, rfl, own_nil how, own_cap how⟩, hg1.trans (Lib.grownBy_setCell _ _ _ _)⟩
  rcases hc with h0 | ⟨b, off, rfl, hc⟩
  · exact .inl h0
  · by_cases hp : bs2 = []
    · exact .inl (by simp [bc, hp])
    · have hne := enc_ne h5 (fun z => by simp) (fun z => by simp) hc hp
      exact .inr ⟨b, off, rfl, fun j u hj => ext_of_grown (Lib.grownBy_setCell w2 C 0 _) _ _ (fun e => by injection e with e; exact hne e) (hc j u hj)⟩

theorem ptrs_at {w : World} {p b o m : Nat} {T : TypeId} (h : w.heap[p]? = some (.cells (ptrs b o m).toArray T (0, 0))) {k : Nat} (hk : k < m) : w.cell? ⟨p, k, none⟩ = some (.pointer (some ⟨b, o + k, none⟩)) := by
  rw [blk_cell h]
  simp [ptrs, List.getElem?_map, List.getElem?_range hk]

theorem block_kept {w w' : World} {row p : Nat} {o : Obj} (h : w.heap[p]? = some o) (hg : w.grownBy w' (some row)) (hne : p ≠ row) : w'.heap[p]? = some o := by
  rw [hg.block p (blk_lt h) (fun e => by injection e with e; exact hne e)]
  exact h

theorem drew_below {w w' : World} (h : Below w.drew.heap.size w.drew w') : Below w.heap.size w w' :=
  ((Below.refl w.heap.size w).drew).trans h

/-- What the decoder changes at one field. -/
theorem setCell_kept {w w' : World} {R b : Nat} (h : w.grownBy w' (some R)) (off : Nat) (u : Value) : Kept w (w'.setCell ⟨b, off, none⟩ u) (fun k => k = R ∨ k = b) :=
  (Kept.of_grown h (fun k hk _ => by injection hk with hk; exact .inl hk.symm)).trans (Kept.of_grown (Lib.grownBy_setCell w' b off u) (fun k hk _ => by injection hk with hk; exact .inr hk.symm))

theorem Dec.other {w w' : World} {C R : Nat} {st : St} (h : Dec w C R st) {W : Nat → Prop} (hk : Kept w w' W) (hC : ¬ W C) (hR : ∀ k, k ≤ R → ¬ W k) : Dec w' C R st := by
  obtain ⟨⟨o, h1⟩, a, n, c, bs, at', e, h2, h3, h4⟩ := h
  refine ⟨⟨o, by rw [hk.block C (blk_lt h1) hC]; exact h1⟩, a, n, c, bs, at', e, ⟨?_, ?_, h2.lt, h2.nc, h2.nil, h2.len, h2.bd, h2.le⟩, h3, h4⟩
  · rw [hk.block R (blk_lt h2.blk) (hR R (Nat.le_refl _))]
    exact h2.blk
  · rcases h2.cells with h0 | ⟨b, off, rfl, hc⟩
    · exact .inl h0
    · refine .inr ⟨b, off, rfl, fun j u hj => ?_⟩
      have h5 := hc j u hj
      have h6 : b < w.heap.size := World.block_lt_of_cell? w _ h5
      rw [cell?_heap (w := w) (p := ⟨b, off + j, none⟩) (hk.block b h6 (hR b (Nat.le_of_lt (h2.lt _ rfl))))]
      exact h5

theorem coder_ne {w : World} {C R : Nat} {oC ip : Value} {a : Option Addr} {n c : Nat} {bs : Bytes} {at' e : Nat} (hC : w.heap[C]? = some (.cells #[oC, ip] 104 (0, 0))) (hr : RdrAt 109 w R a n c bs at' e) : C ≠ R := by
  intro h
  subst h
  have h1 := hr.blk
  rw [hC] at h1
  injection h1 with h1
  injection h1 with h1
  have := congrArg Array.size h1
  simp at this

theorem rep_left {q : Fld} {k : Nat} {m : Nat} (h : k < m) : (List.replicate m q)[k]? = some q := by rw [List.getElem?_replicate, if_pos h]

theorem rdRow_snoc (q : Fld) (k : Nat) (st : St) : rdRow (List.replicate (k + 1) q) st = ((rdRow (List.replicate k q) st).1 ++ [(rdV q (rdRow (List.replicate k q) st).2).1], (rdV q (rdRow (List.replicate k q) st).2).2) := by
  rw [List.replicate_succ', rdRow_append, rdRow_one]

/-- What a round of a decoding leaf finds. -/
def DecRel (C b R o : Nat) (q : Fld) (st : St) (w1 : World) (k : Nat) (wr : World) : Prop :=
  Dec wr C R (rdRow (List.replicate k q) st).2 ∧ Kept w1 wr (fun i => i = R ∨ i = b) ∧
    ∃ us, RowRep (fun i => w1.heap.size ≤ i) wr (List.replicate k q) (rdRow (List.replicate k q) st).1 us ∧ ∀ cs T, w1.heap[b]? = some (.cells cs T (0, 0)) → wr.heap[b]? = some (.cells (splice cs o us) T (0, 0))

theorem DecRel.start {C b R o : Nat} {q : Fld} {st : St} {w1 : World} (h : Dec w1 C R st) : DecRel C b R o q st w1 0 w1 :=
  ⟨by simpa [rdRow] using h, Kept.refl _ _, [], by simpa [rdRow] using RowRep.nil _ _, fun cs T h => h⟩

/-- One field more has been read: w2 is the world behind the reader's call, u the cell's new value. -/
theorem DecRel.step {C b R o : Nat} {q : Fld} {st : St} {w1 wr w2 : World} {k : Nat} (h : DecRel C b R o q st w1 k wr) (hCb : b ≠ C) (hRb : R < b) (hb : b < w1.heap.size) (hg : wr.grownBy w2 (some R))
    (hd : Dec w2 C R (rdV q (rdRow (List.replicate k q) st).2).2) {u : Value} (hu : Rep (fun i => wr.heap.size ≤ i) w2 q (rdV q (rdRow (List.replicate k q) st).2).1 u) :
    DecRel C b R o q st w1 (k + 1) (w2.setCell ⟨b, o + k, none⟩ u) := by
  obtain ⟨h1, h2, us, h3, h4⟩ := h
  have hk := setCell_kept hg (o + k) u (b := b)
  have hk2 : Kept w2 (w2.setCell ⟨b, o + k, none⟩ u) (fun i => i = b) := Kept.of_grown (Lib.grownBy_setCell w2 b (o + k) u) (fun i hi _ => by injection hi with hi; exact hi.symm)
  refine ⟨?_, h2.trans hk, us ++ [u], ?_, fun cs T hcs => ?_⟩
  · rw [rdRow_snoc]
    exact hd.other hk2 (fun e => hCb e.symm) (fun i hi e => by omega)
  · rw [rdRow_snoc, List.replicate_succ']
    refine RowRep.append (h3.mono (fun _ h => h) hk.size (fun i hi hlt => hk.block i hlt (fun e => by rcases e with rfl | rfl <;> omega))) (RowRep.one (hu.mono (fun i hi => Nat.le_trans h2.size hi) hk2.size (fun i hi hlt => hk2.block i hlt (fun e => by have := h2.size; omega))))
  · have h5 := h4 cs T hcs
    have h6 : w2.heap[b]? = some (.cells (splice cs o us) T (0, 0)) := by rw [hg.block b (blk_lt h5) (fun e => by injection e with e; omega)]; exact h5
    rw [blk_setCell h6, ← splice_append]
    have hl : us.length = k := by rw [h3.2.1]; simp
    rw [hl]
    rfl

theorem encL_ge (l : List Int) : l.length ≤ (encL l).length := by
  have : l.length ≤ (l.flatMap encI).length := by
    induction l with
    | nil => simp
    | cons x l ih =>
      have h := (leb_length (zz x)).1
      simp only [List.flatMap_cons, List.length_append, List.length_cons, encI] at ih ⊢
      omega
  simp only [encL, List.length_append]
  omega
theorem iS_in64 (s : St) : In64 (iS s).1 := iS_bd s
theorem own_rep_l {w : World} {B : Nat} {o : Value} {xs : List Int} (h : w.ownsRow B 3 1 o xs.length (ic xs)) (hw : ∀ x ∈ xs, In64 x) : Rep (fun i => B ≤ i) w .l (.l xs) o := by
  have h0 := h
  obtain ⟨a, c, rfl, hc⟩ := ownsRow_rd h
  refine .l xs a _ c rfl (own_cap h) ?_ (own_nil h) (fun x hx _ => ?_) hw hc
  · rcases h.2 with ⟨h1, _⟩ | ⟨g, cap, cur, h1, _, _, _, h2, _⟩
    · injection h1 with _ _ h3; subst h3; exact Nat.zero_le _
    · injection h1 with _ _ h3; subst h3; exact h2
  · subst hx
    have h2 := h0.lt x.block rfl
    refine ⟨h2.1, h2.2, ?_⟩
    rcases h.2 with ⟨h1, _⟩ | ⟨g, cap, cur, h1, _⟩
    · injection h1 with h1; cases h1
    · injection h1 with h1; injection h1 with h1; subst h1; rfl
theorem isN_in64 : ∀ (n : Nat) (acc : List Int) (s : St), (∀ x ∈ acc, In64 x) → ∀ x ∈ (isN n acc s).1, In64 x
  | 0, acc, s, h, x, hx => h x (by simpa [isN] using hx)
  | n + 1, acc, s, h, x, hx => by
    rw [isN] at hx
    cases hq : (iS s).2 with
    | error c => rw [hq] at hx; simp at hx
    | ok r =>
      rw [hq] at hx
      exact isN_in64 n _ _ (fun y hy => by
        rcases List.mem_append.1 hy with hy | hy
        · exact h y hy
        · simp at hy; subst hy; exact iS_in64 s) x hx
theorem lS_in64 (m : Int) (s : St) : ∀ x ∈ (lS m s).1, In64 x := isN_in64 _ _ _ (fun x hx => by simp at hx)
theorem tS_len (m : Int) (s : St) : (tS m s).1.length ≤ m.toNat := by
  unfold tS
  split
  · simp
  · rename_i rest hq
    have := uS_bd m.toNat s
    split
    · simp
    · simp; omega

set_option maxRecDepth 100000 in
set_option maxHeartbeats 2000000 in
theorem ints_coder : CoderL 84 157 .i := by
  intro C b o m p M w w1 hpre hg0 hpw hp hm
  cases M with
  | enc bs v =>
    obtain ⟨henc, hbC, hfld, hbd⟩ := hpre
    have HENC := Lib.hid (henc.grown hg0)
    have HF := Lib.hid hfld
    have HBD := Lib.hid hbd
    have HPT := Lib.hid hp
    have HG0 := Lib.hid hg0
    have hCp : p ≠ C := by obtain ⟨_, _, _, h1, _⟩ := henc; have := blk_lt h1; omega
    have HCp := Lib.hid hCp
    clear henc hfld hbd hp hg0 hCp
    go_enter Try.func84, Try.ntmps84
    go_wp2_with fail
    go_loopw [8] (fun i wr => ∃ k : Nat, i = .int .i64 k ∧ k ≤ m ∧ Hid (Enc wr C (bs ++ encRow (vals v o k))) ∧ Hid (w1.grownBy wr (some C))) (fun i _ => m - (intOf i).toNat)
    case atStart => exact ⟨0, rfl, Nat.zero_le _, Lib.hid (by simpa [vals_zero, encRow] using HENC.out), Lib.hid (World.grownBy.refl _ _)⟩
    case round =>
      obtain ⟨k, rfl, hk, HE, HG⟩ := hrel
      by_cases hlt : k < m
      · obtain ⟨a, n, c, he1, he2, he3, he4, he5⟩ := HE.out
        have e0 : wr.cell? ⟨C, 0, none⟩ = some (.slice a n c) := by rw [blk_cell he1]; rfl
        have e1 : wr.cell? ⟨C, 1, none⟩ = some (.pointer none) := by rw [blk_cell he1]; rfl
        have hfr : ∀ off, wr.frozen? ⟨C, off, none⟩ = false := blk_free he1
        have e2 := ptrs_at (block_kept HPT.out HG.out HCp.out) hlt
        obtain ⟨u0, hcell, hrep⟩ := HF.out k _ (rep_left hlt)
        obtain ⟨x, hvx, rfl, hxb⟩ := rep_i hrep
        have e3 : wr.cell? ⟨b, o + k, none⟩ = some (.int .i64 x) := ext_of_grown HG.out _ _ (fun e => by injection e with e; exact hbC e) (ext_of_below (grown_below HG0.out) _ _ hcell)
        have HVX := Lib.hid (show encRow (vals v o (k + 1)) = encRow (vals v o k) ++ encI x by rw [vals_add, encRow_append, vals_one, encRow_one, hvx]; rfl)
        have hle : (encRow (vals v o (k + 1))).length ≤ (encRow (vals v o m)).length := by
          conv => rhs; rw [show m = (k + 1) + (m - (k + 1)) by omega, vals_add, encRow_append, List.length_append]
          omega
        rw [HVX.out, List.length_append] at hle
        have HLE := Lib.hid (show (bs ++ encRow (vals v o k)).length + (encI x).length ≤ 140737488355000 by have := HBD.out; rw [List.length_replicate] at this; rw [List.length_append]; omega)
        have HE1 := Lib.hid he1
        have HC := Lib.hid (show CellsAt wr.drew a (bc (bs ++ encRow (vals v o k))) from he2.below (Below.refl _ _).drew)
        have HL := Lib.hid he3
        have HN := Lib.hid he4
        have HXB := Lib.hid hxb
        clear he1 he2 he3 he4 hcell hrep hvx hle hxb
        go_wp2_with fail
        refine wp_region_plan [(0, none), (1, none), (2, none), (3, none), (4, some none), (5, none), (6, none), (7, some none), (8, some (some false)), (9, none), (10, none), (11, some (some false))] (by kernel_rfl) (by kernel_rfl) ?_
        repeat (first | (refine plan_free (v := ?_) rfl rfl (fun _ => ?_) (fun K hK => ?_); rotate_left 1; (focus (go_simp <;> exact rfl)); go_simp; refine hK _ _ ?_; clear hK K) | (refine plan_held (v := ?_) rfl rfl ?_ (fun K hK => ?_); rotate_left 1; (focus (go_simp <;> exact rfl)); go_simp; refine hK _ _ ?_; clear hK K) | (refine plan_skip rfl rfl (fun K hK => ?_); go_simp; refine hK _ _ ?_; clear hK K))
        refine plan_eff rfl rfl (fun K hK => ?_)
        go_wp2_with (go_at_call 25; refine halt_here ?_)
        refine go_on ((PutInt_any a n c (bs ++ encRow (vals v o k)) x wr.drew HC.out HN.out HL.out HXB.out.1 HXB.out.2 HLE.out).mono ?_)
        rintro e w2 ⟨v2, rfl, how, hb2⟩
        have f2 : ∀ off, w2.frozen? ⟨C, off, none⟩ = false := blk_free ((hb2.block C (blk_lt HE1.out)).trans HE1.out)
        have f3 : (w2.cell? ⟨C, 0, none⟩) = some (.slice a n c) := by rw [hb2.cell (blk_lt HE1.out)]; exact e0
        have HP2 := Lib.hid (HE.out.put (drew_below hb2) how)
        obtain ⟨a2, n2, c2, rfl, -, -, -⟩ := own_open how
        clear how hb2
        go_wp2_with fail
        repeat (first | (refine plan_free (v := ?_) rfl rfl (fun _ => ?_) (fun K hK => ?_); rotate_left 1; (focus (go_simp <;> exact rfl)); go_simp; refine hK _ _ ?_; clear hK K) | (refine plan_held (v := ?_) rfl rfl ?_ (fun K hK => ?_); rotate_left 1; (focus (go_simp <;> exact rfl)); go_simp; refine hK _ _ ?_; clear hK K) | (refine plan_skip rfl rfl (fun K hK => ?_); go_simp; refine hK _ _ ?_; clear hK K))
        refine plan_eff rfl rfl (fun K hK => ?_)
        go_wp2_with fail
        repeat (first | (refine plan_free (v := ?_) rfl rfl (fun _ => ?_) (fun K hK => ?_); rotate_left 1; (focus (go_simp <;> exact rfl)); go_simp; refine hK _ _ ?_; clear hK K) | (refine plan_held (v := ?_) rfl rfl ?_ (fun K hK => ?_); rotate_left 1; (focus (go_simp <;> exact rfl)); go_simp; refine hK _ _ ?_; clear hK K) | (refine plan_skip rfl rfl (fun K hK => ?_); go_simp; refine hK _ _ ?_; clear hK K))
        refine plan_nil ?_
        have HE3 := Lib.hid (show Enc (w2.setCell ⟨C, 0, none⟩ (.slice a2 n2 c2)) C (bs ++ encRow (vals v o (k + 1))) by have := HP2.out.1; rwa [List.append_assoc, ← HVX.out] at this)
        have HG3 := Lib.hid (HG.out.trans HP2.out.2)
        clear f2 f3 e0 e1 e2 e3 hfr
        go_wp2_with fail
        go_roundw
        case rel => exact ⟨k + 1, by go_num, by omega, HE3, HG3⟩
        case measure => simp [intOf]; omega
      · obtain rfl : k = m := by omega
        go_wp2_with fail
        refine bodyPost_end (results_none rfl _ _ _) rfl ?_
        refine ⟨rfl, ?_, ?_⟩
        · rw [List.length_replicate]; exact HE.out
        · exact ⟨HG.out.os.trans HG0.out.os, HG.out.tape.trans HG0.out.tape, HG.out.output.trans HG0.out.output, Nat.le_trans HG0.out.size HG.out.size, fun j hj hn => (HG.out.block j (Nat.lt_of_lt_of_le hj HG0.out.size) hn).trans (HG0.out.block j hj (by simp))⟩

  | dec R st =>
    obtain ⟨hdec, hbC, hRb, cs, Tb, hblk, hsz⟩ := hpre
    have hgr : w.grownBy w1 none := hg0
    have HDEC := Lib.hid (hdec.grown hg0)
    have HPT := Lib.hid hp
    have HG0 := Lib.hid hg0
    have hbw : b < w1.heap.size := Nat.lt_of_lt_of_le (blk_lt hblk) hg0.size
    have HBW := Lib.hid (blk_lt hblk)
    have HBW1 := Lib.hid hbw
    have HB1 := Lib.hid (show w1.heap[b]? = some (.cells cs Tb (0, 0)) by rw [hg0.block b (blk_lt hblk) (by simp)]; exact hblk)
    have hpb : p ≠ b := by have := blk_lt hblk; omega
    have hpR : p ≠ R := by have := blk_lt hblk; omega
    have HPB := Lib.hid hpb
    have HPR := Lib.hid hpR
    have HSZ := Lib.hid (show o + m ≤ cs.size by rw [List.length_replicate] at hsz; exact hsz)
    clear hdec hblk hp hg0 hbw hpb hpR hgr hsz
    go_enter Try.func84, Try.ntmps84
    go_wp2_with fail
    go_loopw [8] (fun i wr => ∃ k : Nat, i = .int .i64 k ∧ k ≤ m ∧ Hid (DecRel C b R o .i st w1 k wr)) (fun i _ => m - (intOf i).toNat)
    case atStart => exact ⟨0, rfl, Nat.zero_le _, Lib.hid (DecRel.start HDEC.out)⟩
    case round =>
      obtain ⟨k, rfl, hk, HR⟩ := hrel
      by_cases hlt : k < m
      · obtain ⟨hd1, hk1, us, hrow, hcb⟩ := HR.out
        obtain ⟨⟨oC, hC1⟩, a, n, c, bs, at', e, hrd, hst, hn⟩ := hd1
        have e1 : wr.cell? ⟨C, 1, none⟩ = some (.pointer (some ⟨R, 0, none⟩)) := by rw [blk_cell hC1]; rfl
        have hpk : wr.heap[p]? = some (.cells (ptrs b o m).toArray 157 (0, 0)) := by rw [hk1.block p (blk_lt HPT.out) (fun e => by rcases e with e | e; exact HPR.out e; exact HPB.out e)]; exact HPT.out
        have e2 := ptrs_at hpk hlt
        have hbr := hcb cs Tb HB1.out
        have hfr : ∀ off, wr.frozen? ⟨b, off, none⟩ = false := blk_free hbr
        obtain ⟨uo, e3⟩ : ∃ u, wr.cell? ⟨b, o + k, none⟩ = some u := ⟨_, by rw [blk_cell hbr]; exact Array.getElem?_eq_getElem (by rw [splice_size]; have := HSZ.out; omega)⟩
        have HBR := Lib.hid hbr
        have HRD := Lib.hid hrd
        have HST := Lib.hid hst
        have HNN := Lib.hid hn
        have HC1 := Lib.hid hC1
        have hRw : R < wr.heap.size := blk_lt hrd.blk
        have HRW := Lib.hid hRw
        clear hk1 hrow hcb hC1 hrd hst hn hpk hbr hRw
        go_wp2_with (go_at_call 20; refine halt_here ?_)
        refine go_on ((Int_any R a n c bs at' e wr HRD.out).mono ?_)
        rw [HST.out]
        rintro x w2 ⟨rfl, hleft⟩
        obtain ⟨at2, e2', hr2, hs2, hg2⟩ := hleft
        have HG2 := Lib.hid hg2
        have f3 : w2.cell? ⟨b, o + k, none⟩ = some uo := by rw [World.cell?_of_block (hg2.block b (blk_lt HBR.out) (fun e => by injection e with e; have : b = R := e; omega))]; exact e3
        have f4 : ∀ off, w2.frozen? ⟨b, off, none⟩ = false := blk_free (show w2.heap[b]? = some (.cells (splice cs o us) Tb (0, 0)) by rw [hg2.block b (blk_lt HBR.out) (fun e => by injection e with e; omega)]; exact HBR.out)
        have HD2 := Lib.hid (show Dec w2 C R (rdV .i (rdRow (List.replicate k .i) st).2).2 from ⟨⟨oC, by rw [hg2.block C (blk_lt HC1.out) (fun e => by injection e with e; exact coder_ne HC1.out HRD.out e)]; exact HC1.out⟩, a, n, c, bs, at2, e2', hr2, hs2, HNN.out⟩)
        have HREL := Lib.hid (HR.out.step hbC hRb HBW1.out hg2 HD2.out (u := .int .i64 (iS (rdRow (List.replicate k .i) st).2).1) (Rep.i _ (iS_in64 _)))
        clear hr2 hs2 hg2
        generalize (iS (rdRow (List.replicate k .i) st).2).1 = y at HREL
        go_wp2_with fail
        go_roundw
        case rel => exact ⟨k + 1, by go_num, by omega, HREL⟩
        case measure => simp [intOf]; omega
      · obtain rfl : k = m := by omega
        obtain ⟨hd1, hk1, us, hrow, hcb⟩ := HR.out
        have HP := Lib.hid (show Post C b (.dec R st) (List.replicate k .i) o w wr from ⟨hd1, hRb, HBW.out, (Kept.of_grown HG0.out (fun k hk => by cases hk)).trans hk1, us, hrow.mono (fun i hi => Nat.le_trans HG0.out.size hi) (Nat.le_refl _) (fun _ _ _ => rfl), fun cs T hcs => hcb cs T (by rw [HG0.out.block b HBW.out (by simp)]; exact hcs)⟩)
        clear hd1 hk1 hrow hcb
        go_wp2_with fail
        refine bodyPost_end (results_none rfl _ _ _) rfl ?_
        exact ⟨rfl, HP.out⟩

set_option maxRecDepth 100000 in
set_option maxHeartbeats 2000000 in
theorem bools_coder : CoderL 85 159 .b := by
  intro C b o m p M w w1 hpre hg0 hpw hp hm
  cases M with
  | enc bs v =>
    obtain ⟨henc, hbC, hfld, hbd⟩ := hpre
    have HENC := Lib.hid (henc.grown hg0)
    have HF := Lib.hid hfld
    have HBD := Lib.hid hbd
    have HPT := Lib.hid hp
    have HG0 := Lib.hid hg0
    have hCp : p ≠ C := by obtain ⟨_, _, _, h1, _⟩ := henc; have := blk_lt h1; omega
    have HCp := Lib.hid hCp
    clear henc hfld hbd hp hg0 hCp
    go_enter Try.func85, Try.ntmps85
    go_wp2_with fail
    go_loopw [8] (fun i wr => ∃ k : Nat, i = .int .i64 k ∧ k ≤ m ∧ Hid (Enc wr C (bs ++ encRow (vals v o k))) ∧ Hid (w1.grownBy wr (some C))) (fun i _ => m - (intOf i).toNat)
    case atStart => exact ⟨0, rfl, Nat.zero_le _, Lib.hid (by simpa [vals_zero, encRow] using HENC.out), Lib.hid (World.grownBy.refl _ _)⟩
    case round =>
      obtain ⟨k, rfl, hk, HE, HG⟩ := hrel
      by_cases hlt : k < m
      · obtain ⟨a, n, c, he1, he2, he3, he4, he5⟩ := HE.out
        have e0 : wr.cell? ⟨C, 0, none⟩ = some (.slice a n c) := by rw [blk_cell he1]; rfl
        have e1 : wr.cell? ⟨C, 1, none⟩ = some (.pointer none) := by rw [blk_cell he1]; rfl
        have hfr : ∀ off, wr.frozen? ⟨C, off, none⟩ = false := blk_free he1
        have e2 := ptrs_at (block_kept HPT.out HG.out HCp.out) hlt
        obtain ⟨u0, hcell, hrep⟩ := HF.out k _ (rep_left hlt)
        obtain ⟨x, hvx, rfl⟩ := rep_b hrep
        have e3 : wr.cell? ⟨b, o + k, none⟩ = some (.bool x) := ext_of_grown HG.out _ _ (fun e => by injection e with e; exact hbC e) (ext_of_below (grown_below HG0.out) _ _ hcell)
        have HVX := Lib.hid (show encRow (vals v o (k + 1)) = encRow (vals v o k) ++ encB x by rw [vals_add, encRow_append, vals_one, encRow_one, hvx]; rfl)
        have hle : (encRow (vals v o (k + 1))).length ≤ (encRow (vals v o m)).length := by
          conv => rhs; rw [show m = (k + 1) + (m - (k + 1)) by omega, vals_add, encRow_append, List.length_append]
          omega
        rw [HVX.out, List.length_append] at hle
        have HLE := Lib.hid (show (bs ++ encRow (vals v o k)).length + (encB x).length ≤ 140737488355000 by have := HBD.out; rw [List.length_replicate] at this; rw [List.length_append]; omega)
        have HE1 := Lib.hid he1
        have HC := Lib.hid (show CellsAt wr.drew a (bc (bs ++ encRow (vals v o k))) from he2.below (Below.refl _ _).drew)
        have HL := Lib.hid he3
        have HN := Lib.hid he4
        skip
        clear he1 he2 he3 he4 hcell hrep hvx hle
        go_wp2_with fail
        refine wp_region_plan [(0, none), (1, none), (2, none), (3, none), (4, some none), (5, none), (6, none), (7, some none), (8, some (some false)), (9, none), (10, none), (11, some (some false))] (by kernel_rfl) (by kernel_rfl) ?_
        repeat (first | (refine plan_free (v := ?_) rfl rfl (fun _ => ?_) (fun K hK => ?_); rotate_left 1; (focus (go_simp <;> exact rfl)); go_simp; refine hK _ _ ?_; clear hK K) | (refine plan_held (v := ?_) rfl rfl ?_ (fun K hK => ?_); rotate_left 1; (focus (go_simp <;> exact rfl)); go_simp; refine hK _ _ ?_; clear hK K) | (refine plan_skip rfl rfl (fun K hK => ?_); go_simp; refine hK _ _ ?_; clear hK K))
        refine plan_eff rfl rfl (fun K hK => ?_)
        go_wp2_with (go_at_call 46; refine halt_here ?_)
        refine go_on ((PutBool_any a n c (bs ++ encRow (vals v o k)) x wr.drew HC.out HN.out HL.out  HLE.out).mono ?_)
        rintro e w2 ⟨v2, rfl, how, hb2⟩
        have f2 : ∀ off, w2.frozen? ⟨C, off, none⟩ = false := blk_free ((hb2.block C (blk_lt HE1.out)).trans HE1.out)
        have f3 : (w2.cell? ⟨C, 0, none⟩) = some (.slice a n c) := by rw [hb2.cell (blk_lt HE1.out)]; exact e0
        have HP2 := Lib.hid (HE.out.put (drew_below hb2) how)
        obtain ⟨a2, n2, c2, rfl, -, -, -⟩ := own_open how
        clear how hb2
        go_wp2_with fail
        repeat (first | (refine plan_free (v := ?_) rfl rfl (fun _ => ?_) (fun K hK => ?_); rotate_left 1; (focus (go_simp <;> exact rfl)); go_simp; refine hK _ _ ?_; clear hK K) | (refine plan_held (v := ?_) rfl rfl ?_ (fun K hK => ?_); rotate_left 1; (focus (go_simp <;> exact rfl)); go_simp; refine hK _ _ ?_; clear hK K) | (refine plan_skip rfl rfl (fun K hK => ?_); go_simp; refine hK _ _ ?_; clear hK K))
        refine plan_eff rfl rfl (fun K hK => ?_)
        go_wp2_with fail
        repeat (first | (refine plan_free (v := ?_) rfl rfl (fun _ => ?_) (fun K hK => ?_); rotate_left 1; (focus (go_simp <;> exact rfl)); go_simp; refine hK _ _ ?_; clear hK K) | (refine plan_held (v := ?_) rfl rfl ?_ (fun K hK => ?_); rotate_left 1; (focus (go_simp <;> exact rfl)); go_simp; refine hK _ _ ?_; clear hK K) | (refine plan_skip rfl rfl (fun K hK => ?_); go_simp; refine hK _ _ ?_; clear hK K))
        refine plan_nil ?_
        have HE3 := Lib.hid (show Enc (w2.setCell ⟨C, 0, none⟩ (.slice a2 n2 c2)) C (bs ++ encRow (vals v o (k + 1))) by have := HP2.out.1; rwa [List.append_assoc, ← HVX.out] at this)
        have HG3 := Lib.hid (HG.out.trans HP2.out.2)
        clear f2 f3 e0 e1 e2 e3 hfr
        go_wp2_with fail
        go_roundw
        case rel => exact ⟨k + 1, by go_num, by omega, HE3, HG3⟩
        case measure => simp [intOf]; omega
      · obtain rfl : k = m := by omega
        go_wp2_with fail
        refine bodyPost_end (results_none rfl _ _ _) rfl ?_
        refine ⟨rfl, ?_, ?_⟩
        · rw [List.length_replicate]; exact HE.out
        · exact ⟨HG.out.os.trans HG0.out.os, HG.out.tape.trans HG0.out.tape, HG.out.output.trans HG0.out.output, Nat.le_trans HG0.out.size HG.out.size, fun j hj hn => (HG.out.block j (Nat.lt_of_lt_of_le hj HG0.out.size) hn).trans (HG0.out.block j hj (by simp))⟩

  | dec R st =>
    obtain ⟨hdec, hbC, hRb, cs, Tb, hblk, hsz⟩ := hpre
    have hgr : w.grownBy w1 none := hg0
    have HDEC := Lib.hid (hdec.grown hg0)
    have HPT := Lib.hid hp
    have HG0 := Lib.hid hg0
    have hbw : b < w1.heap.size := Nat.lt_of_lt_of_le (blk_lt hblk) hg0.size
    have HBW := Lib.hid (blk_lt hblk)
    have HBW1 := Lib.hid hbw
    have HB1 := Lib.hid (show w1.heap[b]? = some (.cells cs Tb (0, 0)) by rw [hg0.block b (blk_lt hblk) (by simp)]; exact hblk)
    have hpb : p ≠ b := by have := blk_lt hblk; omega
    have hpR : p ≠ R := by have := blk_lt hblk; omega
    have HPB := Lib.hid hpb
    have HPR := Lib.hid hpR
    have HSZ := Lib.hid (show o + m ≤ cs.size by rw [List.length_replicate] at hsz; exact hsz)
    clear hdec hblk hp hg0 hbw hpb hpR hgr hsz
    go_enter Try.func85, Try.ntmps85
    go_wp2_with fail
    go_loopw [8] (fun i wr => ∃ k : Nat, i = .int .i64 k ∧ k ≤ m ∧ Hid (DecRel C b R o .b st w1 k wr)) (fun i _ => m - (intOf i).toNat)
    case atStart => exact ⟨0, rfl, Nat.zero_le _, Lib.hid (DecRel.start HDEC.out)⟩
    case round =>
      obtain ⟨k, rfl, hk, HR⟩ := hrel
      by_cases hlt : k < m
      · obtain ⟨hd1, hk1, us, hrow, hcb⟩ := HR.out
        obtain ⟨⟨oC, hC1⟩, a, n, c, bs, at', e, hrd, hst, hn⟩ := hd1
        have e1 : wr.cell? ⟨C, 1, none⟩ = some (.pointer (some ⟨R, 0, none⟩)) := by rw [blk_cell hC1]; rfl
        have hpk : wr.heap[p]? = some (.cells (ptrs b o m).toArray 159 (0, 0)) := by rw [hk1.block p (blk_lt HPT.out) (fun e => by rcases e with e | e; exact HPR.out e; exact HPB.out e)]; exact HPT.out
        have e2 := ptrs_at hpk hlt
        have hbr := hcb cs Tb HB1.out
        have hfr : ∀ off, wr.frozen? ⟨b, off, none⟩ = false := blk_free hbr
        obtain ⟨uo, e3⟩ : ∃ u, wr.cell? ⟨b, o + k, none⟩ = some u := ⟨_, by rw [blk_cell hbr]; exact Array.getElem?_eq_getElem (by rw [splice_size]; have := HSZ.out; omega)⟩
        have HBR := Lib.hid hbr
        have HRD := Lib.hid hrd
        have HST := Lib.hid hst
        have HNN := Lib.hid hn
        have HC1 := Lib.hid hC1
        have hRw : R < wr.heap.size := blk_lt hrd.blk
        have HRW := Lib.hid hRw
        clear hk1 hrow hcb hC1 hrd hst hn hpk hbr hRw
        go_wp2_with (go_at_call 31; refine halt_here ?_)
        refine go_on ((Bool_any R a n c bs at' e wr HRD.out).mono ?_)
        rw [HST.out]
        rintro x w2 ⟨rfl, hleft⟩
        obtain ⟨at2, e2', hr2, hs2, hg2⟩ := hleft
        have HG2 := Lib.hid hg2
        have f3 : w2.cell? ⟨b, o + k, none⟩ = some uo := by rw [World.cell?_of_block (hg2.block b (blk_lt HBR.out) (fun e => by injection e with e; have : b = R := e; omega))]; exact e3
        have f4 : ∀ off, w2.frozen? ⟨b, off, none⟩ = false := blk_free (show w2.heap[b]? = some (.cells (splice cs o us) Tb (0, 0)) by rw [hg2.block b (blk_lt HBR.out) (fun e => by injection e with e; omega)]; exact HBR.out)
        have HD2 := Lib.hid (show Dec w2 C R (rdV .b (rdRow (List.replicate k .b) st).2).2 from ⟨⟨oC, by rw [hg2.block C (blk_lt HC1.out) (fun e => by injection e with e; exact coder_ne HC1.out HRD.out e)]; exact HC1.out⟩, a, n, c, bs, at2, e2', hr2, hs2, HNN.out⟩)
        have HREL := Lib.hid (HR.out.step hbC hRb HBW1.out hg2 HD2.out (u := .bool (bS (rdRow (List.replicate k .b) st).2).1) (Rep.b _))
        clear hr2 hs2 hg2
        generalize (bS (rdRow (List.replicate k .b) st).2).1 = y at HREL
        go_wp2_with fail
        go_roundw
        case rel => exact ⟨k + 1, by go_num, by omega, HREL⟩
        case measure => simp [intOf]; omega
      · obtain rfl : k = m := by omega
        obtain ⟨hd1, hk1, us, hrow, hcb⟩ := HR.out
        have HP := Lib.hid (show Post C b (.dec R st) (List.replicate k .b) o w wr from ⟨hd1, hRb, HBW.out, (Kept.of_grown HG0.out (fun k hk => by cases hk)).trans hk1, us, hrow.mono (fun i hi => Nat.le_trans HG0.out.size hi) (Nat.le_refl _) (fun _ _ _ => rfl), fun cs T hcs => hcb cs T (by rw [HG0.out.block b HBW.out (by simp)]; exact hcs)⟩)
        clear hd1 hk1 hrow hcb
        go_wp2_with fail
        refine bodyPost_end (results_none rfl _ _ _) rfl ?_
        exact ⟨rfl, HP.out⟩

set_option maxRecDepth 100000 in
set_option maxHeartbeats 2000000 in
theorem lists_coder : CoderL 77 146 .l := by
  intro C b o m p M w w1 hpre hg0 hpw hp hm
  cases M with
  | enc bs v =>
    obtain ⟨henc, hbC, hfld, hbd⟩ := hpre
    have HENC := Lib.hid (henc.grown hg0)
    have HF := Lib.hid hfld
    have HBD := Lib.hid hbd
    have HPT := Lib.hid hp
    have HG0 := Lib.hid hg0
    have hCp : p ≠ C := by obtain ⟨_, _, _, h1, _⟩ := henc; have := blk_lt h1; omega
    have HCp := Lib.hid hCp
    clear henc hfld hbd hp hg0 hCp
    go_enter Try.func77, Try.ntmps77
    go_wp2_with fail
    go_loopw [8] (fun i wr => ∃ k : Nat, i = .int .i64 k ∧ k ≤ m ∧ Hid (Enc wr C (bs ++ encRow (vals v o k))) ∧ Hid (w1.grownBy wr (some C))) (fun i _ => m - (intOf i).toNat)
    case atStart => exact ⟨0, rfl, Nat.zero_le _, Lib.hid (by simpa [vals_zero, encRow] using HENC.out), Lib.hid (World.grownBy.refl _ _)⟩
    case round =>
      obtain ⟨k, rfl, hk, HE, HG⟩ := hrel
      by_cases hlt : k < m
      · obtain ⟨a, n, c, he1, he2, he3, he4, he5⟩ := HE.out
        have e0 : wr.cell? ⟨C, 0, none⟩ = some (.slice a n c) := by rw [blk_cell he1]; rfl
        have e1 : wr.cell? ⟨C, 1, none⟩ = some (.pointer none) := by rw [blk_cell he1]; rfl
        have hfr : ∀ off, wr.frozen? ⟨C, off, none⟩ = false := blk_free he1
        have e2 := ptrs_at (block_kept HPT.out HG.out HCp.out) hlt
        obtain ⟨u0, hcell, hrep⟩ := HF.out k _ (rep_left hlt)
        obtain ⟨xs, la, ln, lc, hvx, rfl, hll, hlc, hlm, hln, hlA, hlw, hlx⟩ := rep_l (show Rep (· ≠ C) wr .l _ u0 from hrep.mono (fun _ h => h) (Nat.le_trans HG0.out.size HG.out.size) (fun i hi hlt => (HG.out.block i (Nat.lt_of_lt_of_le hlt HG0.out.size) (fun e => by injection e with e; exact hi e)).trans (HG0.out.block i hlt (by simp))))
        have e3 : wr.cell? ⟨b, o + k, none⟩ = some (.slice la ln lc) := ext_of_grown HG.out _ _ (fun e => by injection e with e; exact hbC e) (ext_of_below (grown_below HG0.out) _ _ hcell)
        have HVX := Lib.hid (show encRow (vals v o (k + 1)) = encRow (vals v o k) ++ encL xs by rw [vals_add, encRow_append, vals_one, encRow_one, hvx]; rfl)
        have hle : (encRow (vals v o (k + 1))).length ≤ (encRow (vals v o m)).length := by
          conv => rhs; rw [show m = (k + 1) + (m - (k + 1)) by omega, vals_add, encRow_append, List.length_append]
          omega
        rw [HVX.out, List.length_append] at hle
        have HLE := Lib.hid (show (bs ++ encRow (vals v o k)).length + (encL xs).length ≤ 140737488355000 by have := HBD.out; rw [List.length_replicate] at this; rw [List.length_append]; omega)
        have HE1 := Lib.hid he1
        have HC := Lib.hid (show CellsAt wr.drew a (bc (bs ++ encRow (vals v o k))) from he2.below (Below.refl _ _).drew)
        have HL := Lib.hid he3
        have HN := Lib.hid he4
        have HLX := Lib.hid (show CellsAt wr.drew la (ic xs) from hlx.below (Below.refl _ _).drew)
        have HLL := Lib.hid hll
        have HLW := Lib.hid hlw
        clear he1 he2 he3 he4 hcell hrep hvx hle hll hlw hlx hln hlA
        go_wp2_with fail
        refine wp_region_plan [(0, none), (1, none), (2, none), (3, none), (4, some none), (5, none), (6, none), (7, some none), (8, some (some false)), (9, none), (10, none), (11, some (some false))] (by kernel_rfl) (by kernel_rfl) ?_
        repeat (first | (refine plan_free (v := ?_) rfl rfl (fun _ => ?_) (fun K hK => ?_); rotate_left 1; (focus (go_simp <;> exact rfl)); go_simp; refine hK _ _ ?_; clear hK K) | (refine plan_held (v := ?_) rfl rfl ?_ (fun K hK => ?_); rotate_left 1; (focus (go_simp <;> exact rfl)); go_simp; refine hK _ _ ?_; clear hK K) | (refine plan_skip rfl rfl (fun K hK => ?_); go_simp; refine hK _ _ ?_; clear hK K))
        refine plan_eff rfl rfl (fun K hK => ?_)
        go_wp2_with (go_at_call 51; refine halt_here ?_)
        refine go_on ((PutInts_any a n c (bs ++ encRow (vals v o k)) la ln lc xs wr.drew HC.out HN.out HL.out HLX.out HLL.out (by have := HLE.out; have := HLL.out; have := encL_ge xs; omega) HLW.out HLE.out).mono ?_)
        rintro e w2 ⟨v2, rfl, how, hb2⟩
        have f2 : ∀ off, w2.frozen? ⟨C, off, none⟩ = false := blk_free ((hb2.block C (blk_lt HE1.out)).trans HE1.out)
        have f3 : (w2.cell? ⟨C, 0, none⟩) = some (.slice a n c) := by rw [hb2.cell (blk_lt HE1.out)]; exact e0
        have HP2 := Lib.hid (HE.out.put (drew_below hb2) how)
        obtain ⟨a2, n2, c2, rfl, -, -, -⟩ := own_open how
        clear how hb2
        go_wp2_with fail
        repeat (first | (refine plan_free (v := ?_) rfl rfl (fun _ => ?_) (fun K hK => ?_); rotate_left 1; (focus (go_simp <;> exact rfl)); go_simp; refine hK _ _ ?_; clear hK K) | (refine plan_held (v := ?_) rfl rfl ?_ (fun K hK => ?_); rotate_left 1; (focus (go_simp <;> exact rfl)); go_simp; refine hK _ _ ?_; clear hK K) | (refine plan_skip rfl rfl (fun K hK => ?_); go_simp; refine hK _ _ ?_; clear hK K))
        refine plan_eff rfl rfl (fun K hK => ?_)
        go_wp2_with fail
        repeat (first | (refine plan_free (v := ?_) rfl rfl (fun _ => ?_) (fun K hK => ?_); rotate_left 1; (focus (go_simp <;> exact rfl)); go_simp; refine hK _ _ ?_; clear hK K) | (refine plan_held (v := ?_) rfl rfl ?_ (fun K hK => ?_); rotate_left 1; (focus (go_simp <;> exact rfl)); go_simp; refine hK _ _ ?_; clear hK K) | (refine plan_skip rfl rfl (fun K hK => ?_); go_simp; refine hK _ _ ?_; clear hK K))
        refine plan_nil ?_
        have HE3 := Lib.hid (show Enc (w2.setCell ⟨C, 0, none⟩ (.slice a2 n2 c2)) C (bs ++ encRow (vals v o (k + 1))) by have := HP2.out.1; rwa [List.append_assoc, ← HVX.out] at this)
        have HG3 := Lib.hid (HG.out.trans HP2.out.2)
        clear f2 f3 e0 e1 e2 e3 hfr
        go_wp2_with fail
        go_roundw
        case rel => exact ⟨k + 1, by go_num, by omega, HE3, HG3⟩
        case measure => simp [intOf]; omega
      · obtain rfl : k = m := by omega
        go_wp2_with fail
        refine bodyPost_end (results_none rfl _ _ _) rfl ?_
        refine ⟨rfl, ?_, ?_⟩
        · rw [List.length_replicate]; exact HE.out
        · exact ⟨HG.out.os.trans HG0.out.os, HG.out.tape.trans HG0.out.tape, HG.out.output.trans HG0.out.output, Nat.le_trans HG0.out.size HG.out.size, fun j hj hn => (HG.out.block j (Nat.lt_of_lt_of_le hj HG0.out.size) hn).trans (HG0.out.block j hj (by simp))⟩

  | dec R st =>
    obtain ⟨hdec, hbC, hRb, cs, Tb, hblk, hsz⟩ := hpre
    have hgr : w.grownBy w1 none := hg0
    have HDEC := Lib.hid (hdec.grown hg0)
    have HPT := Lib.hid hp
    have HG0 := Lib.hid hg0
    have hbw : b < w1.heap.size := Nat.lt_of_lt_of_le (blk_lt hblk) hg0.size
    have HBW := Lib.hid (blk_lt hblk)
    have HBW1 := Lib.hid hbw
    have HB1 := Lib.hid (show w1.heap[b]? = some (.cells cs Tb (0, 0)) by rw [hg0.block b (blk_lt hblk) (by simp)]; exact hblk)
    have hpb : p ≠ b := by have := blk_lt hblk; omega
    have hpR : p ≠ R := by have := blk_lt hblk; omega
    have HPB := Lib.hid hpb
    have HPR := Lib.hid hpR
    have HSZ := Lib.hid (show o + m ≤ cs.size by rw [List.length_replicate] at hsz; exact hsz)
    clear hdec hblk hp hg0 hbw hpb hpR hgr hsz
    go_enter Try.func77, Try.ntmps77
    go_wp2_with fail
    go_loopw [8] (fun i wr => ∃ k : Nat, i = .int .i64 k ∧ k ≤ m ∧ Hid (DecRel C b R o .l st w1 k wr)) (fun i _ => m - (intOf i).toNat)
    case atStart => exact ⟨0, rfl, Nat.zero_le _, Lib.hid (DecRel.start HDEC.out)⟩
    case round =>
      obtain ⟨k, rfl, hk, HR⟩ := hrel
      by_cases hlt : k < m
      · obtain ⟨hd1, hk1, us, hrow, hcb⟩ := HR.out
        obtain ⟨⟨oC, hC1⟩, a, n, c, bs, at', e, hrd, hst, hn⟩ := hd1
        have e1 : wr.cell? ⟨C, 1, none⟩ = some (.pointer (some ⟨R, 0, none⟩)) := by rw [blk_cell hC1]; rfl
        have hpk : wr.heap[p]? = some (.cells (ptrs b o m).toArray 146 (0, 0)) := by rw [hk1.block p (blk_lt HPT.out) (fun e => by rcases e with e | e; exact HPR.out e; exact HPB.out e)]; exact HPT.out
        have e2 := ptrs_at hpk hlt
        have hbr := hcb cs Tb HB1.out
        have hfr : ∀ off, wr.frozen? ⟨b, off, none⟩ = false := blk_free hbr
        obtain ⟨uo, e3⟩ : ∃ u, wr.cell? ⟨b, o + k, none⟩ = some u := ⟨_, by rw [blk_cell hbr]; exact Array.getElem?_eq_getElem (by rw [splice_size]; have := HSZ.out; omega)⟩
        have HBR := Lib.hid hbr
        have HRD := Lib.hid hrd
        have HST := Lib.hid hst
        have HNN := Lib.hid hn
        have HC1 := Lib.hid hC1
        have hRw : R < wr.heap.size := blk_lt hrd.blk
        have HRW := Lib.hid hRw
        clear hk1 hrow hcb hC1 hrd hst hn hpk hbr hRw
        go_wp2_with (go_at_call 33; refine halt_here ?_)
        refine go_on ((Ints_any R a n c bs at' e 4096 (by decide) HNN.out wr HRD.out).mono ?_)
        rw [HST.out]
        rintro x w2 ⟨o2, rfl, how2, hleft⟩
        obtain ⟨at2, e2', hr2, hs2, hg2⟩ := hleft
        have HG2 := Lib.hid hg2
        have f3 : w2.cell? ⟨b, o + k, none⟩ = some uo := by rw [World.cell?_of_block (hg2.block b (blk_lt HBR.out) (fun e => by injection e with e; have : b = R := e; omega))]; exact e3
        have f4 : ∀ off, w2.frozen? ⟨b, off, none⟩ = false := blk_free (show w2.heap[b]? = some (.cells (splice cs o us) Tb (0, 0)) by rw [hg2.block b (blk_lt HBR.out) (fun e => by injection e with e; omega)]; exact HBR.out)
        have HD2 := Lib.hid (show Dec w2 C R (rdV .l (rdRow (List.replicate k .l) st).2).2 from ⟨⟨oC, by rw [hg2.block C (blk_lt HC1.out) (fun e => by injection e with e; exact coder_ne HC1.out HRD.out e)]; exact HC1.out⟩, a, n, c, bs, at2, e2', hr2, hs2, HNN.out⟩)
        have HREL := Lib.hid (HR.out.step hbC hRb HBW1.out hg2 HD2.out (u := o2) (own_rep_l how2 (lS_in64 _ _)))
        clear hr2 hs2 hg2
        obtain ⟨a5, n5, c5, rfl⟩ : ∃ a n c, o2 = .slice a n c := by obtain ⟨a5, c5, h, -⟩ := ownsRow_rd how2; exact ⟨a5, _, c5, h⟩
        clear how2
        go_wp2_with fail
        go_roundw
        case rel => exact ⟨k + 1, by go_num, by omega, HREL⟩
        case measure => simp [intOf]; omega
      · obtain rfl : k = m := by omega
        obtain ⟨hd1, hk1, us, hrow, hcb⟩ := HR.out
        have HP := Lib.hid (show Post C b (.dec R st) (List.replicate k .l) o w wr from ⟨hd1, hRb, HBW.out, (Kept.of_grown HG0.out (fun k hk => by cases hk)).trans hk1, us, hrow.mono (fun i hi => Nat.le_trans HG0.out.size hi) (Nat.le_refl _) (fun _ _ _ => rfl), fun cs T hcs => hcb cs T (by rw [HG0.out.block b HBW.out (by simp)]; exact hcs)⟩)
        clear hd1 hk1 hrow hcb
        go_wp2_with fail
        refine bodyPost_end (results_none rfl _ _ _) rfl ?_
        exact ⟨rfl, HP.out⟩

theorem rep_str {A : Nat → Prop} {w : World} (l : Bytes) (h : l.length ≤ 32) : Rep A w .t (.t l) (.string ⟨l.toArray⟩) := by
  have h1 := Rep.t (A := A) (w := w) ⟨l.toArray⟩ (by show l.toArray.size ≤ maxLen; unfold maxLen; simp; omega)
  simpa using h1

set_option maxRecDepth 100000 in
set_option maxHeartbeats 2000000 in
theorem text_coder : Coder 119 [.t] := by
  intro C b o M w hpre
  cases M with
  | enc bs v =>
    obtain ⟨henc, hbC, hfld, hbd⟩ := hpre
    obtain ⟨a, n, c, he1, he2, he3, he4, he5⟩ := henc
    have HE := Lib.hid (show Enc w C bs from ⟨a, n, c, he1, he2, he3, he4, he5⟩)
    have e0 : w.cell? ⟨C, 0, none⟩ = some (.slice a n c) := by rw [blk_cell he1]; rfl
    have e1 : w.cell? ⟨C, 1, none⟩ = some (.pointer none) := by rw [blk_cell he1]; rfl
    have hfr : ∀ off, w.frozen? ⟨C, off, none⟩ = false := blk_free he1
    obtain ⟨u0, hcell, hrep⟩ := hfld 0 .t rfl
    obtain ⟨s, hvx, rfl, hsm⟩ := rep_t hrep
    have e3 : w.cell? ⟨b, o, none⟩ = some (.string s) := hcell
    have HVX := Lib.hid (show encRow (vals v o 1) = encT s.data.toList by rw [vals_one, encRow_one, show v o = .t s.data.toList from hvx]; rfl)
    have HLE := Lib.hid (show bs.length + (encT s.data.toList).length ≤ 140737488355000 by rw [← HVX.out]; exact hbd)
    have HE1 := Lib.hid he1
    have HC := Lib.hid (show CellsAt w.drew a (bc bs) from he2.below (Below.refl _ _).drew)
    have HL := Lib.hid he3
    have HN := Lib.hid he4
    clear he1 he2 he3 he4 hcell hrep hvx hbd hfld hsm
    go_enter Try.func119, Try.ntmps119
    go_wp2_with fail
    refine wp_region_plan [(0, none), (1, none), (2, none), (3, none), (4, some none), (5, none), (6, none), (7, some none), (8, some (some false)), (9, none), (10, none), (11, some (some false))] (by kernel_rfl) (by kernel_rfl) ?_
    repeat (first | (refine plan_free (v := ?_) rfl rfl (fun _ => ?_) (fun K hK => ?_); rotate_left 1; (focus (go_simp <;> exact rfl)); go_simp; refine hK _ _ ?_; clear hK K) | (refine plan_held (v := ?_) rfl rfl ?_ (fun K hK => ?_); rotate_left 1; (focus (go_simp <;> exact rfl)); go_simp; refine hK _ _ ?_; clear hK K) | (refine plan_skip rfl rfl (fun K hK => ?_); go_simp; refine hK _ _ ?_; clear hK K))
    refine plan_eff rfl rfl (fun K hK => ?_)
    go_wp2_with (go_at_call 45; refine halt_here ?_)
    refine go_on ((PutText_any a n c bs s w.drew HC.out HN.out HL.out HLE.out).mono ?_)
    rintro e w2 ⟨v2, rfl, how, hb2⟩
    have f2 : ∀ off, w2.frozen? ⟨C, off, none⟩ = false := blk_free ((hb2.block C (blk_lt HE1.out)).trans HE1.out)
    have f3 : (w2.cell? ⟨C, 0, none⟩) = some (.slice a n c) := by rw [hb2.cell (blk_lt HE1.out)]; exact e0
    have HP2 := Lib.hid (HE.out.put (drew_below hb2) how)
    obtain ⟨a2, n2, c2, rfl, -, -, -⟩ := own_open how
    clear how hb2
    go_wp2_with fail
    repeat (first | (refine plan_free (v := ?_) rfl rfl (fun _ => ?_) (fun K hK => ?_); rotate_left 1; (focus (go_simp <;> exact rfl)); go_simp; refine hK _ _ ?_; clear hK K) | (refine plan_held (v := ?_) rfl rfl ?_ (fun K hK => ?_); rotate_left 1; (focus (go_simp <;> exact rfl)); go_simp; refine hK _ _ ?_; clear hK K) | (refine plan_skip rfl rfl (fun K hK => ?_); go_simp; refine hK _ _ ?_; clear hK K))
    refine plan_eff rfl rfl (fun K hK => ?_)
    go_wp2_with fail
    repeat (first | (refine plan_free (v := ?_) rfl rfl (fun _ => ?_) (fun K hK => ?_); rotate_left 1; (focus (go_simp <;> exact rfl)); go_simp; refine hK _ _ ?_; clear hK K) | (refine plan_held (v := ?_) rfl rfl ?_ (fun K hK => ?_); rotate_left 1; (focus (go_simp <;> exact rfl)); go_simp; refine hK _ _ ?_; clear hK K) | (refine plan_skip rfl rfl (fun K hK => ?_); go_simp; refine hK _ _ ?_; clear hK K))
    refine plan_nil ?_
    have HE3 := Lib.hid (show Enc (w2.setCell ⟨C, 0, none⟩ (.slice a2 n2 c2)) C (bs ++ encRow (vals v o 1)) by rw [HVX.out]; exact HP2.out.1)
    clear f2 f3 e0 e1 e3 hfr
    go_wp2_with fail
    refine bodyPost_end (results_none rfl _ _ _) rfl ?_
    exact ⟨rfl, HE3.out, HP2.out.2⟩
  | dec R st =>
    obtain ⟨hdec, hbC, hRb, cs, Tb, hblk, hsz⟩ := hpre
    have HREL0 := Lib.hid (DecRel.start (b := b) (o := o) (q := .t) hdec)
    obtain ⟨⟨oC, hC1⟩, a, n, c, bs, at', e, hrd, hst, hn⟩ := hdec
    have e1 : w.cell? ⟨C, 1, none⟩ = some (.pointer (some ⟨R, 0, none⟩)) := by rw [blk_cell hC1]; rfl
    have hfr : ∀ off, w.frozen? ⟨b, off, none⟩ = false := blk_free hblk
    obtain ⟨uo, e3⟩ : ∃ u, w.cell? ⟨b, o, none⟩ = some u := ⟨_, by rw [blk_cell hblk]; exact Array.getElem?_eq_getElem (by have h : o + 1 ≤ cs.size := hsz; omega)⟩
    have HBR := Lib.hid hblk
    have HRD := Lib.hid hrd
    have HST := Lib.hid hst
    have HNN := Lib.hid hn
    have HC1 := Lib.hid hC1
    clear hC1 hrd hst hn hblk hsz
    go_enter Try.func119, Try.ntmps119
    go_wp2_with (go_at_call 32; refine halt_here ?_)
    refine go_on ((Text_any R a n c bs at' e 32 (by decide) w HRD.out).mono ?_)
    rw [HST.out]
    rintro x w2 ⟨rfl, hleft⟩
    obtain ⟨at2, e2', hr2, hs2, hg2⟩ := hleft
    have f3 : w2.cell? ⟨b, o, none⟩ = some uo := by rw [World.cell?_of_block (hg2.block b (blk_lt HBR.out) (fun e => by injection e with e; have : b = R := e; omega))]; exact e3
    have f4 : ∀ off, w2.frozen? ⟨b, off, none⟩ = false := blk_free (show w2.heap[b]? = some (.cells cs Tb (0, 0)) by rw [hg2.block b (blk_lt HBR.out) (fun e => by injection e with e; omega)]; exact HBR.out)
    have HD2 := Lib.hid (show Dec w2 C R (rdV .t (rdRow (List.replicate 0 .t) st).2).2 from ⟨⟨oC, by rw [hg2.block C (blk_lt HC1.out) (fun e => by injection e with e; exact coder_ne HC1.out HRD.out e)]; exact HC1.out⟩, a, n, c, bs, at2, e2', hr2, hs2, HNN.out⟩)
    have HREL := Lib.hid (HREL0.out.step hbC hRb (blk_lt HBR.out) hg2 HD2.out (u := .string ⟨(tS 32 st).1.toArray⟩) (rep_str _ (tS_len 32 st)))
    clear hr2 hs2 hg2
    generalize (tS 32 st).1.toArray = y at HREL
    go_wp2_with fail
    refine bodyPost_end (results_none rfl _ _ _) rfl ?_
    obtain ⟨hd1, hk1, us, hrow, hcb⟩ := HREL.out
    exact ⟨rfl, hd1, hRb, blk_lt HBR.out, hk1, us, hrow, hcb⟩

end Go.Proofs.Ytbcpdjhpceimlaa
