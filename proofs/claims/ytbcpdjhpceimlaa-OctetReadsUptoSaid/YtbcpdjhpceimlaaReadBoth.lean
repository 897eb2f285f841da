/-
  The laws' reading of a value by both readers.
-/
import Derived.Test.YtbcpdjhpceimlaaRefInts
import Derived.Test.YtbcpdjhpceimlaaBack2
namespace Go.Proofs.Ytbcpdjhpceimlaa
open Go.ChangeShapes Go.WideShapes Go.ChangeAt Go.RowKit
set_option linter.unusedVariables false

theorem bc_cell {bs : Bytes} {j : Nat} {u : Value} (h : (bc bs)[j]? = some u) : ∃ z, u = .int .u8 z := by
  simp only [bc, List.getElem?_map, Option.map_eq_some_iff] at h
  obtain ⟨z, _, rfl⟩ := h
  exact ⟨_, rfl⟩

/-- What the one reader's calls write does not touch the other. -/
theorem two_ne {w : World} {R Q : Nat} {a : Option Addr} {n c : Nat} {bs : Bytes} {at' e : Nat} {bs2 : Bytes} {e2 : Nat} {a2 : Option Addr} {n2 c2 : Nat} (hr : RdrAt 109 w R a n c bs at' e) (hq : RefAt w Q bs2 e2 a2 n2 c2) : R ≠ Q := by
  intro h
  subst h
  have h1 := hr.blk
  rw [hq.blk] at h1
  injection h1 with h1
  injection h1 with h1
  have := congrArg Array.size h1
  simp at this

theorem RefAt.over {w w' : World} {R Q : Nat} {a : Option Addr} {n c : Nat} {bs : Bytes} {at' e : Nat} {bs2 : Bytes} {e2 : Nat} {a2 : Option Addr} {n2 c2 : Nat} (hq : RefAt w Q bs2 e2 a2 n2 c2) (hr : RdrAt 109 w R a n c bs at' e) (hg : w.grownBy w' (some R)) : RefAt w' Q bs2 e2 a2 n2 c2 := by
  have hne := two_ne hr hq
  refine ⟨?_, ?_, hq.lt, hq.nc, hq.nil, hq.len, hq.bd⟩
  · rw [hg.block Q (blk_lt hq.blk) (fun h => by injection h with h; exact hne h.symm)]
    exact hq.blk
  · rcases hq.cells with h0 | ⟨b, off, rfl, hc⟩
    · exact .inl h0
    · refine .inr ⟨b, off, rfl, fun j u hj => ext_of_grown hg _ _ (fun h => ?_) (hc j u hj)⟩
      injection h with h
      have h : b = R := h
      subst h
      have h1 := hc j u hj
      rw [blk_cell hr.blk] at h1
      obtain ⟨z, rfl⟩ := bc_cell hj
      match off + j, h1 with
      | 0, h1 => simp at h1
      | 1, h1 => simp at h1
      | 2, h1 => simp at h1
      | n + 3, h1 => simp at h1

theorem RdrAt.over {w w' : World} {R Q : Nat} {a : Option Addr} {n c : Nat} {bs : Bytes} {at' e : Nat} {bs2 : Bytes} {e2 : Nat} {a2 : Option Addr} {n2 c2 : Nat} (hr : RdrAt 109 w R a n c bs at' e) (hq : RefAt w Q bs2 e2 a2 n2 c2) (hg : w.grownBy w' (some Q)) : RdrAt 109 w' R a n c bs at' e := by
  have hne := two_ne hr hq
  refine ⟨?_, ?_, hr.lt, hr.nc, hr.nil, hr.len, hr.bd, hr.le⟩
  · rw [hg.block R (blk_lt hr.blk) (fun h => by injection h with h; exact hne h)]
    exact hr.blk
  · rcases hr.cells with h0 | ⟨b, off, rfl, hc⟩
    · exact .inl h0
    · refine .inr ⟨b, off, rfl, fun j u hj => ext_of_grown hg _ _ (fun h => ?_) (hc j u hj)⟩
      injection h with h
      have h : b = Q := h
      subst h
      have h1 := hc j u hj
      rw [blk_cell hq.blk] at h1
      obtain ⟨z, rfl⟩ := bc_cell hj
      match off + j, h1 with
      | 0, h1 => simp at h1
      | 1, h1 => simp at h1
      | n + 2, h1 => simp at h1

/-- Both readers, in the same state. -/
def Pair (w : World) (R Q : Nat) (st : St) : Prop :=
  ∃ (a : Option Addr) (n c : Nat) (bs : Bytes) (at' e : Nat) (bs2 : Bytes) (e2 : Nat) (a2 : Option Addr) (n2 c2 : Nat), RdrAt 109 w R a n c bs at' e ∧ RefAt w Q bs2 e2 a2 n2 c2 ∧ stOf bs at' e = st ∧ stR bs2 e2 = st ∧ n ≤ 17592186044415

theorem pair_big {w : World} {R Q : Nat} {a : Option Addr} {n c : Nat} {bs : Bytes} {at' e : Nat} {bs2 : Bytes} {e2 : Nat} {a2 : Option Addr} {n2 c2 : Nat} {st : St} (hr : RdrAt 109 w R a n c bs at' e) (hq : RefAt w Q bs2 e2 a2 n2 c2) (h1 : stOf bs at' e = st) (h2 : stR bs2 e2 = st) (hn : n ≤ 17592186044415) : e2 = 0 → n2 ≤ 17592186044415 := by
  intro h0
  subst h0
  rw [← h2, stR_ok] at h1
  obtain ⟨_, h3⟩ := stOf_ok_inv h1
  have h4 := hr.len
  have h5 := hq.len
  rw [← h3, List.length_drop] at h5
  omega

theorem pair_err {bs bs2 : Bytes} {at' e e2 : Nat} {st : St} (h1 : stOf bs at' e = st) (h2 : stR bs2 e2 = st) : e = e2 := by
  by_cases he : e2 = 0
  · subst he
    rw [← h2, stR_ok] at h1
    exact (stOf_ok_inv h1).1
  · rw [← h2, stR_er _ _ he] at h1
    exact stOf_err_inv h1

theorem pair_step {w w1 w2 : World} {R Q : Nat} {a : Option Addr} {n c : Nat} {bs : Bytes} {at' e : Nat} {bs2 : Bytes} {e2 : Nat} {a2 : Option Addr} {n2 c2 : Nat} {st : St} (hq : RefAt w1 Q bs2 e2 a2 n2 c2) (hr : ∃ at3 e3, RdrAt 109 w1 R a n c bs at3 e3 ∧ stOf bs at3 e3 = st) (hn : n ≤ 17592186044415)
    (h2 : LeftR w1 w2 Q st) : Pair w2 R Q st := by
  obtain ⟨at3, e3, hr3, hs3⟩ := hr
  obtain ⟨bs4, e4, a4, n4, c4, hq4, hs4, hg⟩ := h2
  exact ⟨a, n, c, bs, at3, e3, bs4, e4, a4, n4, c4, hr3.over hq hg, hq4, hs3, hs4, hn⟩

theorem drewN_ref {w : World} {R : Nat} {bs : Bytes} {e : Nat} {a : Option Addr} {n c : Nat} (h : RefAt w R bs e a n c) (k : Nat) : RefAt (w.drewN k) R bs e a n c := ⟨h.blk, h.cells, h.lt, h.nc, h.nil, h.len, h.bd⟩
theorem drewN_below {B : Nat} {w0 w : World} (h : Below B w0 w) : ∀ k, Below B w0 (w.drewN k)
  | 0 => h
  | k + 1 => (drewN_below h k).drew

theorem isN_len : ∀ (n : Nat) (acc : List Int) (s : St) (N : Nat), (∀ b, s = .ok b → acc.length + b.length ≤ N) → (∀ c, s = .error c → acc.length ≤ N) → (isN n acc s).1.length ≤ N
  | 0, acc, s, N, h1, h2 => by
    rw [isN]
    cases s with
    | error c => exact h2 c rfl
    | ok b => have := h1 b rfl; simp only; omega
  | n + 1, acc, s, N, h1, h2 => by
    rw [isN]
    cases hq : (iS s).2 with
    | error c => simp
    | ok r =>
      cases s with
      | error c => rw [iS_err] at hq; cases hq
      | ok b =>
        have h3 := iS_len hq
        have h4 := h1 b rfl
        exact isN_len n _ _ N (fun b' hb' => by injection hb' with hb'; subst hb'; simp; omega) (fun c hc => by cases hc)

theorem lS_len {w : World} {R : Nat} {a : Option Addr} {n c : Nat} {bs : Bytes} {at' e : Nat} {st : St} (hs : stOf bs at' e = st) (h : RdrAt 109 w R a n c bs at' e) (hn : n ≤ 17592186044415) (m : Int) : (lS m st).1.length ≤ 4611686018427387904 := by
  have hlen := h.len
  have : (lS m st).1.length ≤ n := by
    unfold lS
    refine isN_len _ _ _ n (fun b hb => ?_) (fun c hc => by simp)
    cases st with
    | error ce => cases hb
    | ok r =>
      obtain ⟨_, h3⟩ := stOf_ok_inv hs
      have := uS_le hb
      have : r.length ≤ n := by rw [← h3, List.length_drop]; omega
      simp
      omega
  omega

/-- What reading by both leaves. -/
def ReadPost (w0 : World) (R Q : Nat) (x : Ending) (w' : World) : Prop := x = .returned (.bool true) ∧ Below w0.heap.size w0 w' ∧ ∃ st, Pair w' R Q st

set_option maxRecDepth 100000 in
set_option maxHeartbeats 4000000 in
theorem read_any (w0 : World) (R Q : Nat) (hBR : w0.heap.size ≤ R) (hBQ : w0.heap.size ≤ Q) (st : St) (kk : Int) (u : Nat) (nn : Int) (s : ByteArray) (la : Option Addr) (ln lc : Nat) (w : World)
    (hB : Below w0.heap.size w0 w) (h : Pair w R Q st) (hn : In64 nn) :
    Calls Try.prog 30 #[.pointer (some ⟨R, 0, none⟩), .pointer (some ⟨Q, 0, none⟩), .agg #[.int .i64 kk, .int .u64 (u : Int), .int .i64 nn, .string s, .slice la ln lc]] w (ReadPost w0 R Q) := by
  obtain ⟨a, n, c, bs, at', e, bs2, e2, a2, n2, c2, hr, hq, hs1, hs2, hnn⟩ := h
  have hbox : Below w.heap.size w (w.alloc (.cells #[.int .i64 kk, .int .u64 (u : Int), .int .i64 nn, .string s, .slice la ln lc] 61)) := (Below.refl _ _).alloc (Nat.le_refl _) _
  have HB0 := Lib.hid (hB.alloc hB.size (.cells #[.int .i64 kk, .int .u64 (u : Int), .int .i64 nn, .string s, .slice la ln lc] 61))
  have HRW := Lib.hid (show R < w.heap.size from blk_lt hr.blk)
  have HQW := Lib.hid (show Q < w.heap.size from blk_lt hq.blk)
  have HBS := Lib.hid hB.size
  have HR := Lib.hid (hr.below hbox)
  have HQ := Lib.hid (hq.below hbox)
  have HS1 := Lib.hid hs1
  have HS2 := Lib.hid hs2
  have HPB := Lib.hid (pair_big hr hq hs1 hs2 hnn)
  have HBR := Lib.hid hBR
  have HBQ := Lib.hid hBQ
  have HI := Lib.hid hn
  have HNN := Lib.hid hnn
  have hblk : ∀ j, (w.alloc (.cells #[.int .i64 kk, .int .u64 (u : Int), .int .i64 nn, .string s, .slice la ln lc] 61)).cell? ⟨w.heap.size, j, none⟩ = (#[.int .i64 kk, .int .u64 (u : Int), .int .i64 nn, .string s, .slice la ln lc] : Array Value)[j]? := fun j => blk_cell (heap_alloc_new w _) j
  have HBK := Lib.hid hblk
  have hsw : w.heap.size < (w.alloc (.cells #[.int .i64 kk, .int .u64 (u : Int), .int .i64 nn, .string s, .slice la ln lc] 61)).heap.size := by simp
  have HSW := Lib.hid hsw
  clear hr hq hs1 hs2 hnn hbox hB hblk hsw hn hBR hBQ
  by_cases k0 : kk = 0
  · subst k0
    go_enter Try.func30, Try.ntmps30
    go_wp2_with fail
    refine wp_region_plan [(0, none), (1, none), (4, none), (5, none), (2, some none), (6, some none), (3, some (some true)), (7, some (some false)), (8, none), (9, none)] (by kernel_rfl) (by kernel_rfl) ?_
    repeat (first | (refine plan_free (v := ?_) rfl rfl (fun _ => ?_) (fun K hK => ?_); rotate_left 1; (focus (go_simp <;> exact rfl)); go_simp; refine hK _ _ ?_; clear hK K) | (refine plan_held (v := ?_) rfl rfl ?_ (fun K hK => ?_); rotate_left 1; (focus (go_simp <;> exact rfl)); go_simp; refine hK _ _ ?_; clear hK K) | (refine plan_skip rfl rfl (fun K hK => ?_); go_simp; refine hK _ _ ?_; clear hK K))
    refine plan_effH rfl rfl (fun K hK => ?_)
    go_wp2_with (go_at_call 19; refine halt_here ?_)
    refine go_on ((Uint_any R a n c bs at' e u _ HR.out.drew).mono ?_)
    rw [HS1.out]
    rintro x w2 ⟨rfl, hleft⟩
    obtain ⟨at3, e3, hr3, hs3, hg2⟩ := hleft
    have hg2 := drew_g hg2
    have d1 : w2.cell? ⟨w.heap.size, 1, none⟩ = some (.int .u64 (u : Int)) := by rw [grown_cell hg2 (by exact HSW.out) HRW.out]; exact HBK.out 1
    have HQ2 := Lib.hid (HQ.out.over HR.out hg2)
    have HR2 := Lib.hid hr3
    have HS3 := Lib.hid hs3
    have HB2 := Lib.hid (HB0.out.grown hg2 HB0.out.size (fun k hk => by cases hk; exact HBR.out))
    clear hr3 hs3 hg2
    go_wp2_with fail
    refine ⟨⟨by go_simp, by go_simp, trivial⟩, ?_⟩
    repeat (first | (refine plan_free (v := ?_) rfl rfl (fun _ => ?_) (fun K hK => ?_); rotate_left 1; (focus (go_simp <;> exact rfl)); go_simp; refine hK _ _ ?_; clear hK K) | (refine plan_held (v := ?_) rfl rfl ?_ (fun K hK => ?_); rotate_left 1; (focus (go_simp <;> exact rfl)); go_simp; refine hK _ _ ?_; clear hK K) | (refine plan_skip rfl rfl (fun K hK => ?_); go_simp; refine hK _ _ ?_; clear hK K))
    refine plan_eff rfl rfl (fun K hK => ?_)
    go_wp2_with (go_at_call 56; refine halt_here ?_)
    refine go_on ((RUint_any Q bs2 e2 a2 n2 c2 u w2 HQ2.out).mono ?_)
    rw [HS2.out]
    rintro x w3 ⟨rfl, hleft⟩
    obtain ⟨bs4, e4, a4, n4, c4, hq4, hs4, hg3⟩ := hleft
    have HR3 := Lib.hid (HR2.out.over HQ2.out hg3)
    have HQ3 := Lib.hid hq4
    have HS4 := Lib.hid hs4
    have HB3 := Lib.hid (HB2.out.grown hg3 HB2.out.size (fun k hk => by cases hk; exact HBQ.out))
    clear hq4 hs4 hg3
    go_wp2_with fail
    repeat (first | (refine plan_free (v := ?_) rfl rfl (fun _ => ?_) (fun K hK => ?_); rotate_left 1; (focus (go_simp <;> exact rfl)); go_simp; refine hK _ _ ?_; clear hK K) | (refine plan_held (v := ?_) rfl rfl ?_ (fun K hK => ?_); rotate_left 1; (focus (go_simp <;> exact rfl)); go_simp; refine hK _ _ ?_; clear hK K) | (refine plan_skip rfl rfl (fun K hK => ?_); go_simp; refine hK _ _ ?_; clear hK K))
    refine plan_nil ?_
    go_wp2_with (go_at_call 23; refine halt_here ?_)
    refine go_on ((Left_any R a n c bs at3 e3 _ HR3.out).mono ?_)
    rw [HS3.out]
    rintro x w5 ⟨rfl, hg5, hr5⟩
    have HQ5 := Lib.hid (HQ3.out.over HR3.out hg5)
    have HR5 := Lib.hid hr5
    have HB5 := Lib.hid (HB3.out.grown hg5 HB3.out.size (fun k hk => by cases hk; exact HBR.out))
    clear hg5 hr5
    go_wp2_with (go_at_call 62; refine halt_here ?_)
    refine go_on ((RLeft_any Q bs4 e4 a4 n4 c4 w5 HQ5.out).mono ?_)
    rw [HS4.out]
    rintro x w6 ⟨rfl, rfl⟩
    go_wp2_with (go_at_call 21; refine halt_here ?_)
    refine go_on ((Err_any R a n c bs at3 e3 w5 HR5.out).mono ?_)
    rintro x w6 ⟨rfl, rfl⟩
    obtain rfl : e3 = e4 := pair_err HS3.out HS4.out
    go_wp2_with (go_at_call 63; refine halt_here ?_)
    refine go_on ((RErr_any Q bs4 e3 a4 n4 c4 w5 HQ5.out).mono ?_)
    rintro x w6 ⟨rfl, rfl⟩
    go_wp2_with fail
    go_ret
    exact ⟨rfl, HB5.out, _, a, n, c, bs, at3, e3, bs4, e3, a4, n4, c4, HR5.out, HQ5.out, HS3.out, HS4.out, HNN.out⟩
  by_cases k1 : kk = 1
  · subst k1
    clear k0
    go_enter Try.func30, Try.ntmps30
    go_wp2_with (go_at_call 20; refine halt_here ?_)
    refine go_on ((Int_any R a n c bs at' e _ HR.out).mono ?_)
    rw [HS1.out]
    rintro x w2 ⟨rfl, hleft⟩
    obtain ⟨at3, e3, hr3, hs3, hg2⟩ := hleft
    have HQ2 := Lib.hid (HQ.out.over HR.out hg2)
    have HR2 := Lib.hid hr3
    have HS3 := Lib.hid hs3
    have HB2 := Lib.hid (HB0.out.grown hg2 HB0.out.size (fun k hk => by cases hk; exact HBR.out))
    clear hr3 hs3 hg2
    go_wp2_with (go_at_call 57; refine halt_here ?_)
    refine go_on ((RInt_any Q bs2 e2 a2 n2 c2 w2 HQ2.out).mono ?_)
    rw [HS2.out]
    rintro x w3 ⟨rfl, hleft⟩
    obtain ⟨bs4, e4, a4, n4, c4, hq4, hs4, hg3⟩ := hleft
    have HR3 := Lib.hid (HR2.out.over HQ2.out hg3)
    have HQ3 := Lib.hid hq4
    have HS4 := Lib.hid hs4
    have HB3 := Lib.hid (HB2.out.grown hg3 HB2.out.size (fun k hk => by cases hk; exact HBQ.out))
    clear hq4 hs4 hg3
    go_wp2_with (go_at_call 23; refine halt_here ?_)
    refine go_on ((Left_any R a n c bs at3 e3 _ HR3.out).mono ?_)
    rw [HS3.out]
    rintro x w5 ⟨rfl, hg5, hr5⟩
    have HQ5 := Lib.hid (HQ3.out.over HR3.out hg5)
    have HR5 := Lib.hid hr5
    have HB5 := Lib.hid (HB3.out.grown hg5 HB3.out.size (fun k hk => by cases hk; exact HBR.out))
    clear hg5 hr5
    go_wp2_with (go_at_call 62; refine halt_here ?_)
    refine go_on ((RLeft_any Q bs4 e4 a4 n4 c4 w5 HQ5.out).mono ?_)
    rw [HS4.out]
    rintro x w6 ⟨rfl, rfl⟩
    go_wp2_with (go_at_call 21; refine halt_here ?_)
    refine go_on ((Err_any R a n c bs at3 e3 w5 HR5.out).mono ?_)
    rintro x w6 ⟨rfl, rfl⟩
    obtain rfl : e3 = e4 := pair_err HS3.out HS4.out
    go_wp2_with (go_at_call 63; refine halt_here ?_)
    refine go_on ((RErr_any Q bs4 e3 a4 n4 c4 w5 HQ5.out).mono ?_)
    rintro x w6 ⟨rfl, rfl⟩
    go_wp2_with fail
    go_ret
    exact ⟨rfl, HB5.out, _, a, n, c, bs, at3, e3, bs4, e3, a4, n4, c4, HR5.out, HQ5.out, HS3.out, HS4.out, HNN.out⟩
  by_cases k2 : kk = 2
  · subst k2
    clear k0 k1
    go_enter Try.func30, Try.ntmps30
    go_wp2_with (go_at_call 31; refine halt_here ?_)
    refine go_on ((Bool_any R a n c bs at' e _ HR.out).mono ?_)
    rw [HS1.out]
    rintro x w2 ⟨rfl, hleft⟩
    obtain ⟨at3, e3, hr3, hs3, hg2⟩ := hleft
    have HQ2 := Lib.hid (HQ.out.over HR.out hg2)
    have HR2 := Lib.hid hr3
    have HS3 := Lib.hid hs3
    have HB2 := Lib.hid (HB0.out.grown hg2 HB0.out.size (fun k hk => by cases hk; exact HBR.out))
    clear hr3 hs3 hg2
    go_wp2_with (go_at_call 58; refine halt_here ?_)
    refine go_on ((RBool_any Q bs2 e2 a2 n2 c2 w2 HQ2.out).mono ?_)
    rw [HS2.out]
    rintro x w3 ⟨rfl, hleft⟩
    obtain ⟨bs4, e4, a4, n4, c4, hq4, hs4, hg3⟩ := hleft
    have HR3 := Lib.hid (HR2.out.over HQ2.out hg3)
    have HQ3 := Lib.hid hq4
    have HS4 := Lib.hid hs4
    have HB3 := Lib.hid (HB2.out.grown hg3 HB2.out.size (fun k hk => by cases hk; exact HBQ.out))
    clear hq4 hs4 hg3
    go_wp2_with (go_at_call 23; refine halt_here ?_)
    refine go_on ((Left_any R a n c bs at3 e3 _ HR3.out).mono ?_)
    rw [HS3.out]
    rintro x w5 ⟨rfl, hg5, hr5⟩
    have HQ5 := Lib.hid (HQ3.out.over HR3.out hg5)
    have HR5 := Lib.hid hr5
    have HB5 := Lib.hid (HB3.out.grown hg5 HB3.out.size (fun k hk => by cases hk; exact HBR.out))
    clear hg5 hr5
    go_wp2_with (go_at_call 62; refine halt_here ?_)
    refine go_on ((RLeft_any Q bs4 e4 a4 n4 c4 w5 HQ5.out).mono ?_)
    rw [HS4.out]
    rintro x w6 ⟨rfl, rfl⟩
    go_wp2_with (go_at_call 21; refine halt_here ?_)
    refine go_on ((Err_any R a n c bs at3 e3 w5 HR5.out).mono ?_)
    rintro x w6 ⟨rfl, rfl⟩
    obtain rfl : e3 = e4 := pair_err HS3.out HS4.out
    go_wp2_with (go_at_call 63; refine halt_here ?_)
    refine go_on ((RErr_any Q bs4 e3 a4 n4 c4 w5 HQ5.out).mono ?_)
    rintro x w6 ⟨rfl, rfl⟩
    go_wp2_with fail
    go_ret
    exact ⟨rfl, HB5.out, _, a, n, c, bs, at3, e3, bs4, e3, a4, n4, c4, HR5.out, HQ5.out, HS3.out, HS4.out, HNN.out⟩
  by_cases k3 : kk = 3
  · subst k3
    clear k0 k1 k2
    go_enter Try.func30, Try.ntmps30
    go_wp2_with fail
    refine wp_region_plan [(0, none), (1, none), (4, none), (5, none), (2, some none), (6, some none), (3, some (some true)), (7, some (some false)), (8, none), (9, none)] (by kernel_rfl) (by kernel_rfl) ?_
    repeat (first | (refine plan_free (v := ?_) rfl rfl (fun _ => ?_) (fun K hK => ?_); rotate_left 1; (focus (go_simp <;> exact rfl)); go_simp; refine hK _ _ ?_; clear hK K) | (refine plan_held (v := ?_) rfl rfl ?_ (fun K hK => ?_); rotate_left 1; (focus (go_simp <;> exact rfl)); go_simp; refine hK _ _ ?_; clear hK K) | (refine plan_skip rfl rfl (fun K hK => ?_); go_simp; refine hK _ _ ?_; clear hK K))
    refine plan_effH rfl rfl (fun K hK => ?_)
    go_wp2_with (go_at_call 32; refine halt_here ?_)
    refine go_on ((Text_any R a n c bs at' e nn HI.out.2 _ HR.out.drew).mono ?_)
    rw [HS1.out]
    rintro x w2 ⟨rfl, hleft⟩
    obtain ⟨at3, e3, hr3, hs3, hg2⟩ := hleft
    have hg2 := drew_g hg2
    have d1 : w2.cell? ⟨w.heap.size, 2, none⟩ = some (.int .i64 nn) := by rw [grown_cell hg2 (by exact HSW.out) HRW.out]; exact HBK.out 2
    have HQ2 := Lib.hid (HQ.out.over HR.out hg2)
    have HR2 := Lib.hid hr3
    have HS3 := Lib.hid hs3
    have HB2 := Lib.hid (HB0.out.grown hg2 HB0.out.size (fun k hk => by cases hk; exact HBR.out))
    clear hr3 hs3 hg2
    go_wp2_with fail
    refine ⟨⟨by go_simp, by go_simp, trivial⟩, ?_⟩
    repeat (first | (refine plan_free (v := ?_) rfl rfl (fun _ => ?_) (fun K hK => ?_); rotate_left 1; (focus (go_simp <;> exact rfl)); go_simp; refine hK _ _ ?_; clear hK K) | (refine plan_held (v := ?_) rfl rfl ?_ (fun K hK => ?_); rotate_left 1; (focus (go_simp <;> exact rfl)); go_simp; refine hK _ _ ?_; clear hK K) | (refine plan_skip rfl rfl (fun K hK => ?_); go_simp; refine hK _ _ ?_; clear hK K))
    refine plan_eff rfl rfl (fun K hK => ?_)
    go_wp2_with (go_at_call 59; refine halt_here ?_)
    refine go_on ((RText_any Q bs2 e2 a2 n2 c2 nn HI.out.2 w2 HQ2.out).mono ?_)
    rw [HS2.out]
    rintro x w3 ⟨rfl, hleft⟩
    obtain ⟨bs4, e4, a4, n4, c4, hq4, hs4, hg3⟩ := hleft
    have HR3 := Lib.hid (HR2.out.over HQ2.out hg3)
    have HQ3 := Lib.hid hq4
    have HS4 := Lib.hid hs4
    have HB3 := Lib.hid (HB2.out.grown hg3 HB2.out.size (fun k hk => by cases hk; exact HBQ.out))
    clear hq4 hs4 hg3
    go_wp2_with fail
    repeat (first | (refine plan_free (v := ?_) rfl rfl (fun _ => ?_) (fun K hK => ?_); rotate_left 1; (focus (go_simp <;> exact rfl)); go_simp; refine hK _ _ ?_; clear hK K) | (refine plan_held (v := ?_) rfl rfl ?_ (fun K hK => ?_); rotate_left 1; (focus (go_simp <;> exact rfl)); go_simp; refine hK _ _ ?_; clear hK K) | (refine plan_skip rfl rfl (fun K hK => ?_); go_simp; refine hK _ _ ?_; clear hK K))
    refine plan_nil ?_
    go_wp2_with (go_at_call 23; refine halt_here ?_)
    refine go_on ((Left_any R a n c bs at3 e3 _ HR3.out).mono ?_)
    rw [HS3.out]
    rintro x w5 ⟨rfl, hg5, hr5⟩
    have HQ5 := Lib.hid (HQ3.out.over HR3.out hg5)
    have HR5 := Lib.hid hr5
    have HB5 := Lib.hid (HB3.out.grown hg5 HB3.out.size (fun k hk => by cases hk; exact HBR.out))
    clear hg5 hr5
    go_wp2_with (go_at_call 62; refine halt_here ?_)
    refine go_on ((RLeft_any Q bs4 e4 a4 n4 c4 w5 HQ5.out).mono ?_)
    rw [HS4.out]
    rintro x w6 ⟨rfl, rfl⟩
    go_wp2_with (go_at_call 21; refine halt_here ?_)
    refine go_on ((Err_any R a n c bs at3 e3 w5 HR5.out).mono ?_)
    rintro x w6 ⟨rfl, rfl⟩
    obtain rfl : e3 = e4 := pair_err HS3.out HS4.out
    go_wp2_with (go_at_call 63; refine halt_here ?_)
    refine go_on ((RErr_any Q bs4 e3 a4 n4 c4 w5 HQ5.out).mono ?_)
    rintro x w6 ⟨rfl, rfl⟩
    go_wp2_with fail
    go_ret
    exact ⟨rfl, HB5.out, _, a, n, c, bs, at3, e3, bs4, e3, a4, n4, c4, HR5.out, HQ5.out, HS3.out, HS4.out, HNN.out⟩
  · have q0 : (kk == 0) = false := by simpa using k0
    have q1 : (kk == 1) = false := by simpa using k1
    have q2 : (kk == 2) = false := by simpa using k2
    have q3 : (kk == 3) = false := by simpa using k3
    clear k0 k1 k2 k3
    go_enter Try.func30, Try.ntmps30
    go_wp2_with fail
    refine wp_region_plan [(0, none), (1, none), (4, none), (5, none), (2, some none), (6, some none), (3, some (some true)), (7, some (some false)), (8, some (some false)), (9, none)] (by kernel_rfl) (by kernel_rfl) ?_
    repeat (first | (refine plan_free (v := ?_) rfl rfl (fun _ => ?_) (fun K hK => ?_); rotate_left 1; (focus (go_simp <;> exact rfl)); go_simp; refine hK _ _ ?_; clear hK K) | (refine plan_held (v := ?_) rfl rfl ?_ (fun K hK => ?_); rotate_left 1; (focus (go_simp <;> exact rfl)); go_simp; refine hK _ _ ?_; clear hK K) | (refine plan_skip rfl rfl (fun K hK => ?_); go_simp; refine hK _ _ ?_; clear hK K))
    refine plan_effH rfl rfl (fun K hK => ?_)
    go_wp2_with (go_at_call 33; refine halt_here ?_)
    refine go_on ((Ints_any R a n c bs at' e nn HI.out.2 HNN.out _ HR.out.drew).mono ?_)
    rw [HS1.out]
    rintro x w2 ⟨o2, rfl, how2, hleft⟩
    obtain ⟨at3, e3, hr3, hs3, hg2⟩ := hleft
    have hg2 := drew_g hg2
    have d1 : w2.cell? ⟨w.heap.size, 2, none⟩ = some (.int .i64 nn) := by rw [grown_cell hg2 (by exact HSW.out) HRW.out]; exact HBK.out 2
    have HQ2 := Lib.hid (HQ.out.over HR.out hg2)
    have HR2 := Lib.hid hr3
    have HS3 := Lib.hid hs3
    have HB2 := Lib.hid (HB0.out.grown hg2 HB0.out.size (fun k hk => by cases hk; exact HBR.out))
    clear hr3 hs3 hg2
    have HOW2 := Lib.hid how2
    clear how2
    go_wp2_with fail
    refine ⟨⟨by go_simp, by go_simp, trivial⟩, ?_⟩
    repeat (first | (refine plan_free (v := ?_) rfl rfl (fun _ => ?_) (fun K hK => ?_); rotate_left 1; (focus (go_simp <;> exact rfl)); go_simp; refine hK _ _ ?_; clear hK K) | (refine plan_held (v := ?_) rfl rfl ?_ (fun K hK => ?_); rotate_left 1; (focus (go_simp <;> exact rfl)); go_simp; refine hK _ _ ?_; clear hK K) | (refine plan_skip rfl rfl (fun K hK => ?_); go_simp; refine hK _ _ ?_; clear hK K))
    refine plan_eff rfl rfl (fun K hK => ?_)
    go_wp2_with (go_at_call 61; refine halt_here ?_)
    refine go_on ((RInts_any Q bs2 e2 a2 n2 c2 nn HI.out.2 HPB.out w2 HQ2.out).mono ?_)
    rw [HS2.out]
    rintro x w3 ⟨o3, rfl, how3, hleft⟩
    have hlb : (lS nn st).1.length ≤ 4611686018427387904 := lS_len HS1.out HR.out HNN.out nn
    generalize hlr : (lS nn st).1 = lr at how3 HOW2 hlb
    clear hlr
    obtain ⟨_, how4⟩ : ∃ bb, w3.ownsRow bb 3 1 o2 lr.length (ic lr) := by obtain ⟨_, _, _, _, _, _, _, hg⟩ := hleft; exact ⟨_, own_grown HOW2.out hg (Nat.lt_trans HQW.out HSW.out)⟩
    obtain ⟨a5, c5, rfl, hc5⟩ := ownsRow_rd how4
    obtain ⟨a6, c6, rfl, hc6⟩ := ownsRow_rd how3
    have HC5 := Lib.hid hc5
    have HC6 := Lib.hid hc6
    clear how3 how4 hc5 hc6 HOW2
    obtain ⟨bs4, e4, a4, n4, c4, hq4, hs4, hg3⟩ := hleft
    have HR3 := Lib.hid (HR2.out.over HQ2.out hg3)
    have HQ3 := Lib.hid hq4
    have HS4 := Lib.hid hs4
    have HB3 := Lib.hid (HB2.out.grown hg3 HB2.out.size (fun k hk => by cases hk; exact HBQ.out))
    clear hq4 hs4 hg3
    generalize hl3 : lr.length = m3 at *
    have HL3 := Lib.hid hl3
    clear hl3
    go_wp2_with fail
    repeat (first | (refine plan_free (v := ?_) rfl rfl (fun _ => ?_) (fun K hK => ?_); rotate_left 1; (focus (go_simp <;> exact rfl)); go_simp; refine hK _ _ ?_; clear hK K) | (refine plan_held (v := ?_) rfl rfl ?_ (fun K hK => ?_); rotate_left 1; (focus (go_simp <;> exact rfl)); go_simp; refine hK _ _ ?_; clear hK K) | (refine plan_skip rfl rfl (fun K hK => ?_); go_simp; refine hK _ _ ?_; clear hK K))
    refine plan_eff rfl rfl (fun K hK => ?_)
    go_wp2_with (go_at_call 60; refine halt_here ?_)
    refine go_on ((same_eq a5 m3 c5 a6 c6 lr w3 HL3.out hlb HC5.out HC6.out).mono ?_)
    rintro e w4 ⟨rfl, j, rfl⟩
    go_wp2_with fail
    repeat (first | (refine plan_free (v := ?_) rfl rfl (fun _ => ?_) (fun K hK => ?_); rotate_left 1; (focus (go_simp <;> exact rfl)); go_simp; refine hK _ _ ?_; clear hK K) | (refine plan_held (v := ?_) rfl rfl ?_ (fun K hK => ?_); rotate_left 1; (focus (go_simp <;> exact rfl)); go_simp; refine hK _ _ ?_; clear hK K) | (refine plan_skip rfl rfl (fun K hK => ?_); go_simp; refine hK _ _ ?_; clear hK K))
    refine plan_nil ?_
    have HR3 := Lib.hid (drewN_rdr HR3.out j)
    have HQ3 := Lib.hid (drewN_ref HQ3.out j)
    have HB3 := Lib.hid (drewN_below HB3.out j)
    go_wp2_with (go_at_call 23; refine halt_here ?_)
    refine go_on ((Left_any R a n c bs at3 e3 _ HR3.out).mono ?_)
    rw [HS3.out]
    rintro x w5 ⟨rfl, hg5, hr5⟩
    have HQ5 := Lib.hid (HQ3.out.over HR3.out hg5)
    have HR5 := Lib.hid hr5
    have HB5 := Lib.hid (HB3.out.grown hg5 HB3.out.size (fun k hk => by cases hk; exact HBR.out))
    clear hg5 hr5
    go_wp2_with (go_at_call 62; refine halt_here ?_)
    refine go_on ((RLeft_any Q bs4 e4 a4 n4 c4 w5 HQ5.out).mono ?_)
    rw [HS4.out]
    rintro x w6 ⟨rfl, rfl⟩
    go_wp2_with (go_at_call 21; refine halt_here ?_)
    refine go_on ((Err_any R a n c bs at3 e3 w5 HR5.out).mono ?_)
    rintro x w6 ⟨rfl, rfl⟩
    obtain rfl : e3 = e4 := pair_err HS3.out HS4.out
    go_wp2_with (go_at_call 63; refine halt_here ?_)
    refine go_on ((RErr_any Q bs4 e3 a4 n4 c4 w5 HQ5.out).mono ?_)
    rintro x w6 ⟨rfl, rfl⟩
    go_wp2_with fail
    go_ret
    exact ⟨rfl, HB5.out, _, a, n, c, bs, at3, e3, bs4, e3, a4, n4, c4, HR5.out, HQ5.out, HS3.out, HS4.out, HNN.out⟩
end Go.Proofs.Ytbcpdjhpceimlaa
