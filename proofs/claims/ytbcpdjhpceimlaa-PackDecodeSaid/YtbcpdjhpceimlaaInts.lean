/-
  Ints of a reader, the program's; PutInts.
-/
import Derived.Test.YtbcpdjhpceimlaaText
namespace Go.Proofs.Ytbcpdjhpceimlaa
open Go.ChangeShapes Go.WideShapes Go.ChangeAt Go.RowKit
set_option linter.unusedVariables false

theorem info3 : (Try.prog.info? 3).map (fun i => (i.zero, i.size, i.bytes)) = some (some (.int .i64 0), 1, 8) := by kernel_rfl

theorem ic_append (a b : List Int) : ic (a ++ b) = ic a ++ ic b := by simp [ic]
theorem ic_length (a : List Int) : (ic a).length = a.length := by simp [ic]

theorem iS_bd (s : St) : -9223372036854775808 ≤ (iS s).1 ∧ (iS s).1 ≤ 9223372036854775807 := unzz_bd _ (by have := uS_bd top64 s; unfold top64 at *; omega)

theorem iS_len {r r' : Bytes} (h : (iS (.ok r)).2 = .ok r') : r'.length < r.length := by
  unfold iS uS at h
  simp only at h
  rcases hq : num 0 0 r with e | ⟨v, rest⟩
  · rw [hq] at h; cases h
  · rw [hq] at h
    simp only at h
    split at h
    · cases h
    · injection h with h
      subst h
      exact num_len _ _ _ _ _ hq

/-- What a round of Ints finds. -/
def IntsRel (base R : Nat) (a : Option Addr) (n c : Nat) (bs : Bytes) (w : World) (res : List Int × St) (v k : Nat) (o : Value) (wr : World) : Prop :=
  ∃ (at1 : Nat) (acc : List Int), RdrAt 109 wr R a n c bs at1 0 ∧ res = isN (v - k) acc (stOf bs at1 0) ∧ acc.length = k ∧ acc.length + (bs.drop at1).length ≤ n ∧ wr.ownsRow base 3 1 o acc.length (ic acc) ∧ w.grownBy wr (some R)

/-- What Ints leaves. -/
def IntsPost (R : Nat) (a : Option Addr) (n c : Nat) (bs : Bytes) (w : World) (res : List Int × St) (x : Ending) (w' : World) : Prop :=
  ∃ o, x = .returned o ∧ w'.ownsRow w.heap.size 3 1 o res.1.length (ic res.1) ∧ Left' 109 w w' R a n c bs res.2

theorem ints_err {R : Nat} {a : Option Addr} {n c : Nat} {bs : Bytes} {w : World} {res : List Int × St} {v k at1 : Nat} {acc : List Int} {wr w' : World}
    (hres : res = isN (v - k) acc (stOf bs at1 0)) (hk : k < v) (hg : w.grownBy wr (some R)) {at2 e2 : Nat} (h2 : RdrAt 109 w' R a n c bs at2 e2) (hs : stOf bs at2 e2 = (iS (stOf bs at1 0)).2) (hg2 : wr.grownBy w' (some R)) (he : e2 ≠ 0) :
    IntsPost R a n c bs w res (.returned (.slice none 0 0)) w' := by
  obtain ⟨m, hm⟩ : ∃ m, v - k = m + 1 := ⟨v - k - 1, by omega⟩
  rw [hm, isN, ← hs, stOf_er _ _ _ he] at hres
  subst hres
  exact ⟨_, rfl, World.ownsRow_nil _ _ _ _, at2, e2, h2, stOf_er _ _ _ he, hg.trans hg2⟩

theorem ints_ok {base R : Nat} {a : Option Addr} {n c : Nat} {bs : Bytes} {w : World} {res : List Int × St} {v k at1 : Nat} {acc : List Int} {wr w2 : World}
    (hres : res = isN (v - k) acc (stOf bs at1 0)) (hk : k < v) (hl : acc.length = k) (hle : acc.length + (bs.drop at1).length ≤ n) (hg : w.grownBy wr (some R))
    {at2 : Nat} (h2 : RdrAt 109 w2 R a n c bs at2 0) (hs : stOf bs at2 0 = (iS (stOf bs at1 0)).2) {x : Int} (hx : x = (iS (stOf bs at1 0)).1) {o : Value} (how : w2.ownsRow base 3 1 o (acc.length + 1) (ic acc ++ [.int .i64 x])) (hg2 : w.grownBy w2 (some R)) :
    IntsRel base R a n c bs w res v (k + 1) o w2 := by
  obtain ⟨m, hm⟩ : ∃ m, v - k = m + 1 := ⟨v - k - 1, by omega⟩
  have hlt : (bs.drop at2).length < (bs.drop at1).length := by
    rw [stOf_ok, stOf_ok] at hs
    exact iS_len hs.symm
  refine ⟨at2, acc ++ [x], h2, ?_, by simp [hl], by simp; simp at hlt hle; omega, ?_, hg2⟩
  · rw [hres, hm, isN, ← hs, stOf_ok, show v - (k + 1) = m by omega, hx]
  · rw [List.length_append, ic_append]
    exact how

theorem ints_room {w : World} {R : Nat} {row : Option Nat} {w1 w2 : World} (h1 : w.grownBy w1 (some R)) (h2 : w1.grownBy w2 row) (hr : ∀ k, row = some k → w.heap.size ≤ k) : w.grownBy w2 (some R) :=
  ⟨h2.os.trans h1.os, h2.tape.trans h1.tape, h2.output.trans h1.output, Nat.le_trans h1.size h2.size, fun b hb hne => by
    rw [h2.block b (Nat.lt_of_lt_of_le hb h1.size) (fun e => by have := hr b e.symm; omega)]
    exact h1.block b hb hne⟩

theorem own_grown {w w' : World} {base e size n R : Nat} {v : Value} {xs : List Value} (h : w.ownsRow base e size v n xs) (hg : w.grownBy w' (some R)) (hR : R < base) : w'.ownsRow base e size v n xs :=
  h.kept hg (by
    rcases h.2 with ⟨rfl, _⟩ | ⟨g, cap, cur, rfl, hb, _⟩
    · simp [Value.ownBlock]
    · simp [Value.ownBlock]; omega)

theorem RdrAt.other {T : TypeId} {w w' : World} {R : Nat} {a : Option Addr} {n c : Nat} {bs : Bytes} {at' e : Nat} (h : RdrAt T w R a n c bs at' e) {row : Option Nat} (hg : w.grownBy w' row) (hr : ∀ k, row = some k → R < k) : RdrAt T w' R a n c bs at' e := by
  refine ⟨?_, ?_, h.lt, h.nc, h.nil, h.len, h.bd, h.le⟩
  · rw [hg.block R (blk_lt h.blk) (fun e => by have := hr R e.symm; omega)]
    exact h.blk
  · have hc := h.cells
    have hlt := h.lt
    rcases hc with h0 | ⟨b, off, rfl, hc⟩
    · exact .inl h0
    · exact .inr ⟨b, off, rfl, fun j u hj => ext_of_grown hg _ _ (fun e => by have := hr b e.symm; have := hlt _ rfl; simp at this; omega) (hc j u hj)⟩

set_option maxRecDepth 100000 in
set_option maxHeartbeats 4000000 in
theorem Ints_any (R : Nat) (a : Option Addr) (n c : Nat) (bs : Bytes) (at' e : Nat) (most : Int) (hm : most ≤ 9223372036854775807) (hbig : n ≤ 17592186044415) (w : World) (h : RdrAt 109 w R a n c bs at' e) :
    Calls Try.prog 33 #[.pointer (some ⟨R, 0, none⟩), .int .i64 most] w (IntsPost R a n c bs w (lS most (stOf bs at' e))) := by
  obtain ⟨i0, hi, hz0, hz1, hz2⟩ := info_parts info3
  have H := Lib.hid h
  have HRW := Lib.hid (show R < w.heap.size from blk_lt h.blk)
  have HLN := Lib.hid h.len
  clear h
  have hmx : max most 0 = (most.toNat : Int) := by omega
  have hwr : IntKind.u64.wrap (most.toNat : Int) = (most.toNat : Int) := wrapU _ (by omega) (by omega)
  have HRES := Lib.hid (show lS most (stOf bs at' e) = isN (uS most.toNat (stOf bs at' e)).1 [] (uS most.toNat (stOf bs at' e)).2 from rfl)
  generalize lS most (stOf bs at' e) = res at HRES
  have hmm1 : most.toNat ≤ 9223372036854775807 := by omega
  generalize most.toNat = mm at hmx hwr HRES hmm1
  go_enter Try.func33, Try.ntmps33
  go_wp2_with (go_at_call 19; refine halt_here ?_)
  refine go_on ((Uint_any R a n c bs at' e mm w H.out).mono ?_)
  have hv18 : (uS mm (stOf bs at' e)).1 ≤ mm := uS_bd mm _
  have HV0 := Lib.hid (show ∀ ce, (uS mm (stOf bs at' e)).2 = .error ce → (uS mm (stOf bs at' e)).1 = 0 by
    intro ce hce
    unfold uS at hce ⊢
    split at hce
    · rfl
    · split at hce
      · rfl
      · rename_i hq
        split at hce
        · rename_i hq2; simp only [if_pos hq2]
        · cases hce)
  generalize (uS mm (stOf bs at' e)).1 = v at HRES hv18 HV0
  generalize (uS mm (stOf bs at' e)).2 = st at HRES HV0
  rintro x w1 ⟨rfl, at2, e2, hrd, hst, hg⟩
  have HR := Lib.hid hrd
  have HG := Lib.hid hg
  have HST := Lib.hid hst
  clear hrd hg hst
  by_cases he : e2 = 0
  · subst he
    have HS := Lib.hid (show IntsRel w.heap.size R a n c bs w res v 0 (.slice none 0 0) w1 from ⟨at2, [], HR.out, by rw [HRES.out, ← HST.out]; rfl, rfl, by simp; have := HLN.out; omega, World.ownsRow_nil _ _ _ _, HG.out⟩)
    clear H
    go_wp2_with fail
    go_loopw [6, 7] (fun o i wr => ∃ k : Nat, k ≤ v ∧ i = .int .u64 (k : Int) ∧ Hid (IntsRel w.heap.size R a n c bs w res v k o wr)) (fun _ i _ => v - (intOf i).toNat)
    case atStart => exact ⟨0, Nat.zero_le _, rfl, HS⟩
    case round =>
      obtain ⟨k, hk, rfl, HS⟩ := hrel
      clear HR HG
      obtain ⟨at1, acc, hr1, hres, hacc, hle, how, hg1⟩ := HS.out
      have HR1 := Lib.hid hr1
      have HRS := Lib.hid hres
      have HACC := Lib.hid hacc
      have HLE := Lib.hid hle
      have HOW := Lib.hid how
      have HG1 := Lib.hid hg1
      clear hr1 hres hacc hle how hg1
      by_cases hlt : k < v
      · go_wp2_with (go_at_call 20; refine halt_here ?_)
        refine go_on ((Int_any R a n c bs at1 0 wr HR1.out).mono ?_)
        have HXB := Lib.hid (iS_bd (stOf bs at1 0))
        have HX := Lib.hid (rfl : (iS (stOf bs at1 0)).1 = (iS (stOf bs at1 0)).1)
        generalize hx : (iS (stOf bs at1 0)).1 = y at HXB
        clear HX
        have HX := Lib.hid hx
        clear hx
        rintro x w2 ⟨rfl, at3, e3, hr3, hs3, hg3⟩
        have HR3 := Lib.hid hr3
        have HS3 := Lib.hid hs3
        have HG3 := Lib.hid hg3
        have hc2 := hr3.c2
        clear hr3 hs3 hg3
        by_cases he3 : e3 = 0
        · subst he3
          have HO3 := Lib.hid (own_grown HOW.out HG3.out HRW.out)
          go_wp2_with (at_builtin; refine wpList_wp rfl (fun K hK => ?_); refine halt_here ?_)
          refine go_on (wp_append (.tmp 26) (.tmp 28) 24 rfl w.heap.size 3 i0 (.int .i64 0) 1 8 Try.underlying24 hi hz0 hz1 hz2 rfl (by decide) _ acc.length _ rfl (HO3.out.alloc _) _ 1 [.int .i64 y] rfl ⟨_, _, rfl, cells_one w2 _ 3⟩ (fun cap hc => by cases hc) rfl (one_of rfl) (by unfold maxLen; have := HLE.out; omega) (by have := HLE.out; have := iS_len (r := bs.drop at1) (r' := bs.drop at3) (by rw [← stOf_ok bs at1, ← HS3.out]; rfl); omega) (size_alloc_le _ _ (Nat.le_trans HG1.out.size HG3.out.size)) ?_)
          intro v' w' how' hgr'
          have hsz : w.heap.size ≤ w2.heap.size := Nat.le_trans HG1.out.size HG3.out.size
          have hown : ∀ k, u6.ownBlock = some k → w.heap.size ≤ k := fun k hk => (HO3.out.lt k hk).1
          have hg4 : w2.grownBy w' u6.ownBlock := ((World.grownBy_alloc w2 _ _).trans hgr')
          have HREL := Lib.hid (ints_ok HRS.out hlt HACC.out HLE.out HG1.out (HR3.out.other hg4 (fun k hk => by have := hown k hk; have := HRW.out; omega)) HS3.out HX.out.symm how' (ints_room (HG1.out.trans HG3.out) hg4 hown))
          clear how' hgr' hg4
          refine hK _ _ ?_
          clear hK K
          go_wp2_with fail
          go_roundw
          case rel => exact ⟨k + 1, by omega, by go_num, HREL⟩
          case measure => simp [intOf]; omega
        · have p1 : ((e3 : Int) == 0) = false := by simp; omega
          have HE := Lib.hid (ints_err HRS.out hlt HG1.out HR3.out HS3.out HG3.out he3)
          clear he3
          go_wp2_with fail
          go_ret
          exact HE.out
      · obtain rfl : k = v := by omega
        have HE := Lib.hid (show IntsPost R a n c bs w res (.returned u6) wr from ⟨_, rfl, by rw [HRS.out, Nat.sub_self, isN]; exact HOW.out, at1, 0, HR1.out, by rw [HRS.out, Nat.sub_self, isN], HG1.out⟩)
        go_wp2_with fail
        go_ret
        exact HE.out
  · have hv0 : v = 0 := HV0.out e2 (by rw [← HST.out, stOf_er _ _ _ he])
    subst hv0
    have HE := Lib.hid (show IntsPost R a n c bs w res (.returned (.slice none 0 0)) w1 from ⟨_, rfl, by rw [HRES.out, isN]; exact World.ownsRow_nil _ _ _ _, at2, e2, HR.out, by rw [HRES.out, isN, ← HST.out], HG.out⟩)
    clear he
    go_wp2_with fail
    go_loopw [6, 7] (fun o i wr => o = .slice none 0 0 ∧ i = .int .u64 0 ∧ wr = w1) (fun _ _ _ => 0)
    case atStart => exact ⟨rfl, rfl, rfl⟩
    case round =>
      obtain ⟨rfl, rfl, rfl⟩ := hrel
      go_wp2_with fail
      go_ret
      exact HE.out
end Go.Proofs.Ytbcpdjhpceimlaa
