/-
  A text of more than 32 bytes, or a list of more than 4096 elements, is encoded but not decoded; the chapter's examples hold; no condition.
-/
import Derived.Test.YtbcpdjhpceimlaaRows
import Derived.SizedLaws
import Derived.Test.YtbcpdjhpceimlaaPLongLaw
import Derived.Test.YtbcpdjhpceimlaaSch
import Derived.WalkKit
import Derived.ProofKit
import Derived.OpenShut
import Derived.ShutString
import Derived.ChangeOld
import Derived.Below
namespace Go.Proofs.Ytbcpdjhpceimlaa.packLong
open Go.ChangeShapes Go.WideShapes Go.ChangeAt Go.RowKit Go.Deep
open Go.ChangeMaps (open_string shut_string)
set_option linter.unusedVariables false

theorem own_knob : ownKnob Try.prog.godebug = none := by kernel_rfl
theorem laidOut : laidOutB Try.prog = true := by kernel_rfl


/-- The cells of the law's structs. -/
def modC (x : ByteArray) : Array Value := #[.int .i64 0, .int .i64 0, .int .i64 0, .string x, .int .i64 0, .int .i64 0, .int .i64 0, .int .i64 0, .int .i64 0, .int .i64 0, .int .i64 0, .string ⟨#[]⟩, .int .i64 0, .int .i64 0, .int .i64 0, .int .i64 0, .int .i64 0, .int .i64 0, .int .i64 0, .int .i64 0]
def contC (g : Nat) : Array Value := #[.int .i64 0, .int .i64 0, .int .i64 0, .int .i64 0, .slice none 0 0, .slice (some ⟨g, 0, none⟩) 1 1]
def stC (g : Nat) : Array Value := #[.slice none 0 0, .slice none 0 0, .slice none 0 0, .slice none 0 0, .slice none 0 0, .slice none 0 0, .slice (some ⟨g, 0, none⟩) 1 1, .int .i64 0, .int .i64 0, .int .i64 0, .bool false, .int .i64 0, .int .i64 0, .int .i64 0, .int .i64 0, .int .u64 0, .slice none 0 0, .int .i64 0, .int .i64 0]
def exC (u : Value) : Array Value := #[.slice none 0 0, .slice none 0 0, .slice none 0 0, u, .slice none 0 0, .slice none 0 0, .slice none 0 0, .int .i64 0, .int .i64 0, .int .i64 0, .bool false, .int .i64 0, .int .i64 0, .int .i64 0, .int .i64 0, .int .u64 0, .slice none 0 0, .int .i64 0, .int .i64 0]

section
variable {A : Nat → Prop} {w : World}
theorem r_i : Rep A w .i (.i 0) (.int .i64 0) := .i 0 (by unfold In64; omega)
theorem r_b : Rep A w .b (.b false) (.bool false) := .b false
theorem r_u : Rep A w .u (.u 0) (.int .u64 0) := .u 0 (by omega)
theorem r_t : Rep A w .t (.t []) (.string ⟨#[]⟩) := .t ⟨#[]⟩ (by decide)
theorem r_l : Rep A w .l (.l []) (.slice none 0 0) := .l [] none 0 0 rfl (Nat.le_refl _) (Nat.zero_le _) (fun _ => ⟨rfl, rfl⟩) (fun x h => by cases h) (fun x h => by simp at h) (.inl rfl)
theorem r_e (s : List Fld) : Rep A w (.e s) (.e []) (.slice none 0 0) := .e s [] none 0 0 (fun _ _ => undef) rfl (Nat.le_refl _) (Nat.zero_le _) (fun _ => ⟨rfl, rfl⟩) (fun x h => by cases h) (fun x h => by simp at h) (fun _ _ _ _ _ h => by omega) (fun i j r q v h => by simp at h)
theorem r_cons {q : Fld} {x : V} {u : Value} {s : List Fld} {v : List V} {cs : List Value} (h : Rep A w q x u) (h2 : RowRep A w s v cs) : RowRep A w (q :: s) (x :: v) (u :: cs) := (RowRep.one h).append h2
theorem mod_row (x : ByteArray) (hx : x.size ≤ maxLen) : RowRep A w modS (longM x.data.toList) (modC x).toList :=
  r_cons r_i <| r_cons r_i <| r_cons r_i <| r_cons (.t x hx) <| r_cons r_i <| r_cons r_i <| r_cons r_i <| r_cons r_i <| r_cons r_i <| r_cons r_i <| r_cons r_i <| r_cons r_t <| r_cons r_i <| r_cons r_i <| r_cons r_i <| r_cons r_i <| r_cons r_i <| r_cons r_i <| r_cons r_i <| r_cons r_i <| RowRep.nil _ _
theorem cont_row {g : Nat} {r : List V} (h : Rep A w (.e modS) (.e [r]) (.slice (some ⟨g, 0, none⟩) 1 1)) : RowRep A w contS [.i 0, .i 0, .i 0, .i 0, .l [], .e [r]] (contC g).toList :=
  r_cons r_i <| r_cons r_i <| r_cons r_i <| r_cons r_i <| r_cons r_l <| r_cons h <| RowRep.nil _ _
theorem st_row {g : Nat} {r : List V} (h : Rep A w (.e contS) (.e [r]) (.slice (some ⟨g, 0, none⟩) 1 1)) : RowRep A w stateS [.e [], .e [], .l [], .l [], .e [], .e [], .e [r], .i 0, .i 0, .i 0, .b false, .i 0, .i 0, .i 0, .i 0, .u 0, .l [], .i 0, .i 0] (stC g).toList :=
  r_cons (r_e _) <| r_cons (r_e _) <| r_cons r_l <| r_cons r_l <| r_cons (r_e _) <| r_cons (r_e _) <| r_cons h <| r_cons r_i <| r_cons r_i <| r_cons r_i <| r_cons r_b <| r_cons r_i <| r_cons r_i <| r_cons r_i <| r_cons r_i <| r_cons r_u <| r_cons r_l <| r_cons r_i <| r_cons r_i <| RowRep.nil _ _
theorem ex_row {l : List Int} {u : Value} (h : Rep A w .l (.l l) u) : RowRep A w stateS (exileS l) (exC u).toList :=
  r_cons (r_e _) <| r_cons (r_e _) <| r_cons r_l <| r_cons h <| r_cons (r_e _) <| r_cons (r_e _) <| r_cons (r_e _) <| r_cons r_i <| r_cons r_i <| r_cons r_i <| r_cons r_b <| r_cons r_i <| r_cons r_i <| r_cons r_i <| r_cons r_i <| r_cons r_u <| r_cons r_l <| r_cons r_i <| r_cons r_i <| RowRep.nil _ _
end
theorem zeros_cells (q : Nat) : (madeCells #[.int .i64 0] (q * 1)).toList = ic (List.replicate q 0) := by
  refine List.ext_getElem (by simp [madeCells, ic]) (fun j h1 h2 => ?_)
  simp [madeCells, ic, Nat.mod_one]
theorem zeros_rep {A : Nat → Prop} {w : World} {base g q : Nat} (hq : 0 < q) (h : w.ownsRow base 3 1 (.slice (some ⟨g, 0, none⟩) q q) q (madeCells (Value.int .i64 0).cells (q * 1)).toList) (hA : ∀ b, b < w.heap.size → A b) (hm : q ≤ maxLen) : Rep A w .l (.l (List.replicate q 0)) (.slice (some ⟨g, 0, none⟩) q q) := by
  obtain ⟨a, c, he, hc⟩ := ownsRow_rd h
  injection he with e1 e2 e3
  subst e1 e3
  rw [show (madeCells (Value.int .i64 0).cells (q * 1)).toList = ic (List.replicate q 0) from zeros_cells q] at hc
  obtain ⟨b, o, e4, hg⟩ := hc.pos (by simp [ic]; omega)
  have h0 := World.block_lt_of_cell? w _ (hg 0 (.int .i64 0) (by rw [ic, List.map_replicate, List.getElem?_replicate, if_pos hq]))
  injection e4 with e4
  injection e4 with e5 e6
  subst e5
  exact .l _ _ q q (by simp) (Nat.le_refl _) hm (fun h => by cases h) (fun x hx _ => by cases hx; exact ⟨hA _ h0, h0, rfl⟩) (fun x hx => by rw [List.mem_replicate] at hx; rw [hx.2]; unfold In64; omega) hc
theorem long_row (w : World) (x : ByteArray) (hx : x.size ≤ maxLen) (w3 : World) (hw : w3 = ((w.alloc (.cells (modC x) 45)).alloc (.cells (contC w.heap.size) 48)).alloc (.cells (stC (w.heap.size + 1)) 30)) : RowRep (Old w3) w3 stateS (longS x.data.toList) (stC (w.heap.size + 1)).toList := by
  have h1 : ((w.alloc (.cells (modC x) 45)).alloc (.cells (contC w.heap.size) 48)).heap[w.heap.size]? = some (.cells (modC x) 45 (0, 0)) := heap_alloc2_old w _ _
  have h2 : ((w.alloc (.cells (modC x) 45)).alloc (.cells (contC w.heap.size) 48)).heap[w.heap.size + 1]? = some (.cells (contC w.heap.size) 48 (0, 0)) := heap_alloc2_new w _ _
  have hb : Below ((w.alloc (.cells (modC x) 45)).alloc (.cells (contC w.heap.size) 48)).heap.size ((w.alloc (.cells (modC x) 45)).alloc (.cells (contC w.heap.size) 48)) w3 := by rw [hw]; exact (Below.refl _ _).alloc (Nat.le_refl _) _
  generalize ((w.alloc (.cells (modC x) 45)).alloc (.cells (contC w.heap.size) 48)) = w2 at h1 h2 hb
  have g1 := (hb.block _ (blk_lt h1)).trans h1
  have g2 := (hb.block _ (blk_lt h2)).trans h2
  exact st_row (rep_one_row g2 (blk_lt g2) (cont_row (rep_one_row g1 (blk_lt g1) (mod_row x hx))))

/-! ### the walk -/
set_option maxRecDepth 100000 in
set_option maxHeartbeats 4000000 in
theorem walk (x0 : Int) (x1 : ByteArray) (w : World) (w0 : (Lit.int .u8 x0).wf = true) (w1 : x1.size ≤ maxLen) :
    Calls Try.prog 4 #[.int .u8 x0, .string x1] w fun e w' => e = .returned (.bool true) ∧ Below w.heap.size w w' := by
  obtain ⟨k0, rfl, hk0⟩ : ∃ k : Nat, x0 = (k : Int) ∧ k < 256 := by
    obtain ⟨bs, hl, he⟩ := bytes_of [x0] (fun n hn => by simp at hn; subst hn; exact w0)
    match bs, hl with
    | [b], _ => simp [bc] at he; exact ⟨b.toNat, he, b.toNat_lt⟩
  clear w0
  go_enter Try.func4, Try.ntmps4
  by_cases hlen : 200 < x1.size
  · go_wp2_with (go_at_call 15; refine halt_here ?_)
    refine go_on ((palive_any w).mono ?_)
    rintro e w3 ⟨rfl, hb3⟩
    go_wp2_with fail
    go_ret
    exact ⟨rfl, hb3⟩
  · have HR := Lib.hid (long_row w x1 w1 _ rfl)
    have HI := Lib.hid (show (Try.prog.info? 30).map (·.size) = some (stC (w.heap.size + 1)).size from size30)
    have HB1 := Lib.hid (show Below w.heap.size w (((w.alloc (.cells (modC x1) 45)).alloc (.cells (contC w.heap.size) 48)).alloc (.cells (stC (w.heap.size + 1)) 30)) from (((Below.refl _ _).alloc (Nat.le_refl _) _).alloc (by simp) _).alloc (by simp; omega) _)
    have HONE0 := Lib.hid (show (stC (w.heap.size + 1)).all (·.oneCell') = true by have h := all_oneCell_toArray (row_one HR.out); simpa using h)
    have HBK := Lib.hid (heap_alloc_new ((w.alloc (.cells (modC x1) 45)).alloc (.cells (contC w.heap.size) 48)) (.cells (stC (w.heap.size + 1)) 30))
    rw [show ((w.alloc (.cells (modC x1) 45)).alloc (.cells (contC w.heap.size) 48)).heap.size = w.heap.size + 1 + 1 by simp] at HBK
    go_wp2_with (with_reducible refine wpList_halt_store 30 _ _ ?_)
    change Stopped (wpList _ _ _ _ _ (((w.alloc (.cells (modC x1) 45)).alloc (.cells (contC w.heap.size) 48)).alloc (.cells zeroS 30)))
    have HSZ := Lib.hid (show ((w.alloc (.cells (modC x1) 45)).alloc (.cells (contC w.heap.size) 48)).heap.size = w.heap.size + 1 + 1 by simp)
    generalize (w.alloc (.cells (modC x1) 45)).alloc (.cells (contC w.heap.size) 48) = wB at HR HB1 HBK HSZ
    refine go_on (wpList_store_new rfl 30 (.tmp 5) (.tmp 20) rfl _ (stC (w.heap.size + 1)) (by rw [HSZ.out]; rfl) rfl HI.out rfl HONE0.out ?_)
    generalize wB.alloc (.cells (stC (w.heap.size + 1)) 30) = w2 at HR HB1 HBK
    go_wp2_with (with_reducible refine wpList_halt_load 30 _ ?_)
    refine go_on (wpList_load_blk rfl 30 (.tmp 5) rfl (w.heap.size + 1 + 1) rfl (stC (w.heap.size + 1)) _ HBK.out Try.underlying30 rfl HI.out ?_)
    generalize stC (w.heap.size + 1) = cs0 at HR
    clear HI HBK
    have hsl : x1.data.toList.length = x1.size := Array.length_toList
    have hble := longS_len x1.data.toList (by omega)
    have HOK := Lib.hid (fun h : x1.data.toList.length ≤ 32 => longS_ok x1.data.toList h)
    have HER := Lib.hid (fun h : 32 < x1.data.toList.length => longS_err x1.data.toList h (by omega))
    go_wp2_with (go_at_call 16; refine halt_here ?_)
    refine go_on ((Encode_any cs0 _ w2 HR.out (by omega)).mono ?_)
    rintro e w3 ⟨a, n, c, rfl, hc, hn, hnil, hcap, hb3⟩
    have hn1 : n ≤ 17000000000000 := by omega
    have HC := Lib.hid hc
    have HN := Lib.hid hn
    have HNI := Lib.hid hnil
    have HB3 := Lib.hid (HB1.out.trans (hb3.mono HB1.out.size))
    clear hc hn hnil hb3 HR HB1 hble
    go_wp2_with (go_at_call 17; refine halt_here ?_)
    refine go_on ((Decode_any a n c _ w3 HC.out HNI.out HN.out (by omega)).mono ?_)
    rintro e w4 hd
    obtain ⟨us, c4, rfl, hus, hone, hb4, her, hok⟩ := hd.any
    have HC4 : Hid ((x1.size ≤ 32 → c4 = 0) ∧ (32 < x1.size → c4 = 2)) := by
      refine Lib.hid ⟨fun h => hok ?_, fun h => her 2 (HER.out (by omega))⟩
      have := backRow stateS _ [] (HOK.out (by omega))
      rw [List.append_nil] at this
      rw [this]
    have HB4 := Lib.hid (HB3.out.trans (hb4.mono HB3.out.size))
    have HUS := Lib.hid (show (Try.prog.info? 30).map (·.size) = some us.size by rw [hus]; exact size30)
    have HONE := Lib.hid hone
    have HUZ := Lib.hid hus
    clear hd hus hone hb4 her hok HC HN HNI HB3 HOK HER
    go_wp2_with (with_reducible refine wpList_halt_store 30 _ _ ?_)
    refine go_on (wpList_store_new rfl 30 (.tmp 6) (.tmp 25) rfl _ us rfl rfl HUS.out (by rw [HUZ.out]; rfl) HONE.out ?_)
    have HB5 := Lib.hid (HB4.out.alloc HB4.out.size (.cells us 30))
    generalize w4.alloc (.cells us 30) = w5 at HB5
    clear HUS HONE HB4
    obtain ⟨m, hm⟩ : ∃ m, k0 % 5 = m := ⟨_, rfl⟩
    have hm5 : m < 5 := by omega
    have hmm : Int.tmod (k0 : Int) 5 = (m : Int) := by rw [← hm]; rfl
    obtain ⟨q, hq⟩ : ∃ q, 4094 + m = q := ⟨_, rfl⟩
    have hqm : (4094 : Int) + (m : Int) = (q : Int) := by omega
    have hqw : IntKind.i64.wrap (q : Int) = (q : Int) := wrapI _ (by omega) (by omega)
    have HQ := Lib.hid hq
    clear hm hq
    obtain ⟨i0, hi, hz0, hz1, hz2⟩ := info_parts info3
    go_wp2_with (at_make; refine wpList_wp rfl (fun K hK => ?_); refine halt_here ?_)
    refine go_on (wp_make 24 (.tmp 30) (.tmp 30) rfl w.heap.size 3 i0 (.int .i64 0) 1 Try.underlying24 hi hz0 hz1 .i64 .i64 q rfl rfl (by rw [hz2]; omega) (by unfold maxLen; omega) HB5.out.size ?_)
    intro w6 how hg6
    have hrep := zeros_rep (A := Old w6) (by omega) how (fun _ h => h) (by unfold maxLen; omega)
    have HB6 := Lib.hid (HB5.out.trans ((grown_below hg6).mono HB5.out.size))
    have HB7 := Lib.hid (HB6.out.alloc HB6.out.size (.cells (exC (.slice (some ⟨w5.heap.size, 0, none⟩) q q)) 30))
    have HR7 := Lib.hid (ex_row (hrep.later (show Below w6.heap.size w6 (w6.alloc (.cells (exC (.slice (some ⟨w5.heap.size, 0, none⟩) q q)) 30)) from (Below.refl _ _).alloc (Nat.le_refl _) _)))
    have HI7 := Lib.hid (show (Try.prog.info? 30).map (·.size) = some (exC (.slice (some ⟨w5.heap.size, 0, none⟩) q q)).size from size30)
    have HONE7 := Lib.hid (show (exC (.slice (some ⟨w5.heap.size, 0, none⟩) q q)).all (·.oneCell') = true by have h := all_oneCell_toArray (row_one HR7.out); simpa using h)
    have HBK7 := Lib.hid (heap_alloc_new w6 (.cells (exC (.slice (some ⟨w5.heap.size, 0, none⟩) q q)) 30))
    clear how hg6 hrep HB5 HB6
    refine hK _ _ ?_
    clear hK K
    go_wp2_with (with_reducible refine wpList_halt_store 30 _ _ ?_)
    refine go_on (wpList_store_new rfl 30 (.tmp 8) (.tmp 32) rfl _ (exC (.slice (some ⟨w5.heap.size, 0, none⟩) q q)) rfl rfl HI7.out rfl HONE7.out ?_)
    obtain ⟨g7, hg7⟩ : ∃ g, w6.heap.size = g := ⟨_, rfl⟩
    rw [hg7] at HBK7
    rw [hg7]
    generalize w6.alloc (.cells (exC (.slice (some ⟨w5.heap.size, 0, none⟩) q q)) 30) = w7 at HR7 HB7 HBK7
    go_wp2_with (with_reducible refine wpList_halt_load 30 _ ?_)
    refine go_on (wpList_load_blk rfl 30 (.tmp 8) rfl g7 rfl (exC (.slice (some ⟨w5.heap.size, 0, none⟩) q q)) _ HBK7.out Try.underlying30 rfl HI7.out ?_)
    generalize exC (.slice (some ⟨w5.heap.size, 0, none⟩) q q) = cs1 at HR7
    clear HI7 HBK7 HONE7
    have hql : (List.replicate q (0 : Int)).length = q := List.length_replicate
    have hble := exileS_len (List.replicate q (0 : Int)) (by omega)
    have HOK := Lib.hid (fun h : q ≤ 4096 => exileS_ok (List.replicate q (0 : Int)) (by omega) (fun x hx => by rw [List.mem_replicate] at hx; rw [hx.2]; unfold In64; omega))
    have HER := Lib.hid (fun h : 4096 < q => exileS_err (List.replicate q (0 : Int)) (by omega) (by omega))
    generalize List.replicate q (0 : Int) = l at HR7 hql hble HOK HER
    go_wp2_with (go_at_call 16; refine halt_here ?_)
    refine go_on ((Encode_any cs1 _ w7 HR7.out (by omega)).mono ?_)
    rintro e w8 ⟨a8, n8, c8, rfl, hc, hn, hnil, hcap8, hb8⟩
    have hn8 : n8 ≤ 17000000000000 := by omega
    have HC := Lib.hid hc
    have HN := Lib.hid hn
    have HNI := Lib.hid hnil
    have HB8 := Lib.hid (HB7.out.trans (hb8.mono HB7.out.size))
    clear hc hn hnil hb8 HR7 HB7 hble
    go_wp2_with (go_at_call 17; refine halt_here ?_)
    refine go_on ((Decode_any a8 n8 c8 _ w8 HC.out HNI.out HN.out (by omega)).mono ?_)
    rintro e w9 hd
    obtain ⟨us9, c9, rfl, hus, hone, hb9, her, hok⟩ := hd.any
    have HC9 : Hid ((m ≤ 2 → c9 = 0) ∧ (2 < m → c9 = 2)) := by
      have hqq := HQ.out
      refine Lib.hid ⟨fun h => hok ?_, fun h => her 2 (HER.out (by omega))⟩
      have := backRow stateS _ [] (HOK.out (by omega))
      rw [List.append_nil] at this
      rw [this]
    have HB9 := Lib.hid ((HB8.out.trans (hb9.mono HB8.out.size)).alloc (Nat.le_trans HB8.out.size hb9.size) (.cells us9 30))
    have HUS := Lib.hid (show (Try.prog.info? 30).map (·.size) = some us9.size by rw [hus]; exact size30)
    have HONE := Lib.hid hone
    have HUZ9 := Lib.hid hus
    clear hd hus hone hb9 her hok HC HN HNI HB8 HOK HER
    go_wp2_with (with_reducible refine wpList_halt_store 30 _ _ ?_)
    refine go_on (wpList_store_new rfl 30 (.tmp 9) (.tmp 37) rfl _ us9 rfl rfl HUS.out (by rw [HUZ9.out]; rfl) HONE.out ?_)
    generalize w9.alloc (.cells us9 30) = w10 at HB9
    clear HUS HONE HUZ HUZ9 HQ hqw hqm
    have HM : Hid (m ≤ 2 ∧ c9 = 0 ∨ 2 < m ∧ c9 = 2) := by
      obtain ⟨h1, h2⟩ := HC9.out
      exact Lib.hid (by by_cases h : m ≤ 2; exact .inl ⟨h, h1 h⟩; exact .inr ⟨by omega, h2 (by omega)⟩)
    have HX : Hid (x1.size ≤ 32 ∧ c4 = 0 ∨ 32 < x1.size ∧ c4 = 2) := by
      obtain ⟨h1, h2⟩ := HC4.out
      exact Lib.hid (by by_cases h : x1.size ≤ 32; exact .inl ⟨h, h1 h⟩; exact .inr ⟨by omega, h2 (by omega)⟩)
    clear HC9 HC4
    rcases HX.out with ⟨hx, rfl⟩ | ⟨hx, rfl⟩ <;> rcases HM.out with ⟨hm, rfl⟩ | ⟨hm, rfl⟩
    all_goals
      clear HX HM
      go_wp2_with (go_at_call 15; refine halt_here ?_)
      refine go_on ((palive_any w10).mono ?_)
      rintro e w11 ⟨rfl, hb11⟩
      have HB11 := Lib.hid (HB9.out.trans (hb11.mono HB9.out.size))
      clear hb11
      go_wp2_with fail
      go_ret
      refine ⟨congrArg (fun b => Ending.returned (Value.bool b)) ?_, HB11.out⟩
      simp
      omega

/-! ### the row -/
set_option maxRecDepth 100000 in
theorem lifted (os : Os) (started : os.Started) (H : Type) (enc : TypeId × Value → H) :
    ReturnsInHanded {} Try.checked os 4 .any (Rows.packLongSpec.pre6 enc Try.prog Try.f4 Rows.packLongRow.domain false) (Rows.packLongSpec.post enc Try.prog Try.f4 false true false false) := by
  refine returnsInHanded_of_change_sized (C := Try.checked) own_knob started (by kernel_rfl) Try.func4
    (ChangeSpec.witness6 (enc := enc) (C := Try.checked) false ⟨#[], #[.int .u8 0, .string ByteArray.empty], []⟩ 8 (by kernel_rfl) (by kernel_rfl) (by kernel_rfl) (by kernel_rfl)) ?_
  intro W base args ds gs before hval0 hW hcnd hsz0 _
  have hsz : (DataW.weightsEach Try.prog (Try.f4.params.toList ++ Rows.packLongSpec.plain.varTypes Try.prog) (ds ++ gs)).all (· ≤ reachBytes) = true := hsz0
  clear hsz0
  have hval : ∀ (j : Nat) t v, Try.f4.params[j]? = some t → args[j]? = some v → Value.okWide Try.prog W .any base t v := hval0
  have hW' := hW
  obtain ⟨p, q, hA0, hV, rfl, hfz, hnd⟩ := hW
  have hA : DataW.TrodAll enc Try.prog W 0 (fun _ => true) true Try.f4.params.toList args.toList ds p := hA0
  rw [Try.params4] at hA hval hsz
  obtain ⟨v0, vs0, d0, ds0, p0, q0, hargs, rfl, rfl, h0, r0⟩ := trodAll_cons hA
  obtain ⟨v1, vs1, d1, ds1, p1, q1, rfl, rfl, rfl, h1, r1⟩ := trodAll_cons r0
  obtain ⟨rfl, rfl, rfl⟩ := trodAll_nil r1
  obtain rfl : args = #[v0, v1] := by cases args; simp_all
  obtain ⟨rfl, rfl⟩ := trodVars_none hV
  have k0 := h0
  have lt0 : ∀ x ∈ p0, x.block < W.heap.size := by obtain ⟨m, hm⟩ := k0; exact DataW.trod_lt m _ _ _ hm
  obtain ⟨x0, rfl, rfl, rfl, w0⟩ := open_int Try.underlying5 (hval 0 5 v0 rfl rfl) h0
  have k1 := h1
  have lt1 : ∀ x ∈ p1, x.block < W.heap.size := by obtain ⟨m, hm⟩ := k1; exact DataW.trod_lt m _ _ _ hm
  obtain ⟨x1, rfl, rfl, rfl, w1⟩ := open_string Try.underlying9 (hval 1 9 v1 rfl rfl) h1
  clear hA0 hval0
  refine (walk x0 x1 W w0 w1).mono fun e W' ⟨he, bel⟩ => ?_
  subst he
  exact ⟨_, rfl, _, _, _, [], _, [], hW', trodAll_mk1 (shut_bool Try.underlying4 _), (trodAll_cons_mk (shut_int Try.underlying5 w0) (trodAll_cons_mk (shut_string Try.underlying9 w1) trodAll_mk0)), rfl, bel.frame _, fun h => by cases h⟩

theorem over : Rows.packLongRow.holds Try.pinned (OpenSpec.ofChange Rows.packLongSpec) :=
  OpenClaim.holds_of_wide 4 Try.f4 rfl rfl rfl rfl rfl rfl rfl ⟨rfl, rfl, rfl, rfl, rfl⟩ rfl rfl rfl rfl rfl (by kernel_rfl) Try.func4 (by kernel_rfl)
    (of_decide_eq_true (by kernel_rfl)) (by unfold Func.isWrapper; first | (rw [if_pos (by decide +kernel)]; kernel_rfl) | (rw [if_neg (by decide +kernel)]; exact ⟨rfl, rfl⟩))
    (fun os started H enc _ => lifted os started H enc)

theorem proved : Rows.PackLongSaid := over
#print axioms proved
end Go.Proofs.Ytbcpdjhpceimlaa.packLong
