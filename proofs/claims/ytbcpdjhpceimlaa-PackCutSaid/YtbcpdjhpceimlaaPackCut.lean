/-
  A proper prefix of an encoding of a small state is too short, and one byte more is too many; the chapter's examples hold; no condition.
-/
import Derived.Test.YtbcpdjhpceimlaaRows
import Derived.SizedLaws
import Derived.Test.YtbcpdjhpceimlaaPLib
import Derived.Test.YtbcpdjhpceimlaaSch
import Derived.WalkKit
import Derived.ProofKit
import Derived.OpenShut
import Derived.ShutString
import Derived.ChangeOld
import Derived.Below
namespace Go.Proofs.Ytbcpdjhpceimlaa.packCut
open Go.ChangeShapes Go.WideShapes Go.ChangeAt Go.RowKit Go.Deep
open Go.ChangeMaps (open_string shut_string)
set_option linter.unusedVariables false

theorem own_knob : ownKnob Try.prog.godebug = none := by kernel_rfl
theorem laidOut : laidOutB Try.prog = true := by kernel_rfl

/-! ### the walk -/
set_option maxRecDepth 100000 in
set_option maxHeartbeats 4000000 in
theorem walk (cs0 : Array Value) (x0 : List V) (x1 : Int) (x2 : Int) (w : World) (w0 : RowRep (Old w) w stateS x0 cs0.toList) (w1 : (Lit.int .u16 x1).wf = true) (w2 : (Lit.int .u8 x2).wf = true) :
    Calls Try.prog 3 #[.agg cs0, .int .u16 x1, .int .u8 x2] w fun e w' => e = .returned (.bool true) ∧ Below w.heap.size w w' := by
  have hsz := row_size w0
  obtain ⟨i0, hi, hz0, hz1, hz2⟩ := info_parts info5
  obtain ⟨k1, rfl, hk1⟩ : ∃ k : Nat, x1 = (k : Int) ∧ k < 65536 := by
    have h := bounds_u16 w1
    exact ⟨x1.toNat, by omega, by omega⟩
  obtain ⟨k2, rfl, hk2⟩ : ∃ k : UInt8, x2 = (k.toNat : Int) ∧ True := by
    obtain ⟨bs, hl, he⟩ := bytes_of [x2] (fun n hn => by simp at hn; subst hn; exact w2)
    match bs, hl with
    | [b], _ => simp [bc] at he; exact ⟨b, he, trivial⟩
  have HR := Lib.hid w0
  have HSZ := Lib.hid hsz
  have HI := Lib.hid (show (Try.prog.info? 30).map (·.size) = some cs0.size by rw [hsz]; exact size30)
  have HBK := Lib.hid (heap_alloc_new w (.cells cs0 30))
  have HB1 := Lib.hid (show Below w.heap.size w (w.alloc (.cells cs0 30)) from (Below.refl _ _).alloc (Nat.le_refl _) _)
  clear w0 w1 w2 hk2 hsz
  go_enter Try.func3, Try.ntmps3
  go_wp2_with (with_reducible refine wpList_halt_load 30 _ ?_)
  refine go_on (wpList_load_blk rfl 30 (.tmp 3) rfl w.heap.size rfl cs0 _ HBK.out Try.underlying30 rfl HI.out ?_)
  go_wp2_with (go_at_call 14; refine halt_here ?_)
  refine go_on ((few_any 32 cs0 x0 _ (by omega) (HR.out.later HB1.out)).mono ?_)
  rintro e w2 ⟨hb2, b, rfl, hf⟩
  have HBK2 := Lib.hid (show w2.heap[w.heap.size]? = some (.cells cs0 30 (0, 0)) by rw [hb2.block _ (blk_lt HBK.out)]; exact HBK.out)
  have HB2 := Lib.hid (HB1.out.trans (hb2.mono HB1.out.size))
  have HF := Lib.hid hf
  clear hb2 hf HB1 HBK
  cases b with
  | false =>
    go_wp2_with (go_at_call 15; refine halt_here ?_)
    refine go_on ((palive_any w2).mono ?_)
    rintro e w3 ⟨rfl, hb3⟩
    have HB3 := Lib.hid (HB2.out.trans (hb3.mono HB2.out.size))
    clear hb3
    go_wp2_with fail
    go_ret
    exact ⟨rfl, HB3.out⟩
  | true =>
    have hfr := HF.out rfl
    have hble := Nat.le_trans (bndRow_le 32 100 stateS x0 hfr) bnd_state32
    have hpos := encRow_pos HR.out.1 (by rw [len_stateS]; omega)
    have HOK := Lib.hid (few_okRow stateS x0 hfr)
    have HBL := Lib.hid hble
    have HPO := Lib.hid hpos
    clear hfr HF
    go_wp2_with (with_reducible refine wpList_halt_load 30 _ ?_)
    refine go_on (wpList_load_blk rfl 30 (.tmp 3) rfl w.heap.size rfl cs0 _ HBK2.out Try.underlying30 rfl HI.out ?_)
    go_wp2_with (go_at_call 16; refine halt_here ?_)
    refine go_on ((Encode_any cs0 x0 w2 (HR.out.later HB2.out) (by omega)).mono ?_)
    rintro e w3 ⟨a, n, c, rfl, hc, hn, hnil, hcap, hb3⟩
    have hn0 : 0 < n := by omega
    have hn1 : n ≤ 17000000000000 := by omega
    obtain ⟨g, o, rfl, -⟩ := hc.pos (by rw [bc_length]; omega)
    have HC := Lib.hid hc
    have HN := Lib.hid hn
    have HB3 := Lib.hid (HB2.out.trans (hb3.mono HB2.out.size))
    obtain ⟨m, hm⟩ : ∃ m, k1 % n = m := ⟨_, rfl⟩
    have hml : m < n := by rw [← hm]; exact Nat.mod_lt _ hn0
    have hmm : Int.tmod (k1 : Int) (n : Int) = (m : Int) := by rw [← hm]; rfl
    clear hc hn hnil hb3 hm hble hpos HB2 HBK2
    go_wp2_with (go_at_call 17; refine halt_here ?_)
    refine go_on ((Decode_any (some ⟨g, o, none⟩) m c ((encRow x0).take m) w3 (HC.out.take_bc m) (fun h => by cases h) (by rw [List.length_take, HN.out]; omega) (by omega)).mono ?_)
    rintro e w4 hd
    obtain ⟨rfl, hb4⟩ := hd.err (cutRow stateS x0 m HOK.out (by rw [HN.out]; exact hml))
    have HC4 := Lib.hid ((HC.out.below hb4).below (show Below w4.heap.size w4 (w4.alloc (.cells zeroS 30)) from (Below.refl _ _).alloc (Nat.le_refl _) _))
    have HB4 := Lib.hid ((HB3.out.trans (hb4.mono HB3.out.size)).alloc (Nat.le_trans HB3.out.size hb4.size) (.cells zeroS 30))
    clear hd hb4 HC HB3
    go_wp2_with (with_reducible refine wpList_halt_store 30 _ _ ?_)
    refine go_on (wpList_store_new rfl 30 (.tmp 8) (.tmp 31) rfl _ zeroS rfl rfl size_zeroS rfl one_zeroS ?_)
    generalize w4.alloc (.cells zeroS 30) = w5 at HC4 HB4
    go_wp2_with (at_builtin; refine wpList_wp rfl (fun K hK => ?_); refine halt_here ?_)
    refine go_on (wp_append (.tmp 33) (.tmp 34) 34 rfl w.heap.size 5 i0 (.int .u8 0) 1 1 Try.underlying34 hi hz0 hz1 hz2 rfl (by decide) _ 0 [] rfl ⟨rfl, .inl ⟨rfl, rfl⟩⟩ _ n (bc (encRow x0)) rfl ⟨_, _, rfl, HC4.out⟩ (fun cap hc => by cases hc) (by rw [bc_length, HN.out]; omega) (one_bc _) (by unfold maxLen; omega) (by omega) HB4.out.size ?_)
    intro v1 w6 hown1 hgr1
    rw [List.nil_append, Nat.zero_add] at hown1
    have HOW := Lib.hid hown1
    have HB6 := Lib.hid (HB4.out.grown hgr1 HB4.out.size (fun k hk => by cases hk))
    clear hown1 hgr1 HB4 HC4
    refine hK _ _ ?_
    clear hK K
    go_wp2_with (at_builtin; refine wpList_wp rfl (fun K hK => ?_); refine halt_here ?_)
    refine go_on (wp_append (.tmp 36) (.tmp 38) 34 rfl w.heap.size 5 i0 (.int .u8 0) 1 1 Try.underlying34 hi hz0 hz1 hz2 rfl (by decide) _ n (bc (encRow x0)) rfl (HOW.out.alloc _) _ 1 [.int .u8 (k2.toNat : Int)] rfl ⟨_, _, rfl, cells_one w6 _ 5⟩ (fun cap hc => by cases hc) rfl (one_of rfl) (by unfold maxLen; omega) (by omega) (size_alloc_le _ _ HB6.out.size) ?_)
    intro v2 w7 hown2 hgr2
    rw [show bc (encRow x0) ++ [Value.int .u8 (k2.toNat : Int)] = bc (encRow x0 ++ [k2]) by rw [bc_append]; rfl, show n + 1 = (encRow x0 ++ [k2]).length by rw [List.length_append, HN.out]; rfl] at hown2
    have HB7 := Lib.hid ((HB6.out.alloc HB6.out.size _).grown hgr2 (size_alloc_le _ _ HB6.out.size) (fun k hk => (HOW.out.lt k hk).1))
    obtain ⟨a7, n7, c7, rfl, hl7, hc7, hn7⟩ := own_open hown2
    have HC7 := Lib.hid hc7
    have HL7 := Lib.hid hl7
    have HN7 := Lib.hid hn7
    have h7 : n7 ≤ 17592186044415 := by rw [← hl7, List.length_append, HN.out]; simp only [List.length_cons, List.length_nil]; omega
    clear hown2 hgr2 hc7 hl7 hn7 HOW HB6
    refine hK _ _ ?_
    clear hK K
    go_wp2_with (go_at_call 17; refine halt_here ?_)
    refine go_on ((Decode_any a7 n7 c7 (encRow x0 ++ [k2]) w7 HC7.out HN7.out HL7.out h7).mono ?_)
    rintro e w8 hd
    obtain ⟨rfl, hb8⟩ := hd.long (r := [k2]) (by rw [backRow stateS x0 [k2] HOK.out]) (by simp)
    have HB8 := Lib.hid ((HB7.out.trans (hb8.mono HB7.out.size)).alloc (Nat.le_trans HB7.out.size hb8.size) (.cells zeroS 30))
    clear hd hb8 HC7 HB7
    go_wp2_with (with_reducible refine wpList_halt_store 30 _ _ ?_)
    refine go_on (wpList_store_new rfl 30 (.tmp 11) (.tmp 43) rfl _ zeroS rfl rfl size_zeroS rfl one_zeroS ?_)
    generalize w8.alloc (.cells zeroS 30) = w9 at HB8
    go_wp2_with (go_at_call 15; refine halt_here ?_)
    refine go_on ((palive_any w9).mono ?_)
    rintro e w10 ⟨rfl, hb10⟩
    have HB10 := Lib.hid (HB8.out.trans (hb10.mono HB8.out.size))
    clear hb10
    go_wp2_with fail
    go_ret
    exact ⟨rfl, HB10.out⟩

/-! ### the row -/
set_option maxRecDepth 100000 in
theorem lifted (os : Os) (started : os.Started) (H : Type) (enc : TypeId × Value → H) :
    ReturnsInHanded {} Try.checked os 3 .any (Rows.packCutSpec.pre6 enc Try.prog Try.f3 Rows.packCutRow.domain false) (Rows.packCutSpec.post enc Try.prog Try.f3 false true false false) := by
  refine returnsInHanded_of_change_sized (C := Try.checked) own_knob started (by kernel_rfl) Try.func3
    (ChangeSpec.witness6 (enc := enc) (C := Try.checked) false ⟨#[], #[.agg #[.slice none 0 0, .slice none 0 0, .slice none 0 0, .slice none 0 0, .slice none 0 0, .slice none 0 0, .slice none 0 0, .int .i64 0, .int .i64 0, .int .i64 0, .bool false, .int .i64 0, .int .i64 0, .int .i64 0, .int .i64 0, .int .u64 0, .slice none 0 0, .int .i64 0, .int .i64 0], .int .u16 0, .int .u8 0], []⟩ 8 (by kernel_rfl) (by kernel_rfl) (by kernel_rfl) (by kernel_rfl)) ?_
  intro W base args ds gs before hval0 hW hcnd hsz0 _
  have hsz : (DataW.weightsEach Try.prog (Try.f3.params.toList ++ Rows.packCutSpec.plain.varTypes Try.prog) (ds ++ gs)).all (· ≤ reachBytes) = true := hsz0
  clear hsz0
  have hval : ∀ (j : Nat) t v, Try.f3.params[j]? = some t → args[j]? = some v → Value.okWide Try.prog W .any base t v := hval0
  have hW' := hW
  obtain ⟨p, q, hA0, hV, rfl, hfz, hnd⟩ := hW
  have hA : DataW.TrodAll enc Try.prog W 0 (fun _ => true) true Try.f3.params.toList args.toList ds p := hA0
  rw [Try.params3] at hA hval hsz
  obtain ⟨v0, vs0, d0, ds0, p0, q0, hargs, rfl, rfl, h0, r0⟩ := trodAll_cons hA
  obtain ⟨v1, vs1, d1, ds1, p1, q1, rfl, rfl, rfl, h1, r1⟩ := trodAll_cons r0
  obtain ⟨v2, vs2, d2, ds2, p2, q2, rfl, rfl, rfl, h2, r2⟩ := trodAll_cons r1
  obtain ⟨rfl, rfl, rfl⟩ := trodAll_nil r2
  obtain rfl : args = #[v0, v1, v2] := by cases args; simp_all
  obtain ⟨rfl, rfl⟩ := trodVars_none hV
  have k0 := h0
  have lt0 : ∀ x ∈ p0, x.block < W.heap.size := by obtain ⟨m, hm⟩ := k0; exact DataW.trod_lt m _ _ _ hm
  obtain ⟨cs0, rfl, hc0⟩ := okWide_struct Try.underlying30 (hval 0 30 v0 rfl rfl)
  obtain ⟨x0, w0⟩ : ∃ x, RowRep (Old W) W stateS x cs0.toList := by
    obtain ⟨fuel, hf⟩ := h0
    obtain ⟨v, hv, hvl⟩ := flat_rep 40 30 stateS (by kernel_rfl) _ _ _ hf
    exact ⟨v, hv⟩
  have k1 := h1
  have lt1 : ∀ x ∈ p1, x.block < W.heap.size := by obtain ⟨m, hm⟩ := k1; exact DataW.trod_lt m _ _ _ hm
  obtain ⟨x1, rfl, rfl, rfl, w1⟩ := open_int Try.underlying31 (hval 1 31 v1 rfl rfl) h1
  have k2 := h2
  have lt2 : ∀ x ∈ p2, x.block < W.heap.size := by obtain ⟨m, hm⟩ := k2; exact DataW.trod_lt m _ _ _ hm
  obtain ⟨x2, rfl, rfl, rfl, w2⟩ := open_int Try.underlying5 (hval 2 5 v2 rfl rfl) h2
  clear hA0 hval0
  refine (walk cs0 x0 x1 x2 W w0 w1 w2).mono fun e W' ⟨he, bel⟩ => ?_
  subst he
  exact ⟨_, rfl, _, _, _, [], _, [], hW', trodAll_mk1 (shut_bool Try.underlying4 _), (trodAll_cons_mk (Below.trod laidOut (by kernel_rfl) (of_decide_eq_true (by kernel_rfl)) k0 bel lt0) (trodAll_cons_mk (shut_int Try.underlying31 w1) (trodAll_cons_mk (shut_int Try.underlying5 w2) trodAll_mk0))), rfl, bel.frame _, fun h => by cases h⟩

theorem over : Rows.packCutRow.holds Try.pinned (OpenSpec.ofChange Rows.packCutSpec) :=
  OpenClaim.holds_of_wide 3 Try.f3 rfl rfl rfl rfl rfl rfl rfl ⟨rfl, rfl, rfl, rfl, rfl⟩ rfl rfl rfl rfl rfl (by kernel_rfl) Try.func3 (by kernel_rfl)
    (of_decide_eq_true (by kernel_rfl)) (by unfold Func.isWrapper; first | (rw [if_pos (by decide +kernel)]; kernel_rfl) | (rw [if_neg (by decide +kernel)]; exact ⟨rfl, rfl⟩))
    (fun os started H enc _ => lifted os started H enc)

theorem proved : Rows.PackCutSaid := over
#print axioms proved
end Go.Proofs.Ytbcpdjhpceimlaa.packCut
