/-
  The contracts of the reading functions of layer 4, the program's, on: New, Uint, Int, Bool, Left, Err.
-/
import Derived.Test.YtbcpdjhpceimlaaGet
import Derived.Lib.AppendStr
namespace Go.Proofs.Ytbcpdjhpceimlaa
open Go.ChangeShapes Go.WideShapes Go.ChangeAt Go.RowKit

theorem own_nil {w : World} {base e size n c m : Nat} {a : Option Addr} {xs : List Value} (h : w.ownsRow base e size (.slice a n c) m xs) : a = none → n = 0 ∧ c = 0 := by
  intro ha
  subst ha
  rcases h.2 with ⟨h1, _⟩ | ⟨g, cap, cur, h1, _⟩
  · injection h1 with _ h2 h3
    exact ⟨h2, h3⟩
  · injection h1 with h2
    cases h2

theorem own_cap {w : World} {base e size n c m : Nat} {a : Option Addr} {xs : List Value} (h : w.ownsRow base e size (.slice a n c) m xs) : n ≤ c := by
  rcases h.2 with ⟨h1, _⟩ | ⟨g, cap, cur, h1, _, _, h2, _⟩
  · injection h1 with _ h2 h3
    omega
  · injection h1 with _ h3 h4
    omega

theorem stOf_ok (bs : Bytes) (k : Nat) : stOf bs k 0 = .ok (bs.drop k) := rfl
theorem stOf_er (bs : Bytes) (k e : Nat) (h : e ≠ 0) : stOf bs k e = .error e := if_neg h
theorem num_pos {bs : Bytes} {i a c : Nat} (h : num i a bs = .error c) : c ≠ 0 := by
  have := num_code bs i a c h
  omega

/-- What a reading function leaves. -/
def Left' (T : TypeId) (w w' : World) (R : Nat) (a : Option Addr) (n c : Nat) (bs : Bytes) (st : St) : Prop :=
  ∃ at2 e2, RdrAt T w' R a n c bs at2 e2 ∧ stOf bs at2 e2 = st ∧ w.grownBy w' (some R)

set_option maxRecDepth 100000 in
set_option maxHeartbeats 2000000 in
theorem Uint_any (R : Nat) (a : Option Addr) (n c : Nat) (bs : Bytes) (at' e most : Nat) (w : World) (h : RdrAt 109 w R a n c bs at' e) :
    Calls Try.prog 19 #[.pointer (some ⟨R, 0, none⟩), .int .u64 (most : Int)] w fun x w' => x = .returned (.int .u64 ((uS most (stOf bs at' e)).1 : Nat)) ∧ Left' 109 w w' R a n c bs (uS most (stOf bs at' e)).2 := by
  have H := Lib.hid h
  have hc2 := h.c2
  clear h
  by_cases he : e = 0
  · subst he
    go_enter Try.func19, Try.ntmps19
    go_wp2_with (go_at_call 43; refine halt_here ?_)
    refine go_on ((number_any R a n c bs at' w H.out).mono ?_)
    rintro x w1 ⟨v, at2, e2, rfl, HR, hg, hcase⟩
    have HR := Lib.hid HR
    have hd2 := HR.out.c2
    have hfr2 := HR.out.fr
    have HG := Lib.hid hg
    clear hc2 hg
    rcases hcase with ⟨hok, rfl⟩ | ⟨her, rfl⟩
    · by_cases hv : most < v
      · have HU := Lib.hid (show uS most (stOf bs at' 0) = (0, .error 2) by rw [stOf_ok, uS, hok]; exact if_pos hv)
        have p1 : decide (most < v) = true := by simp; omega
        clear hok
        go_wp2_with (go_at_call 44; refine halt_here ?_)
        refine go_on ((fails_any R a n c bs at2 0 2 w1 HR.out).mono ?_)
        rintro x w2 ⟨rfl, HR2, hg2⟩
        have HR2 := Lib.hid HR2
        have hf2 := HR2.out.c2
        have HG2 := Lib.hid hg2
        clear hd2 hfr2 hg2
        go_wp2_with fail
        go_ret
        rw [HU.out]
        exact ⟨rfl, at2, 2, HR2.out, rfl, HG.out.trans HG2.out⟩
      · have HU := Lib.hid (show uS most (stOf bs at' 0) = (v, .ok (bs.drop at2)) by rw [stOf_ok, uS, hok]; exact if_neg hv)
        have p1 : decide (most < v) = false := by simp; omega
        clear hok
        go_wp2_with fail
        go_ret
        rw [HU.out]
        exact ⟨rfl, at2, 0, HR.out, rfl, HG.out⟩
    · have HU := Lib.hid (show uS most (stOf bs at' 0) = (0, .error e2) by rw [stOf_ok, uS, her])
      have hne := num_pos her
      have p1 : ((e2 : Int) == 0) = false := by simp; omega
      have HN := Lib.hid hne
      clear her hne
      go_wp2_with fail
      go_ret
      rw [HU.out]
      exact ⟨rfl, at2, e2, HR.out, stOf_er _ _ _ HN.out, HG.out⟩
  · have HU := Lib.hid (show uS most (stOf bs at' e) = (0, .error e) by rw [stOf_er _ _ _ he]; rfl)
    have p1 : ((e : Int) == 0) = false := by simp; omega
    have HN := Lib.hid he
    clear he
    go_enter Try.func19, Try.ntmps19
    go_wp2_with fail
    go_ret
    rw [HU.out]
    exact ⟨rfl, at', e, H.out, stOf_er _ _ _ HN.out, World.grownBy.refl _ _⟩

theorem wrapM (n : Nat) (h : n < 9223372036854775808) : IntKind.i64.wrap (n : Int) = (n : Int) := wrapI _ (by omega) (by omega)

set_option maxRecDepth 100000 in
set_option maxHeartbeats 2000000 in
theorem Int_any (R : Nat) (a : Option Addr) (n c : Nat) (bs : Bytes) (at' e : Nat) (w : World) (h : RdrAt 109 w R a n c bs at' e) :
    Calls Try.prog 20 #[.pointer (some ⟨R, 0, none⟩)] w fun x w' => x = .returned (.int .i64 (iS (stOf bs at' e)).1) ∧ Left' 109 w w' R a n c bs (iS (stOf bs at' e)).2 := by
  have H := Lib.hid h
  clear h
  go_enter Try.func20, Try.ntmps20
  go_wp2_with (go_at_call 19; refine halt_here ?_)
  refine go_on ((Uint_any R a n c bs at' e 18446744073709551615 w H.out).mono ?_)
  rintro x w1 ⟨rfl, HL⟩
  have HL := Lib.hid HL
  have hbd := uS_bd 18446744073709551615 (stOf bs at' e)
  have HI := Lib.hid (show (iS (stOf bs at' e)).1 = unzz (uS 18446744073709551615 (stOf bs at' e)).1 from rfl)
  have HI2 := Lib.hid (show (iS (stOf bs at' e)).2 = (uS 18446744073709551615 (stOf bs at' e)).2 from rfl)
  generalize (uS 18446744073709551615 (stOf bs at' e)).1 = v at HI hbd
  generalize (uS 18446744073709551615 (stOf bs at' e)).2 = st at HI2 HL
  by_cases hv : v % 2 = 1
  · have HZ := Lib.hid (show unzz v = -((v / 2 : Nat) : Int) - 1 by rw [unzz, if_pos hv])
    have p1 : ((v : Int) % 2 == 1) = true := by simp; omega
    have p2 : (v % 2 == 1) = true := by simp; omega
    go_wp2_with fail
    go_ret
    rw [HI.out, HI2.out, HZ.out]
    refine ⟨ret1 ?_, HL.out⟩
    show Value.int .i64 (-((v : Int) / 2) - 1) = _
    rw [show ((v / 2 : Nat) : Int) = (v : Int) / 2 by omega]
  · have HZ := Lib.hid (show unzz v = ((v / 2 : Nat) : Int) by rw [unzz, if_neg hv])
    have p1 : ((v : Int) % 2 == 1) = false := by simp; omega
    have p2 : (v % 2 == 1) = false := by simp; omega
    go_wp2_with fail
    go_ret
    rw [HI.out, HI2.out, HZ.out]
    refine ⟨ret1 ?_, HL.out⟩
    show Value.int .i64 ((v : Int) / 2) = _
    rw [show ((v / 2 : Nat) : Int) = (v : Int) / 2 by omega]

set_option maxRecDepth 100000 in
theorem Bool_any (R : Nat) (a : Option Addr) (n c : Nat) (bs : Bytes) (at' e : Nat) (w : World) (h : RdrAt 109 w R a n c bs at' e) :
    Calls Try.prog 31 #[.pointer (some ⟨R, 0, none⟩)] w fun x w' => x = .returned (.bool (bS (stOf bs at' e)).1) ∧ Left' 109 w w' R a n c bs (bS (stOf bs at' e)).2 := by
  have H := Lib.hid h
  clear h
  go_enter Try.func31, Try.ntmps31
  go_wp2_with (go_at_call 19; refine halt_here ?_)
  refine go_on ((Uint_any R a n c bs at' e 1 w H.out).mono ?_)
  rintro x w1 ⟨rfl, HL⟩
  have HL := Lib.hid HL
  have HI := Lib.hid (show (bS (stOf bs at' e)).1 = decide ((uS 1 (stOf bs at' e)).1 = 1) from rfl)
  have HI2 := Lib.hid (show (bS (stOf bs at' e)).2 = (uS 1 (stOf bs at' e)).2 from rfl)
  generalize (uS 1 (stOf bs at' e)).1 = v at HI
  generalize (uS 1 (stOf bs at' e)).2 = st at HI2 HL
  go_wp2_with fail
  go_ret
  rw [HI.out, HI2.out]
  refine ⟨ret1 ?_, HL.out⟩
  show Value.bool ((v : Int) == 1) = _
  congr 1
  by_cases hv : v = 1
  · subst hv; rfl
  · rw [decide_eq_false hv]; simp; omega

set_option maxRecDepth 100000 in
theorem Err_any (R : Nat) (a : Option Addr) (n c : Nat) (bs : Bytes) (at' e : Nat) (w : World) (h : RdrAt 109 w R a n c bs at' e) :
    Calls Try.prog 21 #[.pointer (some ⟨R, 0, none⟩)] w fun x w' => x = .returned (.int .i64 (e : Int)) ∧ w = w' := by
  have hc2 := h.c2
  clear h
  go_enter Try.func21, Try.ntmps21
  go_wp2_with fail
  go_ret
  exact ⟨rfl, rfl⟩

theorem Err_nil (w : World) :
    Calls Try.prog 21 #[.pointer none] w fun x w' => x = .returned (.int .i64 1) ∧ w = w' := by
  go_enter Try.func21, Try.ntmps21
  go_wp2_with fail
  go_ret
  exact ⟨rfl, rfl⟩

/-- The number of bytes left. -/
def leftS : St → Nat
  | .ok r => r.length
  | .error _ => 0

set_option maxRecDepth 100000 in
theorem Left_any (R : Nat) (a : Option Addr) (n c : Nat) (bs : Bytes) (at' e : Nat) (w : World) (h : RdrAt 109 w R a n c bs at' e) :
    Calls Try.prog 23 #[.pointer (some ⟨R, 0, none⟩)] w fun x w' => x = .returned (.int .i64 (leftS (stOf bs at' e) : Nat)) ∧ w.grownBy w' (some R) ∧ RdrAt 109 w' R a n c bs at' e := by
  have H := Lib.hid h
  have hc0 := h.c0
  have hc1 := h.c1
  have hc2 := h.c2
  have hA := h.le
  have hB := h.bd
  have HLN := Lib.hid h.len
  clear h
  by_cases he : e = 0
  · subst he
    have HU := Lib.hid (show leftS (stOf bs at' 0) = n - at' by rw [stOf_ok, leftS, List.length_drop, HLN.out])
    go_enter Try.func23, Try.ntmps23
    go_wp2_with fail
    refine wp_region_plan [(0, none), (1, none), (2, none), (3, some none), (4, none), (5, none), (6, none), (7, none), (8, some none), (9, none), (10, none)] (by kernel_rfl) (by kernel_rfl) ?_
    repeat (first | (refine plan_free (v := ?_) rfl rfl (fun _ => ?_) (fun K hK => ?_); rotate_left 1; (focus (go_simp <;> exact rfl)); go_simp; refine hK _ _ ?_; clear hK K) | (refine plan_held (v := ?_) rfl rfl ?_ (fun K hK => ?_); rotate_left 1; (focus (go_simp <;> exact rfl)); go_simp; refine hK _ _ ?_; clear hK K))
    refine plan_nil ?_
    go_wp2_with fail
    go_ret
    rw [HU.out]
    refine ⟨ret1 ?_, g_drew (World.grownBy.refl _ _), H.out.drew⟩
    show Value.int .i64 (IntKind.i64.wrap ((n : Int) - (at' : Int))) = _
    rw [wrapI _ (by omega) (by omega)]
    congr 1
    omega
  · have HU := Lib.hid (show leftS (stOf bs at' e) = 0 by rw [stOf_er _ _ _ he]; rfl)
    have p1 : ((e : Int) == 0) = false := by simp; omega
    clear he
    go_enter Try.func23, Try.ntmps23
    go_wp2_with fail
    go_ret
    rw [HU.out]
    exact ⟨rfl, World.grownBy.refl _ _, H.out⟩

set_option maxRecDepth 100000 in
set_option maxHeartbeats 1000000 in
theorem New_any (a : Option Addr) (n c : Nat) (bs : Bytes) (w : World) (h : CellsAt w a (bc bs)) (hnil : a = none → n = 0 ∧ c = 0) (hl : bs.length = n) (hb : n ≤ 140737488355328) :
    Calls Try.prog 18 #[.slice a n c] w fun x w' => ∃ R a2 c2, x = .returned (.pointer (some ⟨R, 0, none⟩)) ∧ w.heap.size ≤ R ∧ RdrAt 109 w' R a2 n c2 bs 0 0 ∧ Below w.heap.size w w' := by
  have H := Lib.hid h
  have HN := Lib.hid hnil
  have HL := Lib.hid hl
  clear h hnil hl
  go_enter Try.func18, Try.ntmps18
  go_wp2_with (go_at_call 42; refine halt_here ?_)
  refine go_on ((clone8 a n c bs w H.out HN.out HL.out hb).mono ?_)
  rintro e w1 ⟨v0, rfl, how, hbel⟩
  have hlt := fun k hk => (how.lt k hk).2
  obtain ⟨a2, c2, rfl, hcells⟩ := ownsRow_rd how
  have HOC := Lib.hid (own_cap how)
  have HON := Lib.hid (own_nil how)
  have HB := Lib.hid hbel
  have HC := Lib.hid hcells
  have hne : ∀ x, a2 = some x → x.block < w1.heap.size := fun x hx => by subst hx; exact hlt _ rfl
  have HNE := Lib.hid hne
  clear hlt how hbel hcells hne
  go_wp2_with fail
  go_ret
  refine ⟨w1.heap.size, a2, c2, rfl, HB.out.size, ⟨?_, ?_, fun x hx => HNE.out x hx, HOC.out, HON.out, HL.out, hb, Nat.zero_le _⟩, ?_⟩
  · exact heap_alloc_new w1 _
  · exact HC.out.below ((Below.refl _ _).alloc (Nat.le_refl _) _)
  · exact HB.out.alloc HB.out.size _

theorem Uint_nil (m : Int) (w : World) : Calls Try.prog 19 #[.pointer none, .int .u64 m] w fun x w' => x = .returned (.int .u64 0) ∧ w = w' := by
  go_enter Try.func19, Try.ntmps19
  go_wp2_with fail
  go_ret
  exact ⟨rfl, rfl⟩

theorem Text_nil (m : Int) (w : World) : Calls Try.prog 32 #[.pointer none, .int .i64 m] w fun x w' => x = .returned (.string ByteArray.empty) ∧ w = w' := by
  go_enter Try.func32, Try.ntmps32
  go_wp2_with fail
  all_goals
    refine (Uint_nil _ w).mono ?_
    rintro x w1 ⟨rfl, rfl⟩
    go_wp2_with fail
    go_ret
    exact ⟨rfl, rfl⟩

theorem wp_append_str {w : World} {o : Oper} {a : Act} {K : Act → World → Prop} {Q : Exit → Act → World → Prop} (s x : Operand) (t u : TypeId)
    (hop : o.op = .call { callee := .builtin .append, args := #[s, x], argTypes := #[t, u] })
    (base : Nat) (e : TypeId) (i : TypeInfo) (ht : Try.prog.underlying t = some (.slice e)) (hu : Try.prog.underlying u = some .string) (hi : Try.prog.info? e = some i) (hz : i.zero = some (.int .u8 0))
    (hsize : i.size = 1) (hby : i.bytes = 1)
    (v : Value) (n : Nat) (xs : List Value) (hs : a.eval s = v) (hown : w.ownsRow base e 1 v n xs)
    (str : ByteArray) (hvx : a.eval x = .string str) (hbytes : n + str.size ≤ 140737488355328) (hbase : base ≤ w.heap.size)
    (hK : ∀ v' w', w'.ownsRow base e 1 v' (n + str.size) (xs ++ Lib.strCells str) → w.grownBy w' v.ownBlock → K (a.put o.dst v') w') : o.wp Try.prog a w K Q := by
  obtain ⟨v', w', hrun, r1, r2, _⟩ := Lib.run_append_own_string (P := Try.prog) w base t u o.type e i ht hu hi hz hsize hby v n xs hown str (by unfold maxLen; omega) hbytes hbase
  unfold Oper.wp
  simp [execOp, hop, resolve, invoke, builtin, hs, hvx, hrun, Result.andThen]
  exact hK v' w' r1 r2

set_option maxRecDepth 100000 in
set_option maxHeartbeats 1000000 in
theorem PutText_any (a : Option Addr) (n c : Nat) (bs : Bytes) (s : ByteArray) (w : World) (h : CellsAt w a (bc bs)) (hnil : a = none → n = 0 ∧ c = 0) (hl : bs.length = n) (hb : bs.length + (encT s.data.toList).length ≤ 140737488355000) :
    Calls Try.prog 45 #[.slice a n c, .string s] w fun e w' => ∃ v, e = .returned v ∧ w'.ownsRow w.heap.size 5 1 v (bs ++ encT s.data.toList).length (bc (bs ++ encT s.data.toList)) ∧ Below w.heap.size w w' := by
  obtain ⟨i0, hi, hz0, hz1, hz2⟩ := info_parts info5
  have H := Lib.hid h
  have HN := Lib.hid hnil
  have HL := Lib.hid hl
  have hsz : s.data.toList.length = s.size := by rw [Array.length_toList]; rfl
  have HE := Lib.hid (show encT s.data.toList = leb s.size ++ s.data.toList by rw [encT, hsz])
  have hb2 : bs.length + (leb s.size).length + s.size ≤ 140737488355000 := by rw [HE.out, List.length_append, hsz] at hb; omega
  have HSZ := Lib.hid hsz
  have HB := Lib.hid hb2
  clear h hnil hl hb hb2 hsz
  have hwr : IntKind.u64.wrap (s.size : Int) = (s.size : Int) := wrapU _ (by omega) (by have := HB.out; omega)
  go_enter Try.func45, Try.ntmps45
  go_wp2_with (go_at_call 24; refine halt_here ?_)
  refine go_on ((Put_one a n c bs s.size w _ rfl H.out HN.out HL.out (by have := HB.out; omega) (by have := HB.out; omega)).mono ?_)
  rintro e w1 ⟨v, rfl, how, hb2⟩
  have HOW := Lib.hid how
  have HB2 := Lib.hid hb2
  clear how hb2
  go_wp2_with (at_builtin; refine wpList_wp rfl (fun K hK => ?_); refine halt_here ?_)
  refine go_on (wp_append_str (.tmp 10) (.tmp 11) 34 9 rfl w.heap.size 5 i0 Try.underlying34 Try.underlying9 hi hz0 hz1 hz2 _ _ _ rfl HOW.out s rfl (by have := HB.out; rw [List.length_append]; omega) HB2.out.size ?_)
  intro v' w' hown hgr
  have HW := Lib.hid hown
  have HB3 := Lib.hid (HB2.out.grown hgr HB2.out.size (fun k hk => (HOW.out.lt k hk).1))
  clear hown hgr
  refine hK _ _ ?_
  clear hK K
  go_wp2_with fail
  go_ret
  refine ⟨_, rfl, ?_, HB3.out⟩
  have e1 : bs ++ encT s.data.toList = (bs ++ leb s.size) ++ s.data.toList := by rw [HE.out, List.append_assoc]
  have e2 : ((bs ++ leb s.size) ++ s.data.toList).length = (bs ++ leb s.size).length + s.size := by rw [List.length_append, HSZ.out]
  rw [e1, bc_append, e2]
  exact HW.out
end Go.Proofs.Ytbcpdjhpceimlaa
