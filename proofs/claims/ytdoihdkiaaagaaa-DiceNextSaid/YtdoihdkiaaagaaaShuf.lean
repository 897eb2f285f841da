/-
  Shuffle, the program's and the reference's: both return the list in which the exchanges of 'shufL' were made, in new memory, and the seed 'shufS'.
-/
import Derived.Test.YtdoihdkiaaagaaaFns
namespace Go.Proofs.Ytdoihdkiaaagaaa
open Go.ChangeShapes Go.WideShapes Go.ChangeAt Go.RowKit

/-- What a round of either shuffle finds: the row as it stands, and what is left to do. -/
def Sh (w : World) (v : Value) (n : Nat) (L : List Int) (S : Int) (seed : Value) (i : Value) (wr : World) : Prop :=
  ∃ (k : Int) (s : Int) (l : List Int), -1 ≤ k ∧ k < (n : Int) ∧ i = .int .i64 k ∧ seed = .int .u64 s ∧ l.length = n ∧ shufL k.toNat s l = L ∧ shufS k.toNat s = S ∧
    wr.ownsRow w.heap.size 3 1 v n (l.map (Value.int .i64)) ∧ Below w.heap.size w wr

theorem sh_start (w w1 : World) (v : Value) (n : Nat) (s : Int) (xs : List Int) (hl : xs.length = n) (h : w1.ownsRow w.heap.size 3 1 v n (xs.map (Value.int .i64))) (hb : Below w.heap.size w w1) :
    Sh w v n (shufL (n - 1) s xs) (shufS (n - 1) s) (.int .u64 s) (.int .i64 ((n : Int) - 1)) w1 :=
  ⟨(n : Int) - 1, s, xs, by omega, by omega, rfl, rfl, hl, by rw [show ((n : Int) - 1).toNat = n - 1 by omega], by rw [show ((n : Int) - 1).toNat = n - 1 by omega], h, hb⟩

theorem Sh.drew {w : World} {v : Value} {n : Nat} {L : List Int} {S : Int} {seed i : Value} {wr : World} (h : Sh w v n L S seed i wr) : Sh w v n L S seed i wr.drew := by
  obtain ⟨k, s, l, h1, h2, h3, h4, h5, h6, h7, h8, h9⟩ := h
  exact ⟨k, s, l, h1, h2, h3, h4, h5, h6, h7, h8.kept (row := none) ⟨rfl, rfl, rfl, Nat.le_refl _, fun _ _ _ => rfl⟩ (by cases v.ownBlock <;> simp), h9.drew⟩

theorem own_shape {w : World} {base e : Nat} {v : Value} {n : Nat} {xs : List Value} (h : w.ownsRow base e 1 v n xs) (hn : 0 < n) : ∃ g cap, v = .slice (some ⟨g, 0, none⟩) n cap ∧ base ≤ g := by
  rcases h.2 with ⟨_, h⟩ | ⟨g, cap, cur, hv, hb, _⟩
  · omega
  · exact ⟨g, cap, hv, hb⟩

theorem map_set (l : List Int) (i : Nat) (x : Int) : (l.map (Value.int .i64)).set i (.int .i64 x) = (l.set i x).map (Value.int .i64) := by rw [List.map_set]

/-- One round: two stores. -/
theorem sh_step {w wr : World} {g n cap : Nat} {l : List Int} {k : Nat} {s : Int} {L : List Int} {S : Int} (hk : k + 1 < n) (hl : l.length = n)
    (hL : shufL (k + 1) s l = L) (hS : shufS (k + 1) s = S) (how : wr.ownsRow w.heap.size 3 1 (.slice (some ⟨g, 0, none⟩) n cap) n (l.map (Value.int .i64))) (hb : Below w.heap.size w wr) (hg : w.heap.size ≤ g)
    (j : Nat) (hj : j = (belowN s ((k : Int) + 1 + 1)).toNat) :
    Sh w (.slice (some ⟨g, 0, none⟩) n cap) n L S (.int .u64 (sd s)) (.int .i64 (k : Int)) ((wr.setCell ⟨g, k + 1, none⟩ (.int .i64 (l.getD j 0))).setCell ⟨g, j, none⟩ (.int .i64 (l.getD (k + 1) 0))) := by
  refine ⟨k, sd s, swp l (k + 1) j, by omega, by omega, rfl, rfl, by rw [swp_length]; exact hl, ?_, ?_, ?_, ?_⟩
  · rw [← hL, hj]; rfl
  · rw [← hS]; rfl
  · have h1 := (how.stored (k + 1) (.int .i64 (l.getD j 0))).1
    have h2 := (h1.stored j (.int .i64 (l.getD (k + 1) 0))).1
    rw [map_set, map_set] at h2
    exact h2
  · exact (hb.setCell hg _).setCell hg _

set_option maxHeartbeats 1000000 in
theorem shuffle_core (L : List Int) (SS : Int) (s : Int) (a : Option Addr) (n c : Nat) (xs : List Int) (w : World) (h : CellsAt w a (xs.map (Value.int .i64))) (hnil : a = none → n = 0 ∧ c = 0) (hl : xs.length = n) (hb : n * 8 ≤ 140737488355328)
    (hL : shufL (n - 1) s xs = L) (hS : shufS (n - 1) s = SS) :
    Calls Try.prog 13 #[.int .u64 s, .slice a n c] w fun e w' => ∃ v, e = .returned (.tuple #[v, .int .u64 SS]) ∧ w'.ownsRow w.heap.size 3 1 v n (L.map (Value.int .i64)) ∧ Below w.heap.size w w' := by
  have HL := Lib.hid hl
  have HL2 := Lib.hid hL
  have HS2 := Lib.hid hS
  clear hl hL hS
  go_enter Try.func13, Try.ntmps13
  go_wp2_with (go_at_call 16; refine (clone_any a n c xs _ h hnil HL.out hb).mono ?_; rintro e w1 ⟨v, rfl, how, hbel⟩; obtain ⟨a', cap', rfl, _⟩ := ownsRow_rd how)
  have hs := sh_start w w1 _ n s xs HL.out how hbel
  rw [HL2.out, HS2.out] at hs
  have HS := Lib.hid hs
  clear hs
  clear how hbel h hnil
  go_wp2_with fail
  go_loopw [0, 7] (fun seed i wr => Sh w (.slice a' n cap') n L SS seed i wr) (fun _ i _ => (intOf i + 1).toNat)
  case atStart => exact HS.out
  case round =>
    obtain ⟨k, sk, l, hk1, hk2, rfl, rfl, hll, hLk, hSk, how, hbel⟩ := hrel
    have HLK := Lib.hid hLk
    have HSK := Lib.hid hSk
    have HLL := Lib.hid hll
    have HOW := Lib.hid how
    clear hLk hSk hll how
    by_cases hlt : 0 < k
    · obtain ⟨g, cap2, hv2, hg⟩ := own_shape HOW.out (by omega)
      cases hv2
      obtain ⟨k, rfl⟩ : ∃ k' : Nat, k = (k' : Int) + 1 := ⟨(k - 1).toNat, by omega⟩
      have hbn := belowN_bd sk ((k : Int) + 1 + 1) (by omega)
      have EN := Lib.hid (show belowS sk ((k : Int) + 1 + 1) = sd sk from if_neg (by omega))
      obtain ⟨j, hj⟩ := Int.eq_ofNat_of_zero_le hbn.1
      have hjn : (j : Int) < (n : Int) := by omega
      have hbs : belowS sk ((k : Int) + 1 + 1) = sd sk := EN.out
      have HST := Lib.hid (sh_step (j := j) (show k + 1 < n by omega) HLL.out (show shufL (k + 1) sk l = L from HLK.out) (show shufS (k + 1) sk = SS from HSK.out) HOW.out hbel hg (by rw [hj]; rfl))
      clear hbn
      have f0 := fun x => (HOW.out).frozenAt x
      have c1 : wr.cell? ⟨g, k + 1, none⟩ = some (.int .i64 (l.getD (k + 1) 0)) := by
        rw [(HOW.out).cellAt (k + 1) (by omega)]; exact getD_int (by rw [HLL.out]; omega) _
      have c2 : wr.cell? ⟨g, j, none⟩ = some (.int .i64 (l.getD j 0)) := by
        rw [(HOW.out).cellAt j (by omega)]; exact getD_int (by rw [HLL.out]; omega) _
      obtain ⟨u3, c3⟩ : ∃ u, (wr.setCell ⟨g, k + 1, none⟩ (.int .i64 (l.getD j 0))).cell? ⟨g, j, none⟩ = some u := by
        have h3 := ((HOW.out).stored (k + 1) (.int .i64 (l.getD j 0))).1
        rw [h3.cellAt j (by omega)]
        have : j < ((l.map (Value.int .i64)).set (k + 1) (.int .i64 (l.getD j 0))).length := by simp only [List.length_set, List.length_map]; rw [HLL.out]; omega
        exact ⟨_, List.getElem?_eq_getElem this⟩
      generalize l.getD j 0 = xj at c2 c3 HST
      generalize l.getD (k + 1) 0 = xk at c1 HST
      go_wp2_with (go_at_call 11; refine (below_any sk _ _ (by omega)).mono ?_; rintro e w2 ⟨rfl, rfl⟩)
      refine wp_region_plan [(0, none), (1, none), (2, none), (3, none), (4, none), (5, none), (6, none), (7, some none), (8, none), (9, none), (10, none), (11, some none), (12, none), (13, some (some false)), (14, none), (15, some (some false))] (by kernel_rfl) (by kernel_rfl) ?_
      repeat (first | (refine plan_free (v := ?_) rfl rfl (fun _ => ?_) (fun K hK => ?_); rotate_left 1; (focus (go_simp <;> exact rfl)); go_simp; refine hK _ _ ?_; clear hK K) | (refine plan_held (v := ?_) rfl rfl ?_ (fun K hK => ?_); rotate_left 1; (focus (go_simp <;> exact rfl)); go_simp; refine hK _ _ ?_; clear hK K))
      refine plan_eff rfl rfl (fun K hK => ?_)
      go_wp2_with fail
      repeat (first | (refine plan_free (v := ?_) rfl rfl (fun _ => ?_) (fun K hK => ?_); rotate_left 1; (focus (go_simp <;> exact rfl)); go_simp; refine hK _ _ ?_; clear hK K) | (refine plan_held (v := ?_) rfl rfl ?_ (fun K hK => ?_); rotate_left 1; (focus (go_simp <;> exact rfl)); go_simp; refine hK _ _ ?_; clear hK K))
      refine plan_eff rfl rfl (fun K hK => ?_)
      go_wp2_with fail
      refine plan_nil ?_
      go_wp2_with fail
      go_roundw
      case rel => exact HST.out.drew
      case measure => simp [intOf]; omega
    · go_wp2_with fail
      go_ret2
      have hz : k.toNat = 0 := by omega
      have e1 := HLK.out
      have e2 := HSK.out
      rw [hz] at e1 e2
      refine ⟨_, ret2 rfl (by rw [← e2]; rfl), ?_, hbel⟩
      rw [← e1]
      exact HOW.out

theorem size3 : (Try.prog.info? 3).map (fun i => i.size) = some 1 := by kernel_rfl

set_option maxHeartbeats 1000000 in
theorem rshuffle_core (L : List Int) (SS : Int) (s : Int) (a : Option Addr) (n c : Nat) (xs : List Int) (w : World) (h : CellsAt w a (xs.map (Value.int .i64))) (hl : xs.length = n) (hb : n * 8 ≤ 140737488355328)
    (hL : shufL (n - 1) s xs = L) (hS : shufS (n - 1) s = SS) :
    Calls Try.prog 14 #[.int .u64 s, .slice a n c] w fun e w' => ∃ v, e = .returned (.tuple #[v, .int .u64 SS]) ∧ w'.ownsRow w.heap.size 3 1 v n (L.map (Value.int .i64)) ∧ Below w.heap.size w w' := by
  obtain ⟨i0, hi, hz0, hz1, hz2⟩ := info_parts info3
  have HL := Lib.hid hl
  have HL2 := Lib.hid hL
  have HS2 := Lib.hid hS
  have H := Lib.hid h
  clear hl hL hS h
  go_enter Try.func14, Try.ntmps14
  go_wp2_with (refine wpList_wp rfl (fun K hK => ?_); refine wp_make 30 (.tmp 12) (.tmp 12) rfl w.heap.size 3 i0 (.int .i64 0) 1 Try.underlying30 hi hz0 hz1 .i64 .i64 n rfl rfl ?g1 ?g2 ?g3 ?g4)
  case g1 => rw [hz2]; omega
  case g2 => unfold maxLen; omega
  case g3 => exact Nat.le_refl _
  case g4 =>
  intro w1 hown hgr
  refine hK _ _ ?_
  clear hK K
  go_wp2_with (refine wpList_wp rfl (fun K hK => ?_); refine wp_copy (.tmp 14) (.tmp 15) 30 30 rfl 3 Try.underlying30 size3 w.heap.size _ n _ rfl hown _ (xs.map (Value.int .i64)) rfl ?k1 ?k2 one_int ?k3)
  case k1 => exact ⟨_, _, rfl, H.out.below (grown_below hgr)⟩
  case k2 => rw [List.length_map, HL.out]
  case k3 =>
  intro kv w2 hown2 hgr2
  refine hK _ _ ?_
  clear hK K
  have hbel : Below w.heap.size w w2 := (grown_below hgr).grown hgr2 (hgr.size) (fun k hk => by simp [Value.ownBlock] at hk; omega)
  have hs := sh_start w w2 _ n s xs HL.out hown2 hbel
  rw [HL2.out, HS2.out] at hs
  have HS := Lib.hid hs
  clear hs hown hown2 hgr hgr2
  generalize (⟨w.heap.size, 0, none⟩ : Addr) = ad at HS
  generalize (some ad : Option Addr) = a' at HS
  go_wp2_with fail
  go_loopw [0, 7] (fun seed i wr => Sh w (.slice a' n n) n L SS seed i wr) (fun _ i _ => (intOf i + 1).toNat)
  case atStart => exact HS.out
  case round =>
    obtain ⟨k, sk, l, hk1, hk2, rfl, rfl, hll, hLk, hSk, how, hbel⟩ := hrel
    have HLK := Lib.hid hLk
    have HSK := Lib.hid hSk
    have HLL := Lib.hid hll
    have HOW := Lib.hid how
    clear hLk hSk hll how
    by_cases hlt : 1 ≤ k
    · obtain ⟨g, cap2, hv2, hg⟩ := own_shape HOW.out (by omega)
      simp only [Value.slice.injEq, true_and] at hv2
      obtain ⟨rfl, hcap⟩ := hv2
      have HCAP := Lib.hid hcap
      clear hcap
      obtain ⟨k, rfl⟩ : ∃ k' : Nat, k = (k' : Int) + 1 := ⟨(k - 1).toNat, by omega⟩
      have hbn := belowN_bd sk ((k : Int) + 1 + 1) (by omega)
      have EN := Lib.hid (show belowS sk ((k : Int) + 1 + 1) = sd sk from if_neg (by omega))
      obtain ⟨j, hj⟩ := Int.eq_ofNat_of_zero_le hbn.1
      have hjn : (j : Int) < (n : Int) := by omega
      have hbs : belowS sk ((k : Int) + 1 + 1) = sd sk := EN.out
      have HST := Lib.hid (sh_step (j := j) (show k + 1 < n by omega) HLL.out (show shufL (k + 1) sk l = L from HLK.out) (show shufS (k + 1) sk = SS from HSK.out) HOW.out hbel hg (by rw [hj]; rfl))
      clear hbn
      have f0 := fun x => (HOW.out).frozenAt x
      have c1 : wr.cell? ⟨g, k + 1, none⟩ = some (.int .i64 (l.getD (k + 1) 0)) := by
        rw [(HOW.out).cellAt (k + 1) (by omega)]; exact getD_int (by rw [HLL.out]; omega) _
      have c2 : wr.cell? ⟨g, j, none⟩ = some (.int .i64 (l.getD j 0)) := by
        rw [(HOW.out).cellAt j (by omega)]; exact getD_int (by rw [HLL.out]; omega) _
      obtain ⟨u3, c3⟩ : ∃ u, (wr.setCell ⟨g, k + 1, none⟩ (.int .i64 (l.getD j 0))).cell? ⟨g, j, none⟩ = some u := by
        have h3 := ((HOW.out).stored (k + 1) (.int .i64 (l.getD j 0))).1
        rw [h3.cellAt j (by omega)]
        have : j < ((l.map (Value.int .i64)).set (k + 1) (.int .i64 (l.getD j 0))).length := by simp only [List.length_set, List.length_map]; rw [HLL.out]; omega
        exact ⟨_, List.getElem?_eq_getElem this⟩
      generalize l.getD j 0 = xj at c2 c3 HST
      generalize l.getD (k + 1) 0 = xk at c1 HST
      go_wp2_with (go_at_call 12; refine (rbelow_any sk _ _ (by omega)).mono ?_; rintro e w2 ⟨rfl, rfl⟩)
      go_roundw
      case rel => exact HST.out
      case measure => simp [intOf]; omega
    · go_wp2_with fail
      go_ret2
      have hz : k.toNat = 0 := by omega
      have e1 := HLK.out
      have e2 := HSK.out
      rw [hz] at e1 e2
      refine ⟨_, ret2 rfl (by rw [← e2]; rfl), ?_, hbel⟩
      rw [← e1]
      exact HOW.out
end Go.Proofs.Ytdoihdkiaaagaaa
