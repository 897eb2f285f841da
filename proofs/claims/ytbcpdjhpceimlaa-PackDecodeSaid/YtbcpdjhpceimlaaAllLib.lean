/-
  Laws of memory that 'all' of layer 27 needs: append that tells the new block; a struct stored into a new block, loaded whole, laid as a slice of one.
-/
import Derived.Test.YtbcpdjhpceimlaaComp
import Derived.Deep.MidRow
import Derived.Deep.WholeRow
import Derived.Great.BuildSlice
namespace Go.Proofs.Ytbcpdjhpceimlaa
open Go.ChangeShapes Go.WideShapes Go.ChangeAt Go.RowKit
set_option linter.unusedVariables false

section
variable {P : Program}

/-- append of one element to a slice of the call's own: the new slice lies in the old block or in a new one. -/
theorem run_append_one {w : World} (base : Nat) (t ty e : TypeId) (i : TypeInfo) (z : Value) (size bytes : Nat) (ht : P.underlying t = some (.slice e)) (hi : P.info? e = some i) (hz : i.zero = some z)
    (hsize : i.size = size) (hby : i.bytes = bytes) (hzs : z.cells.size = size) (hsz : 0 < size)
    (v : Value) (n : Nat) (xs : List Value) (hown : w.ownsRow base e size v n xs)
    (g : Nat) (c : Nat) (news : List Value) (hl : news.length = size) (hnews : ∀ j u, news[j]? = some u → w.cell? ⟨g, j, none⟩ = some u) (h1 : ∀ u ∈ news, u.oneCell' = true)
    (h63 : n + 1 ≤ 1000000) (hbytes : (n + 1) * bytes ≤ 140737488355328) (hbase : base ≤ w.heap.size) :
    ∃ v' w', (Builtin.append_ #[t, t] ty #[v, .slice (some ⟨g, 0, none⟩) 1 c]).run P w = .ok v' w' ∧ w'.ownsRow base e size v' (n + 1) (xs ++ news) ∧ w.grownBy w' v.ownBlock ∧ (v'.ownBlock = v.ownBlock ∨ v'.ownBlock = some w.heap.size) := by
  have hnews' : ∀ j u, news[j]? = some u → w.cell? ((⟨g, 0, none⟩ : Addr).add j) = some u := by
    intro j u hj
    rw [Addr.add_lit, Nat.zero_add]
    exact hnews j u hj
  obtain ⟨v', w', r1, r2, r3, _⟩ := run_append_own (P := P) w base t ty e i z size bytes ht hi hz hsize hby hzs hsz v n xs hown ⟨g, 0, none⟩ 1 c news (by omega) hnews' h1 (by unfold maxLen; omega) hbytes hbase
  refine ⟨v', w', r1, r2, r3, ?_⟩
  rcases hown.2 with ⟨rfl, rfl⟩ | ⟨g', cap, cur, rfl, hb, hg, hnc, hcm, hcs, htake⟩
  · have := run_append_nil (P := P) (w := w) t ty e i z ht hi hz ⟨g, 0, none⟩ 1 c news (by rw [hl, hsize]; omega) hnews' (by omega) (by omega) (by rw [hby]; omega)
    rw [r1] at this
    injection this with h2 _
    subst h2
    exact .inr rfl
  · by_cases hroom : n + 1 ≤ cap
    · obtain ⟨w2, h2, _⟩ := run_append_fits (P := P) (w := w) base t ty e i size ht hi hsize g' n cap xs hown ⟨g, 0, none⟩ 1 c news (by omega) hnews' h1 hroom
      rw [r1] at h2
      injection h2 with h2 _
      subst h2
      exact .inl rfl
    · have hle := nextslicecap_le (need := n + 1) (old := cap) (by omega)
      have h2 := run_append_grow (P := P) (w := w) t ty e i z ht hi hz ⟨g', 0, none⟩ n cap xs (by rw [hown.1, hsize]) (hown.cells rfl) ⟨g, 0, none⟩ 1 c news (by rw [hl, hsize]; omega) hnews' (by omega) (by omega) (by
        rw [hby]
        have := Nat.mul_le_mul_right bytes hle
        rw [Nat.mul_assoc] at this
        omega)
      rw [r1] at h2
      injection h2 with h2 _
      subst h2
      exact .inr rfl

theorem wp_append_one {w : World} {o : Oper} {a : Act} {K : Act → World → Prop} {Q : Exit → Act → World → Prop} (s x : Operand) (t : TypeId)
    (hop : o.op = .call { callee := .builtin .append, args := #[s, x], argTypes := #[t, t] })
    (base : Nat) (e : TypeId) (i : TypeInfo) (z : Value) (size bytes : Nat) (ht : P.underlying t = some (.slice e)) (hi : P.info? e = some i) (hz : i.zero = some z)
    (hsize : i.size = size) (hby : i.bytes = bytes) (hzs : z.cells.size = size) (hsz : 0 < size)
    (v : Value) (n : Nat) (xs : List Value) (hs : a.eval s = v) (hown : w.ownsRow base e size v n xs)
    (g c : Nat) (news : List Value) (hvx : a.eval x = .slice (some ⟨g, 0, none⟩) 1 c) (hl : news.length = size) (hnews : ∀ j u, news[j]? = some u → w.cell? ⟨g, j, none⟩ = some u) (h1 : ∀ u ∈ news, u.oneCell' = true)
    (h63 : n + 1 ≤ 1000000) (hbytes : (n + 1) * bytes ≤ 140737488355328) (hbase : base ≤ w.heap.size)
    (hK : ∀ v' w', w'.ownsRow base e size v' (n + 1) (xs ++ news) → w.grownBy w' v.ownBlock → (v'.ownBlock = v.ownBlock ∨ v'.ownBlock = some w.heap.size) → K (a.put o.dst v') w') : o.wp P a w K Q := by
  obtain ⟨v', w', hrun, r1, r2, r3⟩ := run_append_one (P := P) base t o.type e i z size bytes ht hi hz hsize hby hzs hsz v n xs hown g c news hl hnews h1 h63 hbytes hbase
  unfold Oper.wp
  simp [execOp, hop, resolve, invoke, builtin, hs, hvx, hrun, Result.andThen]
  exact hK v' w' r1 r2 r3

theorem wpList_store_new {ops : Array Oper} {rest : List Oper} {o : Oper} {a : Act} {w : World} {Q : Exit → Act → World → Prop} (hg : o.guard = none) (ty : TypeId) (x y : Operand) (ho : o.op = .store ty x y) (c c' : Array Value)
    (hx : a.eval x = .pointer (some ⟨w.heap.size, 0, none⟩)) (hy : a.eval y = .agg c') (hi : (P.info? ty).map (·.size) = some c'.size) (hs : c.size = c'.size) (h1 : c'.all (·.oneCell') = true)
    (h : wpList P ops Q rest (a.put o.dst undef) (w.alloc (.cells c' ty))) : wpList P ops Q (o :: rest) a (w.alloc (.cells c ty)) :=
  wpList_plain hg fun _ hK => by
    unfold Oper.wp execOp
    simp only [ho, hx, hy, Sem.run_bind, run_storeAt_new (P := P) w ty c c' hi hs h1, Result.andThen_ok]
    exact hK _ _ h

/-- The load of a whole block, as a held operation of a plan. -/
theorem exec_load_row {o : Oper} {a : Act} {w : World} (ty : TypeId) (x : Operand) (ho : o.op = .load ty x) (g : Nat) (hx : a.eval x = .pointer (some ⟨g, 0, none⟩)) (t : TypeId) (cs : Array Value) (fr : Nat × Nat) (d : TypeDesc)
    (hg : w.heap[g]? = some (.cells cs t fr)) (hu : P.underlying ty = some d) (hd : (match d with | .struct _ | .array _ _ => true | _ => false) = true) (hi : (P.info? ty).map (·.size) = some cs.size) :
    (execOp a.eval o).run P w = .ok (.value (.agg cs)) w := by
  unfold execOp
  simp only [ho, hx, Instr.loadAt, Instr.sureAddr, Sem.run_bind, Sem.run_pure, Result.andThen_ok, run_loadVar_row w g t ty cs fr d hg hu hd hi]

/-- A slice literal of one struct. -/
theorem fill_one (cs cells : Array Value) (s : Nat) (hs : 0 < s) (hc : cs.size = s) (hl : cells.size = s) : Instr.fill (fun i => some (i * s, s)) cells [(0, .agg cs)] = some cs := by
  obtain ⟨r, hr, hsz, hk⟩ := Great.fill_dense (s := s) hs [.agg cs] 0 cells (fun v hv => by simp at hv; subst hv; exact hc) (by simp; omega)
  have e : ([Value.agg cs].zipIdx 0).map (fun x => (x.2, x.1)) = [(0, .agg cs)] := rfl
  rw [e] at hr
  rw [hr]
  congr 1
  apply Array.ext_getElem?
  intro k
  rw [hk]
  by_cases hks : k < s
  · rw [if_pos (by simp; omega)]
    simp only [Nat.sub_zero, Nat.div_eq_of_lt hks, Nat.mod_eq_of_lt hks]
    rfl
  · rw [if_neg (by simp; omega), Array.getElem?_eq_none (by omega), Array.getElem?_eq_none (by omega)]

theorem wp_build_one {o : Oper} {a : Act} {w : World} {K : Act → World → Prop} {Q : Exit → Act → World → Prop} (t e : TypeId) (x : Operand) (ho : o.op = .buildSlice t 1 #[(0, x)])
    (cs : Array Value) (ie : TypeInfo) (z : Value) (s : Nat) (hu : P.underlying t = some (.slice e)) (hie : P.info? e = some ie) (hz : ie.zero = some z) (hs : ie.size = s) (hpos : 0 < s) (hsm : s ≤ 1000) (hx : a.eval x = .agg cs) (hc : cs.size = s)
    (h : K (a.put o.dst (.slice (some ⟨w.heap.size, 0, none⟩) 1 1)) (w.alloc (.cells cs e))) : o.wp P a w K Q := by
  refine wp_buildSlice (P := P) t e 1 #[(0, x)] ho cs ie z hu hie hz (by rw [hs]; omega) (by rw [hs]; omega) ?_ h
  rw [hs]
  simp only [List.map_toArray, List.map_cons, List.map_nil, hx]
  exact fill_one cs _ s hpos hc (by simp)
end

theorem rep_e {A : Nat → Prop} {w : World} {s : List Fld} {x : V} {u : Value} (h : Rep A w (.e s) x u) : ∃ a n c, u = .slice a n c := by
  cases h with
  | e _ _ a n c => exact ⟨a, n, c, rfl⟩

theorem rep_one {A : Nat → Prop} {w : World} {q : Fld} {x : V} {u : Value} (h : Rep A w q x u) : u.oneCell' = true := by
  cases h <;> rfl
theorem row_one {A : Nat → Prop} {w : World} {s : List Fld} {v : List V} {cs : List Value} (h : RowRep A w s v cs) : ∀ u ∈ cs, u.oneCell' = true := by
  intro u hu
  obtain ⟨j, hj⟩ := List.getElem?_of_mem hu
  have hjl : j < s.length := by rw [← h.2.1]; exact (List.getElem?_eq_some_iff.1 hj).1
  exact rep_one (h.2.2 j _ _ u (List.getElem?_eq_getElem hjl) (List.getElem?_eq_getElem (by rw [h.1]; exact hjl)) hj)

theorem vals_getD (r : List V) (d : V) : vals (fun j => r.getD j d) 0 r.length = r := by
  apply List.ext_getElem?
  intro i
  simp only [vals, List.getElem?_map, Nat.zero_add]
  by_cases hi : i < r.length
  · rw [List.getElem?_range hi, List.getElem?_eq_getElem hi]
    simp [List.getD_eq_getElem?_getD, List.getElem?_eq_getElem hi]
  · rw [List.getElem?_eq_none (by simp; omega), List.getElem?_eq_none (by omega)]
    rfl

/-- A coding function of a slice of structs. -/
def CoderA (F G : Nat) (s : List Fld) : Prop := ∀ (C b o : Nat) (M : Mach) (w : World), Pre C b M [.e s] o w →
  Calls Try.prog F #[.pointer (some ⟨C, 0, none⟩), .pointer (some ⟨b, o, none⟩), .func (.func G) #[] #[]] w fun e w' => e = .returned (.tuple #[]) ∧ Post C b M [.e s] o w w'

theorem Mid.all {F G : Nat} {s : List Fld} (hF : CoderA F G s) {C b : Nat} {M : Mach} {d r : List Fld} {o : Nat} {w0 w : World} (h : Mid C b M d ([.e s] ++ r) o w0 w) (o' : Nat) (ho : o + d.length = o') :
    Calls Try.prog F #[.pointer (some ⟨C, 0, none⟩), .pointer (some ⟨b, o', none⟩), .func (.func G) #[] #[]] w fun e w' => e = .returned (.tuple #[]) ∧ Hid (Mid C b M (d ++ [.e s]) r o w0 w') := by
  subst ho
  refine (hF C b (o + d.length) (M.next d o) w (h.pre (World.grownBy.refl _ _))).mono ?_
  rintro e w' ⟨rfl, hp⟩
  exact ⟨rfl, Lib.hid (h.step (World.grownBy.refl _ _) hp)⟩

/-! ### decoding a slice of structs -/
theorem Rep.lt {A : Nat → Prop} {w : World} {q : Fld} {v : V} {u : Value} (h : Rep A w q v u) : Rep (fun b => A b ∧ b < w.heap.size) w q v u := by
  induction h with
  | i n h => exact .i n h
  | b x => exact .b x
  | t s h => exact .t s h
  | u n h => exact .u n h
  | l xs a n c hl hc hm hn hA hw hx => exact .l xs a n c hl hc hm hn (fun x hx h0 => ⟨⟨(hA x hx h0).1, (hA x hx h0).2.1⟩, (hA x hx h0).2⟩) hw hx
  | e s rows a n c f hl hc hm hn hA hs hx _ ih => exact .e s rows a n c f hl hc hm hn (fun x hx h0 => ⟨⟨(hA x hx h0).1, (hA x hx h0).2.1⟩, (hA x hx h0).2⟩) hs hx ih
theorem RowRep.lt {A : Nat → Prop} {w : World} {s : List Fld} {v : List V} {cs : List Value} (h : RowRep A w s v cs) : RowRep (fun b => A b ∧ b < w.heap.size) w s v cs := ⟨h.1, h.2.1, fun j q x u h1 h2 h3 => (h.2.2 j q x u h1 h2 h3).lt⟩

theorem flat_get {N : Nat} : ∀ (cells : List (List Value)) (i j : Nat), (∀ c, c ∈ cells → c.length = N) → j < N → cells.flatten[i * N + j]? = (cells[i]?).bind fun c => c[j]?
  | [], i, j, _, _ => by simp
  | c :: cells, 0, j, h, hj => by
    have hc := h c (by simp)
    rw [List.flatten_cons, Nat.zero_mul, Nat.zero_add, List.getElem?_append_left (by omega)]
    rfl
  | c :: cells, i + 1, j, h, hj => by
    have hc := h c (by simp)
    rw [List.flatten_cons, List.getElem?_append_right (by rw [hc, Nat.succ_mul]; omega), hc, show (i + 1) * N + j - N = i * N + j by rw [Nat.succ_mul]; omega, flat_get cells i j (fun d hd => h d (by simp [hd])) hj]
    rfl

theorem flat_len {N : Nat} : ∀ (cells : List (List Value)), (∀ c, c ∈ cells → c.length = N) → cells.flatten.length = cells.length * N
  | [], _ => by simp
  | c :: cells, h => by
    rw [List.flatten_cons, List.length_append, h c (by simp), flat_len cells (fun d hd => h d (by simp [hd])), List.length_cons, Nat.succ_mul]
    omega

/-- A slice of the call's own that holds rows reads as a slice of structs. -/
theorem own_rep_e {w : World} {B T N : Nat} {s : List Fld} {ov : Value} {acc : List (List V)} {cells : List (List Value)} {A : Nat → Prop} (hN : s.length = N) (hl : cells.length = acc.length)
    (hr : ∀ (i : Nat) r c, acc[i]? = some r → cells[i]? = some c → RowRep A w s r c) (how : w.ownsRow B T N ov acc.length cells.flatten) : Rep (fun j => B ≤ j ∨ A j) w (.e s) (.e acc) ov := by
  have h0 := how
  have hcl : ∀ c, c ∈ cells → c.length = N := by
    intro c hc
    obtain ⟨i, hi⟩ := List.getElem?_of_mem hc
    have hil : i < acc.length := by rw [← hl]; exact (List.getElem?_eq_some_iff.1 hi).1
    rw [← hN]
    exact (hr i _ c (List.getElem?_eq_getElem hil) hi).2.1
  have hsl : ∀ r : List V, r ∈ acc → r.length = s.length := by
    intro r hrm
    obtain ⟨i, hi⟩ := List.getElem?_of_mem hrm
    have hil : i < cells.length := by rw [hl]; exact (List.getElem?_eq_some_iff.1 hi).1
    exact (hr i r _ hi (List.getElem?_eq_getElem hil)).1
  have hrr : ∀ (i j : Nat) (r : List V) (q : Fld) (v : V), acc[i]? = some r → s[j]? = some q → r[j]? = some v → Rep (fun j => B ≤ j ∨ A j) w q v (((cells[i]?).bind fun c => c[j]?).getD undef) := by
    intro i j r q v h1 h2 h3
    have hil : i < cells.length := by rw [hl]; exact (List.getElem?_eq_some_iff.1 h1).1
    have hci : cells[i]? = some cells[i] := List.getElem?_eq_getElem hil
    have h4 := hr i r _ h1 hci
    have hj : j < s.length := (List.getElem?_eq_some_iff.1 h2).1
    have hcj : (cells[i])[j]? = some ((cells[i])[j]'(by rw [h4.2.1]; exact hj)) := List.getElem?_eq_getElem _
    rw [hci]
    simp only [Option.bind_some, hcj, Option.getD_some]
    exact (h4.2.2 j q v _ h2 h3 hcj).mono (fun _ h => .inr h) (Nat.le_refl _) (fun _ _ _ => rfl)
  rcases how.2 with ⟨rfl, hz⟩ | ⟨g, cap, cur, rfl, hb, hg, h1, h2, h3, h4⟩
  · exact .e s acc none 0 0 _ hz (Nat.le_refl _) (Nat.zero_le _) (fun _ => ⟨rfl, rfl⟩) (fun x h => by cases h) hsl (fun _ _ _ _ h => by cases h) hrr
  · refine .e s acc _ _ cap _ rfl h1 h2 (fun h => by cases h) (fun x hx _ => by cases hx; exact ⟨.inl hb, blk_lt hg, rfl⟩) hsl (fun g' o i j hgo hi hj => ?_) hrr
    cases hgo
    have hj' : j < N := by rw [← hN]; exact hj
    have hin : i * N + j < acc.length * N := by
      have := Nat.mul_le_mul_right N (Nat.succ_le_of_lt hi)
      rw [Nat.succ_mul] at this
      omega
    have h5 := h0.cellAt (i * N + j) hin
    rw [Nat.zero_add, hN, h5, flat_get cells i j hcl hj']
    have hil : i < cells.length := by rw [hl]; exact hi
    have hci : cells[i]? = some cells[i] := List.getElem?_eq_getElem hil
    rw [hci]
    simp only [Option.bind_some]
    rw [List.getElem?_eq_getElem (by rw [hcl _ (List.getElem_mem hil)]; exact hj')]
    rfl

theorem set_get {cs : Array Value} {o : Nat} {u : Value} (h : o < cs.size) : (cs.setIfInBounds o u)[o]? = some u := by
  rw [Array.getElem?_setIfInBounds, if_pos rfl, if_pos h]

theorem own_keptR {w w' : World} {B e size n : Nat} {v : Value} {xs : List Value} (h : w.ownsRow B e size v n xs) {W : Nat → Prop} (hk : Kept w w' W) (hW : ∀ k, v.ownBlock = some k → ¬ W k) : w'.ownsRow B e size v n xs := by
  refine ⟨h.1, ?_⟩
  rcases h.2 with h0 | ⟨g, cap, cur, rfl, hb, hg, h1, h2, h3, h4⟩
  · exact .inl h0
  · exact .inr ⟨g, cap, cur, rfl, hb, by rw [hk.block g (blk_lt hg) (hW g rfl)]; exact hg, h1, h2, h3, h4⟩

/-- What a round of the decoding loop finds. -/
def AllRel (C b R o T N : Nat) (s : List Fld) (w : World) (cs : Array Value) (Tb : TypeId) (fin : List (List V) × St) (rem : Nat) (acc : List (List V)) (cells : List (List Value)) (ov : Value) (stk : St) (wr : World) : Prop :=
  Dec wr C R stk ∧ fin = rdN (rdRow s) rem acc stk ∧ acc.length + rem ≤ 4096 ∧ cells.length = acc.length ∧ (∀ (i : Nat) r c, acc[i]? = some r → cells[i]? = some c → RowRep (fun j => w.heap.size ≤ j ∧ ov.ownBlock ≠ some j) wr s r c) ∧
    wr.ownsRow w.heap.size T N ov acc.length cells.flatten ∧ wr.heap[b]? = some (.cells (cs.setIfInBounds o ov) Tb (0, 0)) ∧ Kept w wr (fun i => i = R ∨ i = b)

theorem AllRel.post {C b R o T N : Nat} {s : List Fld} {w : World} {cs : Array Value} {Tb : TypeId} {fin : List (List V) × St} {rem : Nat} {acc : List (List V)} {cells : List (List Value)} {ov : Value} {stk : St} {wr : World} {st : St} (hN : s.length = N)
    (h : AllRel C b R o T N s w cs Tb fin rem acc cells ov stk wr) (hfin : fin = (acc, stk)) (hRb : R < b) (hb : w.heap[b]? = some (.cells cs Tb (0, 0))) (hst : rdV (.e s) st = (.e fin.1, fin.2)) : Post C b (.dec R st) [.e s] o w wr := by
  obtain ⟨h1, h2, h3, h4, h5, h6, h7, h8⟩ := h
  have hrow : rdRow [.e s] st = ([.e acc], stk) := by rw [rdRow_one, hst, hfin]
  refine ⟨by rw [hrow]; exact h1, hRb, blk_lt hb, h8, [ov], ?_, fun cs' T' h' => ?_⟩
  · rw [hrow]
    exact RowRep.one ((own_rep_e hN h4 h5 h6).mono (fun j hj => by rcases hj with h | h; exact h; exact h.1) (Nat.le_refl _) (fun _ _ _ => rfl))
  · rw [hb] at h'
    injection h' with h'
    injection h' with e1 e2 e3
    subst e1 e2
    exact h7

theorem AllRel.step {C b R o T N : Nat} {s : List Fld} {w : World} {cs : Array Value} {Tb : TypeId} {fin : List (List V) × St} {m : Nat} {acc : List (List V)} {cells : List (List Value)} {ov : Value} {bk : Bytes} {wr w2 w3 w4 : World} {zs : Array Value} {us : List Value} {v' : Value}
    (h : AllRel C b R o T N s w cs Tb fin (m + 1) acc cells ov (.ok bk) wr) (hCb : b ≠ C) (hRb : R < b) (hCw : C < w.heap.size) (hbw : b < w.heap.size)
    (hd2 : Dec w2 C R (rdRow s (.ok bk)).2) (hk2 : Kept (wr.alloc (.cells zs T)) w2 (fun k => k = R ∨ k = wr.heap.size)) (hrow : RowRep (fun k => (wr.alloc (.cells zs T)).heap.size ≤ k) w2 s (rdRow s (.ok bk)).1 us)
    (hg3 : w2.grownBy w3 none) (how : w4.ownsRow w.heap.size T N v' (acc.length + 1) (cells.flatten ++ us)) (hg4 : w3.grownBy w4 ov.ownBlock) (hv' : v'.ownBlock = ov.ownBlock ∨ v'.ownBlock = some w3.heap.size) :
    AllRel C b R o T N s w cs Tb fin m (acc ++ [(rdRow s (.ok bk)).1]) (cells ++ [us]) v' (rdRow s (.ok bk)).2 (w4.setCell ⟨b, o, none⟩ v') := by
  obtain ⟨h1, h2, h3, h4, h5, h6, h7, h8⟩ := h
  have hsz : (wr.alloc (.cells zs T)).heap.size = wr.heap.size + 1 := by simp
  have hww : w.heap.size ≤ wr.heap.size := h8.size
  have hown : ∀ k, ov.ownBlock = some k → w.heap.size ≤ k ∧ k < wr.heap.size := fun k hk => h6.lt k hk
  have hs2 := hk2.size
  have hs3 := hg3.size
  have hs4 := hg4.size
  -- what stood in wr below its end, and is none of R, b, ov's block, stands at the end
  have hkeep : ∀ j, j < wr.heap.size → j ≠ R → j ≠ b → ov.ownBlock ≠ some j → (w4.setCell ⟨b, o, none⟩ v').heap[j]? = wr.heap[j]? := by
    intro j hj hjR hjb hjo
    rw [(Lib.grownBy_setCell w4 b o v').block j (by omega) (fun e => by injection e with e; exact hjb e), hg4.block j (by omega) (fun e => hjo e.symm), hg3.block j (by omega) (by simp),
      hk2.block j (by omega) (fun e => by rcases e with e | e; exact hjR e; omega), (World.grownBy_alloc wr _ none).block j hj (by simp)]
  have hb4 : w4.heap[b]? = some (.cells (cs.setIfInBounds o ov) Tb (0, 0)) := by
    rw [hg4.block b (by omega) (fun e => by have := hown b e.symm; omega), hg3.block b (by omega) (by simp), hk2.block b (by omega) (fun e => by rcases e with e | e <;> omega), (World.grownBy_alloc wr _ none).block b (by omega) (by simp)]
    exact h7
  have hk4 : Kept w3 w4 (fun k => ov.ownBlock = some k) := Kept.of_grown hg4 (fun k hk _ => hk)
  have hk5 : Kept w4 (w4.setCell ⟨b, o, none⟩ v') (fun k => k = b) := Kept.of_grown (Lib.grownBy_setCell w4 b o v') (fun k hk _ => by injection hk with hk; exact hk.symm)
  have hRw : R < w.heap.size := by omega
  refine ⟨?_, ?_, by simp; omega, by simp [h4], fun i r c hi hc => ?_, ?_, ?_, ?_⟩
  · exact ((hd2.grown hg3).other hk4 (fun e => by have := hown C e; omega) (fun k hk e => by have := hown k e; omega)).other hk5 (fun e => hCb e.symm) (fun k hk e => by omega)
  · rw [h2, rdN]
  · by_cases hil : i < acc.length
    · rw [List.getElem?_append_left hil] at hi
      rw [List.getElem?_append_left (by omega)] at hc
      refine (h5 i r c hi hc).lt.mono (fun j hj => ⟨hj.1.1, fun e => ?_⟩) (by have := hk5.size; omega) (fun j hj hlt => hkeep j hlt (by have := hj.1.1; omega) (by have := hj.1.1; omega) hj.1.2)
      rcases hv' with e1 | e1
      · exact hj.1.2 (e1.symm.trans e)
      · rw [e1] at e; injection e with e; have := hj.2; omega
    · rw [List.getElem?_append_right (by omega)] at hi hc
      rw [h4] at hc
      have hi0 : i - acc.length = 0 := by
        have := (List.getElem?_eq_some_iff.1 hi).1
        simp at this
        omega
      rw [hi0] at hi hc
      simp at hi hc
      subst hi hc
      refine hrow.lt.mono (fun j hj => ⟨by omega, fun e => ?_⟩) (by have := hk5.size; omega) (fun j hj hlt => ?_)
      · rcases hv' with e1 | e1
        · have := hown j (e1.symm.trans e); omega
        · rw [e1] at e; injection e with e; have := hj.2; omega
      · rw [(Lib.grownBy_setCell w4 b o v').block j (by omega) (fun e => by injection e with e; omega), hg4.block j (by omega) (fun e => by have := hown j e.symm; omega), hg3.block j (by omega) (by simp)]
  · have := own_grown how (Lib.grownBy_setCell w4 b o v') hbw
    rw [List.length_append, List.flatten_append]
    simpa using this
  · rw [blk_setCell hb4]
    congr 2
    simp
  · have ka : Kept wr (wr.alloc (.cells zs T)) (fun k => k = R ∨ k = b ∨ w.heap.size ≤ k) := Kept.of_grown (World.grownBy_alloc wr _ none) (fun k hk => by cases hk)
    have kb : Kept (wr.alloc (.cells zs T)) w2 (fun k => k = R ∨ k = b ∨ w.heap.size ≤ k) := hk2.mono (fun k _ hk => by rcases hk with hk | hk; exact .inl hk; exact .inr (.inr (by omega)))
    have kc : Kept w2 w3 (fun k => k = R ∨ k = b ∨ w.heap.size ≤ k) := Kept.of_grown hg3 (fun k hk => by cases hk)
    have kd : Kept w3 w4 (fun k => k = R ∨ k = b ∨ w.heap.size ≤ k) := hk4.mono (fun k _ hk => .inr (.inr (hown k hk).1))
    have ke : Kept w4 (w4.setCell ⟨b, o, none⟩ v') (fun k => k = R ∨ k = b ∨ w.heap.size ≤ k) := hk5.mono (fun k _ hk => .inr (.inl hk))
    have k8 : Kept w wr (fun k => k = R ∨ k = b ∨ w.heap.size ≤ k) := h8.mono (fun k _ hk => by rcases hk with hk | hk; exact .inl hk; exact .inr (.inl hk))
    exact ((((k8.trans ka).trans kb).trans kc).trans (kd.trans ke)).mono (fun k hk hW => by rcases hW with h | h | h; exact .inl h; exact .inr h; omega)
end Go.Proofs.Ytbcpdjhpceimlaa
